/-
  A layer of one's own: texts Sf.
-/
import Derived.Test.YtpfccegjkhaidaaGreatDoorSmLA
set_option linter.unusedVariables false
set_option maxRecDepth 100000
namespace Sm
open Go

/-- sumpter/sumpterref08.Light -/
def sf148 : SF :=
  ⟨3, 40, [.t 6],
  (.seq (.reg [⟨some 6, .mv (.c (.bool false)), none⟩])
  (.seq (.seq (.reg [⟨some 9, .mv (.s 0), none⟩,
    ⟨some 10, .len (.s 9), none⟩,
    ⟨some 11, .mv (.s 1), none⟩,
    ⟨some 12, .int .gtr (.s 10) (.s 11), none⟩])
  (.cond (.s 12) (.seq (.reg [⟨some 6, .mv (.c (.bool false)), none⟩])
  .ret)
  .skip))
  (.seq (.reg [⟨some 7, .mv (.c (.int .i64 0)), none⟩])
  (.seq (.seq (.reg [⟨some 8, .mv (.c (.int .i64 0)), none⟩])
  (.block 0 (.loop (.seq (.seq (.reg [⟨some 13, .mv (.s 8), none⟩,
    ⟨some 14, .mv (.s 0), none⟩,
    ⟨some 15, .len (.s 14), none⟩,
    ⟨some 16, .int .lss (.s 13) (.s 15), none⟩])
  (.cond (.s 16) .skip
  (.exit 0)))
  (.seq (.block 1 (.seq (.seq (.reg [⟨some 19, .mv (.s 0), none⟩,
    ⟨some 20, .mv (.s 8), none⟩,
    ⟨some 21, .idx 3 (.s 19) (.s 20), none⟩,
    ⟨some 22, .fld 0 (.s 21), none⟩,
    ⟨some 23, .load false 1 (.s 22), none⟩,
    ⟨some 24, .slen (.s 23), none⟩,
    ⟨some 25, .int .gtr (.s 24) (.c (.int .i64 1000)), none⟩])
  (.cond (.s 25) (.seq (.reg [⟨some 6, .mv (.c (.bool false)), none⟩])
  .ret)
  .skip))
  (.seq (.reg [⟨some 26, .mv (.s 7), none⟩,
    ⟨some 27, .mv (.s 0), none⟩,
    ⟨some 28, .mv (.s 8), none⟩,
    ⟨some 29, .idx 3 (.s 27) (.s 28), none⟩,
    ⟨some 30, .fld 2 (.s 29), none⟩,
    ⟨some 31, .load false 1 (.s 30), none⟩,
    ⟨some 32, .len (.s 31), none⟩,
    ⟨some 33, .mv (.s 2), none⟩,
    ⟨some 34, .int .add (.s 33) (.c (.int .i64 1)), none⟩,
    ⟨some 35, .mm false (.s 32) (.s 34), none⟩,
    ⟨some 36, .int .add (.s 26) (.s 35), none⟩,
    ⟨some 7, .mv (.s 36), none⟩])
  (.seq (.reg [⟨some 37, .mv (.s 7), none⟩,
    ⟨some 38, .mv (.s 2), none⟩,
    ⟨some 39, .int .gtr (.s 37) (.s 38), none⟩])
  (.cond (.s 39) (.seq (.reg [⟨some 6, .mv (.c (.bool false)), none⟩])
  .ret)
  .skip)))))
  (.reg [⟨some 17, .mv (.s 8), none⟩,
    ⟨some 18, .int .add (.s 17) (.c (.int .i64 1)), none⟩,
    ⟨some 8, .mv (.s 18), none⟩]))))))
  (.seq (.reg [⟨some 6, .mv (.c (.bool true)), none⟩])
  .ret)))))⟩

/-- sumpter/tree.Get -/
def sf150 : SF :=
  ⟨2, 18, [.cell 4 true 3, .t 5],
  (.seq (.reg [⟨some 4, .alloc (some 0) [.v (.string ⟨#[]⟩), .v (.bool false), .v (.slice none 0 0)], none⟩,
    ⟨some 5, .mv (.c (.bool false)), none⟩])
  (.seq (.reg [⟨some 7, .mv (.s 0), none⟩,
    ⟨some 8, .mv (.s 1), none⟩,
    ⟨some 9, .call 166 [(.s 7), (.s 8)], none⟩,
    ⟨some 6, .mv (.s 9), none⟩])
  (.seq (.seq (.reg [⟨some 10, .mv (.s 6), none⟩,
    ⟨some 11, .int .lss (.s 10) (.c (.int .i64 0)), none⟩])
  (.cond (.s 11) (.seq (.reg [⟨some 12, .build [.v (.string ⟨#[]⟩), .v (.bool false), .v (.slice none 0 0)] [], none⟩,
    ⟨none, .store 3 (.s 4) (.s 12), none⟩,
    ⟨some 5, .mv (.c (.bool false)), none⟩])
  .ret)
  .skip))
  (.seq (.reg [⟨some 13, .mv (.s 0), none⟩,
    ⟨some 14, .mv (.s 6), none⟩,
    ⟨some 15, .idx 3 (.s 13) (.s 14), none⟩,
    ⟨some 16, .load true 3 (.s 15), none⟩,
    ⟨some 17, .call 167 [(.s 16)], none⟩,
    ⟨none, .store 3 (.s 4) (.s 17), none⟩,
    ⟨some 5, .mv (.c (.bool true)), none⟩])
  .ret))))⟩

/-- sumpter/sumpterref08.Get -/
def sf151 : SF :=
  ⟨2, 25, [.cell 4 true 3, .t 5],
  (.seq (.reg [⟨some 4, .alloc (some 0) [.v (.string ⟨#[]⟩), .v (.bool false), .v (.slice none 0 0)], none⟩,
    ⟨some 5, .mv (.c (.bool false)), none⟩])
  (.seq (.seq (.reg [⟨some 6, .mv (.c (.int .i64 0)), none⟩])
  (.block 0 (.loop (.seq (.seq (.reg [⟨some 7, .mv (.s 6), none⟩,
    ⟨some 8, .mv (.s 0), none⟩,
    ⟨some 9, .len (.s 8), none⟩,
    ⟨some 10, .int .lss (.s 7) (.s 9), none⟩])
  (.cond (.s 10) .skip
  (.exit 0)))
  (.seq (.block 1 (.seq (.reg [⟨some 13, .mv (.s 0), none⟩,
    ⟨some 14, .mv (.s 6), none⟩,
    ⟨some 15, .idx 3 (.s 13) (.s 14), none⟩,
    ⟨some 16, .fld 0 (.s 15), none⟩,
    ⟨some 17, .load false 1 (.s 16), none⟩,
    ⟨some 18, .mv (.s 1), none⟩,
    ⟨some 19, .str .eql (.s 17) (.s 18), none⟩])
  (.cond (.s 19) (.seq (.reg [⟨some 20, .mv (.s 0), none⟩,
    ⟨some 21, .mv (.s 6), none⟩,
    ⟨some 22, .idx 3 (.s 20) (.s 21), none⟩,
    ⟨some 23, .load true 3 (.s 22), none⟩,
    ⟨none, .store 3 (.s 4) (.s 23), none⟩,
    ⟨some 5, .mv (.c (.bool true)), none⟩])
  .ret)
  .skip)))
  (.reg [⟨some 11, .mv (.s 6), none⟩,
    ⟨some 12, .int .add (.s 11) (.c (.int .i64 1)), none⟩,
    ⟨some 6, .mv (.s 12), none⟩]))))))
  (.seq (.reg [⟨some 24, .build [.v (.string ⟨#[]⟩), .v (.bool false), .v (.slice none 0 0)] [], none⟩,
    ⟨none, .store 3 (.s 4) (.s 24), none⟩,
    ⟨some 5, .mv (.c (.bool false)), none⟩])
  .ret)))⟩

/-- sumpter/tree.Children -/
def sf152 : SF :=
  ⟨2, 23, [.t 4],
  (.seq (.reg [⟨some 3, .box none 1 (.s 1), none⟩,
    ⟨some 4, .mv (.c (.slice none 0 0)), none⟩])
  (.seq (.reg [⟨some 5, .mv (.c (.slice none 0 0)), none⟩])
  (.seq (.seq (.reg [⟨some 8, .mv (.s 0), none⟩,
    ⟨some 9, .mkfn 168 [(.s 3)], none⟩,
    ⟨some 10, .call 169 [(.s 8), (.s 9)], none⟩,
    ⟨some 11, .len (.s 10), none⟩,
    ⟨some 12, .mv (.c (.int .i64 0)), none⟩])
  (.block 0 (.loop (.seq (.reg [⟨some 13, .int .lss (.s 12) (.s 11), none⟩])
  (.seq (.cond (.s 13) .skip
  (.exit 0))
  (.seq (.block 1 (.seq (.reg [⟨some 14, .idx 3 (.s 10) (.s 12), none⟩,
    ⟨some 15, .load true 3 (.s 14), none⟩,
    ⟨some 7, .alloc (some 1) [.v (.string ⟨#[]⟩), .v (.bool false), .v (.slice none 0 0)], none⟩,
    ⟨none, .store 3 (.s 7) (.s 15), none⟩])
  (.reg [⟨some 16, .mv (.s 5), none⟩,
    ⟨some 17, .fld 0 (.s 7), none⟩,
    ⟨some 18, .load false 1 (.s 17), none⟩,
    ⟨some 19, .bslice 1 [(.s 18)], none⟩,
    ⟨some 20, .app 1 16 (.s 16) (.s 19), none⟩,
    ⟨some 5, .mv (.s 20), none⟩])))
  (.reg [⟨some 21, .int .add (.s 12) (.c (.int .i64 1)), none⟩,
    ⟨some 12, .mv (.s 21), none⟩])))))))
  (.seq (.reg [⟨some 22, .mv (.s 5), none⟩,
    ⟨some 4, .mv (.s 22), none⟩])
  .ret))))⟩

/-- sumpter/sumpterref08.Children (not of this seat) -/
def sf153 : SF :=
  ⟨2, 30, [.t 4],
  (.seq (.reg [⟨some 4, .mv (.c (.slice none 0 0)), none⟩])
  (.seq (.reg [⟨some 5, .mv (.c (.slice none 0 0)), none⟩])
  (.seq (.seq (.reg [⟨some 6, .mv (.c (.int .i64 0)), none⟩])
  (.block 0 (.loop (.seq (.seq (.reg [⟨some 7, .mv (.s 6), none⟩,
    ⟨some 8, .mv (.s 0), none⟩,
    ⟨some 9, .len (.s 8), none⟩,
    ⟨some 10, .int .lss (.s 7) (.s 9), none⟩])
  (.cond (.s 10) .skip
  (.exit 0)))
  (.seq (.block 1 (.seq (.reg [⟨some 13, .mv (.s 0), none⟩,
    ⟨some 14, .mv (.s 6), none⟩,
    ⟨some 15, .idx 3 (.s 13) (.s 14), none⟩,
    ⟨some 16, .fld 0 (.s 15), none⟩,
    ⟨some 17, .load false 1 (.s 16), none⟩,
    ⟨some 18, .call 170 [(.s 17)], none⟩,
    ⟨some 19, .mv (.s 1), none⟩,
    ⟨some 20, .str .eql (.s 18) (.s 19), none⟩])
  (.cond (.s 20) (.reg [⟨some 21, .mv (.s 5), none⟩,
    ⟨some 22, .mv (.s 0), none⟩,
    ⟨some 23, .mv (.s 6), none⟩,
    ⟨some 24, .idx 3 (.s 22) (.s 23), none⟩,
    ⟨some 25, .fld 0 (.s 24), none⟩,
    ⟨some 26, .load false 1 (.s 25), none⟩,
    ⟨some 27, .bslice 1 [(.s 26)], none⟩,
    ⟨some 28, .app 1 16 (.s 21) (.s 27), none⟩,
    ⟨some 5, .mv (.s 28), none⟩])
  .skip)))
  (.reg [⟨some 11, .mv (.s 6), none⟩,
    ⟨some 12, .int .add (.s 11) (.c (.int .i64 1)), none⟩,
    ⟨some 6, .mv (.s 12), none⟩]))))))
  (.seq (.reg [⟨some 29, .mv (.s 5), none⟩,
    ⟨some 4, .mv (.s 29), none⟩])
  .ret))))⟩

/-- sumpter/sumpterref08.SameEntry -/
def sf154 : SF :=
  ⟨2, 26, [.t 4],
  (.seq (.reg [⟨some 2, .box (some 0) 3 (.s 0), none⟩,
    ⟨some 3, .box (some 1) 3 (.s 1), none⟩,
    ⟨some 4, .mv (.c (.bool false)), none⟩])
  (.seq (.reg [⟨some 5, .fld 0 (.s 2), none⟩,
    ⟨some 6, .load false 1 (.s 5), none⟩,
    ⟨some 7, .fld 0 (.s 3), none⟩,
    ⟨some 8, .load false 1 (.s 7), none⟩,
    ⟨some 9, .str .eql (.s 6) (.s 8), none⟩,
    ⟨some 10, .mv (.s 9), none⟩,
    ⟨some 11, .fld 1 (.s 2), (some (10, true))⟩,
    ⟨some 12, .load false 1 (.s 11), (some (10, true))⟩,
    ⟨some 13, .fld 1 (.s 3), (some (10, true))⟩,
    ⟨some 14, .load false 1 (.s 13), (some (10, true))⟩,
    ⟨some 15, .eq .bool false (.s 12) (.s 14), (some (10, true))⟩,
    ⟨some 16, .pick (.s 10) (.s 15) (.c (.bool false)), none⟩,
    ⟨some 17, .mv (.s 16), none⟩,
    ⟨some 18, .fld 2 (.s 2), (some (17, true))⟩,
    ⟨some 19, .load false 1 (.s 18), (some (17, true))⟩,
    ⟨some 20, .nd .b2s [(.s 19)], (some (17, true))⟩,
    ⟨some 21, .fld 2 (.s 3), (some (17, true))⟩,
    ⟨some 22, .load false 1 (.s 21), (some (17, true))⟩,
    ⟨some 23, .nd .b2s [(.s 22)], (some (17, true))⟩,
    ⟨some 24, .str .eql (.s 20) (.s 23), (some (17, true))⟩,
    ⟨some 25, .pick (.s 17) (.s 24) (.c (.bool false)), none⟩,
    ⟨some 4, .mv (.s 25), none⟩])
  .ret))⟩

/-- sumpter/sumpterref08.Copy (not of this seat) -/
def sf155 : SF :=
  ⟨1, 26, [.t 2],
  (.seq (.reg [⟨some 2, .mv (.c (.slice none 0 0)), none⟩])
  (.seq (.reg [⟨some 3, .mv (.c (.slice none 0 0)), none⟩])
  (.seq (.seq (.reg [⟨some 4, .mv (.c (.int .i64 0)), none⟩])
  (.block 0 (.loop (.seq (.seq (.reg [⟨some 6, .mv (.s 4), none⟩,
    ⟨some 7, .mv (.s 0), none⟩,
    ⟨some 8, .len (.s 7), none⟩,
    ⟨some 9, .int .lss (.s 6) (.s 8), none⟩])
  (.cond (.s 9) .skip
  (.exit 0)))
  (.seq (.block 1 (.seq (.reg [⟨some 12, .mv (.s 0), none⟩,
    ⟨some 13, .mv (.s 4), none⟩,
    ⟨some 14, .idx 3 (.s 12) (.s 13), none⟩,
    ⟨some 15, .load true 3 (.s 14), none⟩,
    ⟨some 5, .alloc (some 0) [.v (.string ⟨#[]⟩), .v (.bool false), .v (.slice none 0 0)], none⟩,
    ⟨none, .store 3 (.s 5) (.s 15), none⟩])
  (.seq (.reg [⟨some 16, .bslice 1 [], none⟩,
    ⟨some 17, .fld 2 (.s 5), none⟩,
    ⟨some 18, .load false 1 (.s 17), none⟩,
    ⟨some 19, .app 1 1 (.s 16) (.s 18), none⟩,
    ⟨some 20, .fld 2 (.s 5), none⟩,
    ⟨none, .store 1 (.s 20) (.s 19), none⟩])
  (.reg [⟨some 21, .mv (.s 3), none⟩,
    ⟨some 22, .load true 3 (.s 5), none⟩,
    ⟨some 23, .bslice 3 [(.s 22)], none⟩,
    ⟨some 24, .app 3 48 (.s 21) (.s 23), none⟩,
    ⟨some 3, .mv (.s 24), none⟩]))))
  (.reg [⟨some 10, .mv (.s 4), none⟩,
    ⟨some 11, .int .add (.s 10) (.c (.int .i64 1)), none⟩,
    ⟨some 4, .mv (.s 11), none⟩]))))))
  (.seq (.reg [⟨some 25, .mv (.s 3), none⟩,
    ⟨some 2, .mv (.s 25), none⟩])
  .ret))))⟩

/-- sumpter/tree.Put -/
def sf156 : SF :=
  ⟨2, 62, [.t 4, .t 5],
  (.seq (.reg [⟨some 3, .box none 3 (.s 1), none⟩,
    ⟨some 4, .mv (.c (.slice none 0 0)), none⟩,
    ⟨some 5, .mv (.c (.int .i64 0)), none⟩])
  (.seq (.seq (.reg [⟨some 11, .mv (.s 0), none⟩,
    ⟨some 12, .call 161 [(.s 11)], none⟩,
    ⟨some 6, .mv (.s 12), none⟩])
  (.seq (.reg [⟨some 13, .mv (.s 6), none⟩,
    ⟨some 14, .int .neq (.s 13) (.c (.int .i64 0)), none⟩])
  (.cond (.s 14) (.seq (.reg [⟨some 15, .mv (.s 6), none⟩,
    ⟨some 4, .mv (.c (.slice none 0 0)), none⟩,
    ⟨some 5, .mv (.s 15), none⟩])
  .ret)
  .skip)))
  (.seq (.reg [⟨some 16, .mv (.s 0), none⟩,
    ⟨some 17, .call 171 [(.s 16)], none⟩,
    ⟨some 7, .mv (.s 17), none⟩])
  (.seq (.seq (.reg [⟨some 18, .mv (.s 0), none⟩,
    ⟨some 19, .fld 0 (.s 3), none⟩,
    ⟨some 20, .load false 1 (.s 19), none⟩,
    ⟨some 21, .call 166 [(.s 18), (.s 20)], none⟩,
    ⟨some 8, .mv (.s 21), none⟩])
  (.block 0 (.seq (.dreg [0, 1, 2, 3, 4, 5, 6, 8, 7, 9, 10, 11, 12] [⟨⟨some 36, .mv (.s 8), none⟩, []⟩,
    ⟨⟨some 37, .int .geq (.s 36) (.c (.int .i64 0)), none⟩, []⟩,
    ⟨⟨some 38, .mv (.s 37), none⟩, []⟩,
    ⟨⟨some 39, .mv (.s 0), (some (38, true))⟩, []⟩,
    ⟨⟨some 40, .mv (.s 8), (some (38, true))⟩, []⟩,
    ⟨⟨some 41, .idx 3 (.s 39) (.s 40), (some (38, true))⟩, []⟩,
    ⟨⟨some 42, .fld 1 (.s 41), (some (38, true))⟩, []⟩,
    ⟨⟨some 44, .fld 1 (.s 3), (some (38, true))⟩, []⟩,
    ⟨⟨some 43, .load false 1 (.s 42), (some (38, true))⟩, []⟩,
    ⟨⟨some 45, .load false 1 (.s 44), (some (38, true))⟩, []⟩,
    ⟨⟨some 46, .eq .bool true (.s 43) (.s 45), (some (38, true))⟩, []⟩,
    ⟨⟨some 47, .pick (.s 38) (.s 46) (.c (.bool false)), none⟩, []⟩,
    ⟨⟨some 35, .mv (.s 47), none⟩, []⟩])
  (.cond (.s 35) (.seq (.reg [⟨some 4, .mv (.c (.slice none 0 0)), none⟩,
    ⟨some 5, .mv (.c (.int .i64 9)), none⟩])
  .ret)
  (.seq (.reg [⟨some 49, .mv (.s 8), none⟩,
    ⟨some 50, .int .geq (.s 49) (.c (.int .i64 0)), none⟩,
    ⟨some 48, .mv (.s 50), none⟩])
  (.cond (.s 48) (.reg [⟨some 51, .mv (.s 7), none⟩,
    ⟨some 52, .mv (.s 8), none⟩,
    ⟨some 53, .load true 3 (.s 3), none⟩,
    ⟨some 54, .call 167 [(.s 53)], none⟩,
    ⟨some 55, .idx 3 (.s 51) (.s 52), none⟩,
    ⟨none, .store 3 (.s 55) (.s 54), none⟩])
  (.seq (.reg [⟨some 22, .mv (.s 0), none⟩,
    ⟨some 23, .mkfn 172 [(.s 3)], none⟩,
    ⟨some 24, .call 173 [(.s 22), (.s 23)], none⟩,
    ⟨some 9, .mv (.s 24), none⟩])
  (.seq (.seq (.reg [⟨some 25, .mv (.s 9), none⟩,
    ⟨some 26, .int .lss (.s 25) (.c (.int .i64 0)), none⟩])
  (.cond (.s 26) (.reg [⟨some 27, .mv (.s 0), none⟩,
    ⟨some 28, .len (.s 27), none⟩,
    ⟨some 9, .mv (.s 28), none⟩])
  .skip))
  (.reg [⟨some 29, .mv (.s 7), none⟩,
    ⟨some 30, .mv (.s 9), none⟩,
    ⟨some 31, .load true 3 (.s 3), none⟩,
    ⟨some 32, .call 167 [(.s 31)], none⟩,
    ⟨some 33, .bslice 3 [(.s 32)], none⟩,
    ⟨some 34, .call 174 [(.s 29), (.s 30), (.s 33)], none⟩,
    ⟨some 7, .mv (.s 34), none⟩])))))))))
  (.seq (.seq (.reg [⟨some 56, .mv (.s 7), none⟩,
    ⟨some 57, .call 161 [(.s 56)], none⟩,
    ⟨some 10, .mv (.s 57), none⟩])
  (.seq (.reg [⟨some 58, .mv (.s 10), none⟩,
    ⟨some 59, .int .neq (.s 58) (.c (.int .i64 0)), none⟩])
  (.cond (.s 59) (.seq (.reg [⟨some 60, .mv (.s 10), none⟩,
    ⟨some 4, .mv (.c (.slice none 0 0)), none⟩,
    ⟨some 5, .mv (.s 60), none⟩])
  .ret)
  .skip)))
  (.seq (.reg [⟨some 61, .mv (.s 7), none⟩,
    ⟨some 4, .mv (.s 61), none⟩,
    ⟨some 5, .mv (.c (.int .i64 0)), none⟩])
  .ret))))))⟩

/-- sumpter/sumpterref08.Put (not of this seat) -/
def sf157 : SF :=
  ⟨2, 82, [.t 4, .t 5],
  (.seq (.reg [⟨some 3, .box (some 0) 3 (.s 1), none⟩,
    ⟨some 4, .mv (.c (.slice none 0 0)), none⟩,
    ⟨some 5, .mv (.c (.int .i64 0)), none⟩])
  (.seq (.reg [⟨some 12, .mv (.s 0), none⟩,
    ⟨some 13, .call 175 [(.s 12)], none⟩,
    ⟨some 6, .mv (.s 13), none⟩])
  (.seq (.seq (.reg [⟨some 14, .mv (.s 6), none⟩,
    ⟨some 15, .int .neq (.s 14) (.c (.int .i64 0)), none⟩])
  (.cond (.s 15) (.seq (.reg [⟨some 16, .mv (.s 6), none⟩,
    ⟨some 4, .mv (.c (.slice none 0 0)), none⟩,
    ⟨some 5, .mv (.s 16), none⟩])
  .ret)
  .skip))
  (.seq (.reg [⟨some 18, .mv (.s 0), none⟩,
    ⟨some 19, .fld 0 (.s 3), none⟩,
    ⟨some 20, .load false 1 (.s 19), none⟩,
    ⟨some 21, .call 151 [(.s 18), (.s 20)], none⟩,
    ⟨some 17, .mv (.s 21), none⟩,
    ⟨some 22, .ext (.s 17) 0, none⟩,
    ⟨some 23, .ext (.s 17) 1, none⟩,
    ⟨some 7, .alloc (some 1) [.v (.string ⟨#[]⟩), .v (.bool false), .v (.slice none 0 0)], none⟩,
    ⟨none, .store 3 (.s 7) (.s 22), none⟩,
    ⟨some 8, .mv (.s 23), none⟩])
  (.seq (.seq (.reg [⟨some 24, .mv (.s 8), none⟩,
    ⟨some 25, .mv (.s 24), none⟩,
    ⟨some 26, .fld 1 (.s 7), (some (25, true))⟩,
    ⟨some 27, .load false 1 (.s 26), (some (25, true))⟩,
    ⟨some 28, .fld 1 (.s 3), (some (25, true))⟩,
    ⟨some 29, .load false 1 (.s 28), (some (25, true))⟩,
    ⟨some 30, .eq .bool true (.s 27) (.s 29), (some (25, true))⟩,
    ⟨some 31, .pick (.s 25) (.s 30) (.c (.bool false)), none⟩])
  (.cond (.s 31) (.seq (.reg [⟨some 4, .mv (.c (.slice none 0 0)), none⟩,
    ⟨some 5, .mv (.c (.int .i64 9)), none⟩])
  .ret)
  .skip))
  (.seq (.reg [⟨some 9, .mv (.c (.slice none 0 0)), none⟩])
  (.seq (.reg [⟨some 10, .mv (.c (.bool false)), none⟩])
  (.seq (.seq (.reg [⟨some 11, .mv (.c (.int .i64 0)), none⟩])
  (.block 0 (.loop (.seq (.seq (.reg [⟨some 32, .mv (.s 11), none⟩,
    ⟨some 33, .mv (.s 0), none⟩,
    ⟨some 34, .len (.s 33), none⟩,
    ⟨some 35, .int .lss (.s 32) (.s 34), none⟩])
  (.cond (.s 35) .skip
  (.exit 0)))
  (.seq (.block 1 (.seq (.seq (.dreg [0, 1, 2, 3, 4, 5, 6, 8, 7, 9, 10, 11, 12] [⟨⟨some 38, .mv (.s 10), none⟩, []⟩,
    ⟨⟨some 39, .not (.s 38), none⟩, []⟩,
    ⟨⟨some 40, .mv (.s 39), none⟩, []⟩,
    ⟨⟨some 41, .mv (.s 0), (some (40, true))⟩, []⟩,
    ⟨⟨some 42, .mv (.s 11), (some (40, true))⟩, []⟩,
    ⟨⟨some 43, .idx 3 (.s 41) (.s 42), (some (40, true))⟩, []⟩,
    ⟨⟨some 44, .fld 0 (.s 43), (some (40, true))⟩, []⟩,
    ⟨⟨some 46, .fld 0 (.s 3), (some (40, true))⟩, []⟩,
    ⟨⟨some 45, .load false 1 (.s 44), (some (40, true))⟩, []⟩,
    ⟨⟨some 47, .load false 1 (.s 46), (some (40, true))⟩, []⟩,
    ⟨⟨some 48, .call 176 [(.s 45), (.s 47)], (some (40, true))⟩, []⟩,
    ⟨⟨some 49, .not (.s 48), (some (40, true))⟩, []⟩,
    ⟨⟨some 50, .pick (.s 40) (.s 49) (.c (.bool false)), none⟩, []⟩])
  (.cond (.s 50) (.seq (.reg [⟨some 51, .mv (.s 9), none⟩,
    ⟨some 52, .load true 3 (.s 3), none⟩,
    ⟨some 53, .bslice 3 [(.s 52)], none⟩,
    ⟨some 54, .app 3 48 (.s 51) (.s 53), none⟩,
    ⟨some 9, .mv (.s 54), none⟩])
  (.reg [⟨some 10, .mv (.c (.bool true)), none⟩]))
  .skip))
  (.seq (.dreg [0, 1, 2, 3, 5, 4, 6, 7] [⟨⟨some 55, .mv (.s 0), none⟩, []⟩,
    ⟨⟨some 56, .mv (.s 11), none⟩, []⟩,
    ⟨⟨some 57, .idx 3 (.s 55) (.s 56), none⟩, []⟩,
    ⟨⟨some 58, .fld 0 (.s 57), none⟩, []⟩,
    ⟨⟨some 60, .fld 0 (.s 3), none⟩, []⟩,
    ⟨⟨some 59, .load false 1 (.s 58), none⟩, []⟩,
    ⟨⟨some 61, .load false 1 (.s 60), none⟩, []⟩,
    ⟨⟨some 62, .str .neq (.s 59) (.s 61), none⟩, []⟩])
  (.cond (.s 62) (.reg [⟨some 63, .mv (.s 9), none⟩,
    ⟨some 64, .mv (.s 0), none⟩,
    ⟨some 65, .mv (.s 11), none⟩,
    ⟨some 66, .idx 3 (.s 64) (.s 65), none⟩,
    ⟨some 67, .load true 3 (.s 66), none⟩,
    ⟨some 68, .bslice 3 [(.s 67)], none⟩,
    ⟨some 69, .app 3 48 (.s 63) (.s 68), none⟩,
    ⟨some 9, .mv (.s 69), none⟩])
  .skip))))
  (.reg [⟨some 36, .mv (.s 11), none⟩,
    ⟨some 37, .int .add (.s 36) (.c (.int .i64 1)), none⟩,
    ⟨some 11, .mv (.s 37), none⟩]))))))
  (.seq (.seq (.reg [⟨some 70, .mv (.s 10), none⟩,
    ⟨some 71, .not (.s 70), none⟩])
  (.cond (.s 71) (.reg [⟨some 72, .mv (.s 9), none⟩,
    ⟨some 73, .load true 3 (.s 3), none⟩,
    ⟨some 74, .bslice 3 [(.s 73)], none⟩,
    ⟨some 75, .app 3 48 (.s 72) (.s 74), none⟩,
    ⟨some 9, .mv (.s 75), none⟩])
  .skip))
  (.seq (.reg [⟨some 76, .mv (.s 9), none⟩,
    ⟨some 77, .call 175 [(.s 76)], none⟩,
    ⟨some 6, .mv (.s 77), none⟩])
  (.seq (.seq (.reg [⟨some 78, .mv (.s 6), none⟩,
    ⟨some 79, .int .neq (.s 78) (.c (.int .i64 0)), none⟩])
  (.cond (.s 79) (.seq (.reg [⟨some 80, .mv (.s 6), none⟩,
    ⟨some 4, .mv (.c (.slice none 0 0)), none⟩,
    ⟨some 5, .mv (.s 80), none⟩])
  .ret)
  .skip))
  (.seq (.reg [⟨some 81, .mv (.s 9), none⟩,
    ⟨some 4, .mv (.s 81), none⟩,
    ⟨some 5, .mv (.c (.int .i64 0)), none⟩])
  .ret))))))))))))⟩

/-- sumpter/tree.Remove -/
def sf158 : SF :=
  ⟨2, 38, [.t 4, .t 5],
  (.seq (.reg [⟨some 4, .mv (.c (.slice none 0 0)), none⟩,
    ⟨some 5, .mv (.c (.int .i64 0)), none⟩])
  (.seq (.seq (.reg [⟨some 8, .mv (.s 0), none⟩,
    ⟨some 9, .call 161 [(.s 8)], none⟩,
    ⟨some 6, .mv (.s 9), none⟩])
  (.seq (.reg [⟨some 10, .mv (.s 6), none⟩,
    ⟨some 11, .int .neq (.s 10) (.c (.int .i64 0)), none⟩])
  (.cond (.s 11) (.seq (.reg [⟨some 12, .mv (.s 6), none⟩,
    ⟨some 4, .mv (.c (.slice none 0 0)), none⟩,
    ⟨some 5, .mv (.s 12), none⟩])
  .ret)
  .skip)))
  (.seq (.reg [⟨some 13, .mv (.s 0), none⟩,
    ⟨some 14, .mv (.s 1), none⟩,
    ⟨some 15, .call 166 [(.s 13), (.s 14)], none⟩,
    ⟨some 7, .mv (.s 15), none⟩])
  (.seq (.block 0 (.seq (.reg [⟨some 17, .mv (.s 7), none⟩,
    ⟨some 18, .int .lss (.s 17) (.c (.int .i64 0)), none⟩,
    ⟨some 16, .mv (.s 18), none⟩])
  (.cond (.s 16) (.seq (.reg [⟨some 4, .mv (.c (.slice none 0 0)), none⟩,
    ⟨some 5, .mv (.c (.int .i64 8)), none⟩])
  .ret)
  (.seq (.reg [⟨some 20, .mv (.s 0), none⟩,
    ⟨some 21, .mv (.s 7), none⟩,
    ⟨some 22, .idx 3 (.s 20) (.s 21), none⟩,
    ⟨some 23, .fld 1 (.s 22), none⟩,
    ⟨some 24, .load false 1 (.s 23), none⟩,
    ⟨some 25, .mv (.s 24), none⟩,
    ⟨some 26, .mv (.s 0), (some (25, true))⟩,
    ⟨some 27, .mv (.s 1), (some (25, true))⟩,
    ⟨some 28, .call 152 [(.s 26), (.s 27)], (some (25, true))⟩,
    ⟨some 29, .len (.s 28), (some (25, true))⟩,
    ⟨some 30, .int .gtr (.s 29) (.c (.int .i64 0)), (some (25, true))⟩,
    ⟨some 31, .pick (.s 25) (.s 30) (.c (.bool false)), none⟩,
    ⟨some 19, .mv (.s 31), none⟩])
  (.cond (.s 19) (.seq (.reg [⟨some 4, .mv (.c (.slice none 0 0)), none⟩,
    ⟨some 5, .mv (.c (.int .i64 10)), none⟩])
  .ret)
  .skip)))))
  (.seq (.reg [⟨some 32, .mv (.s 0), none⟩,
    ⟨some 33, .call 171 [(.s 32)], none⟩,
    ⟨some 34, .mv (.s 7), none⟩,
    ⟨some 35, .mv (.s 7), none⟩,
    ⟨some 36, .int .add (.s 35) (.c (.int .i64 1)), none⟩,
    ⟨some 37, .call 177 [(.s 33), (.s 34), (.s 36)], none⟩,
    ⟨some 4, .mv (.s 37), none⟩,
    ⟨some 5, .mv (.c (.int .i64 0)), none⟩])
  .ret)))))⟩

/-- sumpter/sumpterref08.Remove (not of this seat) -/
def sf159 : SF :=
  ⟨2, 56, [.t 4, .t 5],
  (.seq (.reg [⟨some 4, .mv (.c (.slice none 0 0)), none⟩,
    ⟨some 5, .mv (.c (.int .i64 0)), none⟩])
  (.seq (.reg [⟨some 11, .mv (.s 0), none⟩,
    ⟨some 12, .call 175 [(.s 11)], none⟩,
    ⟨some 6, .mv (.s 12), none⟩])
  (.seq (.seq (.reg [⟨some 13, .mv (.s 6), none⟩,
    ⟨some 14, .int .neq (.s 13) (.c (.int .i64 0)), none⟩])
  (.cond (.s 14) (.seq (.reg [⟨some 15, .mv (.s 6), none⟩,
    ⟨some 4, .mv (.c (.slice none 0 0)), none⟩,
    ⟨some 5, .mv (.s 15), none⟩])
  .ret)
  .skip))
  (.seq (.reg [⟨some 17, .mv (.s 0), none⟩,
    ⟨some 18, .mv (.s 1), none⟩,
    ⟨some 19, .call 151 [(.s 17), (.s 18)], none⟩,
    ⟨some 16, .mv (.s 19), none⟩,
    ⟨some 20, .ext (.s 16) 0, none⟩,
    ⟨some 21, .ext (.s 16) 1, none⟩,
    ⟨some 7, .alloc (some 0) [.v (.string ⟨#[]⟩), .v (.bool false), .v (.slice none 0 0)], none⟩,
    ⟨none, .store 3 (.s 7) (.s 20), none⟩,
    ⟨some 8, .mv (.s 21), none⟩])
  (.seq (.block 0 (.seq (.reg [⟨some 23, .mv (.s 8), none⟩,
    ⟨some 24, .not (.s 23), none⟩,
    ⟨some 22, .mv (.s 24), none⟩])
  (.cond (.s 22) (.seq (.reg [⟨some 4, .mv (.c (.slice none 0 0)), none⟩,
    ⟨some 5, .mv (.c (.int .i64 8)), none⟩])
  .ret)
  (.seq (.reg [⟨some 26, .fld 1 (.s 7), none⟩,
    ⟨some 27, .load false 1 (.s 26), none⟩,
    ⟨some 28, .mv (.s 27), none⟩,
    ⟨some 29, .mv (.s 0), (some (28, true))⟩,
    ⟨some 30, .mv (.s 1), (some (28, true))⟩,
    ⟨some 31, .call 153 [(.s 29), (.s 30)], (some (28, true))⟩,
    ⟨some 32, .len (.s 31), (some (28, true))⟩,
    ⟨some 33, .int .gtr (.s 32) (.c (.int .i64 0)), (some (28, true))⟩,
    ⟨some 34, .pick (.s 28) (.s 33) (.c (.bool false)), none⟩,
    ⟨some 25, .mv (.s 34), none⟩])
  (.cond (.s 25) (.seq (.reg [⟨some 4, .mv (.c (.slice none 0 0)), none⟩,
    ⟨some 5, .mv (.c (.int .i64 10)), none⟩])
  .ret)
  .skip)))))
  (.seq (.reg [⟨some 9, .mv (.c (.slice none 0 0)), none⟩])
  (.seq (.seq (.reg [⟨some 10, .mv (.c (.int .i64 0)), none⟩])
  (.block 1 (.loop (.seq (.seq (.reg [⟨some 35, .mv (.s 10), none⟩,
    ⟨some 36, .mv (.s 0), none⟩,
    ⟨some 37, .len (.s 36), none⟩,
    ⟨some 38, .int .lss (.s 35) (.s 37), none⟩])
  (.cond (.s 38) .skip
  (.exit 1)))
  (.seq (.block 2 (.seq (.reg [⟨some 41, .mv (.s 0), none⟩,
    ⟨some 42, .mv (.s 10), none⟩,
    ⟨some 43, .idx 3 (.s 41) (.s 42), none⟩,
    ⟨some 44, .fld 0 (.s 43), none⟩,
    ⟨some 45, .load false 1 (.s 44), none⟩,
    ⟨some 46, .mv (.s 1), none⟩,
    ⟨some 47, .str .neq (.s 45) (.s 46), none⟩])
  (.cond (.s 47) (.reg [⟨some 48, .mv (.s 9), none⟩,
    ⟨some 49, .mv (.s 0), none⟩,
    ⟨some 50, .mv (.s 10), none⟩,
    ⟨some 51, .idx 3 (.s 49) (.s 50), none⟩,
    ⟨some 52, .load true 3 (.s 51), none⟩,
    ⟨some 53, .bslice 3 [(.s 52)], none⟩,
    ⟨some 54, .app 3 48 (.s 48) (.s 53), none⟩,
    ⟨some 9, .mv (.s 54), none⟩])
  .skip)))
  (.reg [⟨some 39, .mv (.s 10), none⟩,
    ⟨some 40, .int .add (.s 39) (.c (.int .i64 1)), none⟩,
    ⟨some 10, .mv (.s 40), none⟩]))))))
  (.seq (.reg [⟨some 55, .mv (.s 9), none⟩,
    ⟨some 4, .mv (.s 55), none⟩,
    ⟨some 5, .mv (.c (.int .i64 0)), none⟩])
  .ret))))))))⟩

/-- sumpter/sumpterref08.Same -/
def sf160 : SF :=
  ⟨2, 27, [.t 4],
  (.seq (.reg [⟨some 4, .mv (.c (.bool false)), none⟩])
  (.seq (.seq (.reg [⟨some 6, .mv (.s 0), none⟩,
    ⟨some 7, .len (.s 6), none⟩,
    ⟨some 8, .mv (.s 1), none⟩,
    ⟨some 9, .len (.s 8), none⟩,
    ⟨some 10, .int .neq (.s 7) (.s 9), none⟩])
  (.cond (.s 10) (.seq (.reg [⟨some 4, .mv (.c (.bool false)), none⟩])
  .ret)
  .skip))
  (.seq (.seq (.reg [⟨some 5, .mv (.c (.int .i64 0)), none⟩])
  (.block 0 (.loop (.seq (.seq (.reg [⟨some 11, .mv (.s 5), none⟩,
    ⟨some 12, .mv (.s 0), none⟩,
    ⟨some 13, .len (.s 12), none⟩,
    ⟨some 14, .int .lss (.s 11) (.s 13), none⟩])
  (.cond (.s 14) .skip
  (.exit 0)))
  (.seq (.block 1 (.seq (.dreg [0, 1, 2, 4, 5, 6, 3, 7, 8, 9] [⟨⟨some 17, .mv (.s 0), none⟩, []⟩,
    ⟨⟨some 18, .mv (.s 5), none⟩, []⟩,
    ⟨⟨some 19, .idx 3 (.s 17) (.s 18), none⟩, []⟩,
    ⟨⟨some 21, .mv (.s 1), none⟩, []⟩,
    ⟨⟨some 22, .mv (.s 5), none⟩, []⟩,
    ⟨⟨some 23, .idx 3 (.s 21) (.s 22), none⟩, []⟩,
    ⟨⟨some 20, .load true 3 (.s 19), none⟩, []⟩,
    ⟨⟨some 24, .load true 3 (.s 23), none⟩, []⟩,
    ⟨⟨some 25, .call 154 [(.s 20), (.s 24)], none⟩, []⟩,
    ⟨⟨some 26, .not (.s 25), none⟩, []⟩])
  (.cond (.s 26) (.seq (.reg [⟨some 4, .mv (.c (.bool false)), none⟩])
  .ret)
  .skip)))
  (.reg [⟨some 15, .mv (.s 5), none⟩,
    ⟨some 16, .int .add (.s 15) (.c (.int .i64 1)), none⟩,
    ⟨some 5, .mv (.s 16), none⟩]))))))
  (.seq (.reg [⟨some 4, .mv (.c (.bool true)), none⟩])
  .ret))))⟩

/-- sumpter/tree.Check -/
def sf161 : SF :=
  ⟨1, 25, [.t 2],
  (.seq (.reg [⟨some 2, .mv (.c (.int .i64 0)), none⟩])
  (.seq (.seq (.reg [⟨some 6, .mv (.s 0), none⟩,
    ⟨some 7, .len (.s 6), none⟩,
    ⟨some 8, .int .gtr (.s 7) (.c (.int .i64 64)), none⟩])
  (.cond (.s 8) (.seq (.reg [⟨some 2, .mv (.c (.int .i64 5)), none⟩])
  .ret)
  .skip))
  (.seq (.seq (.reg [⟨some 9, .mv (.s 0), none⟩,
    ⟨some 10, .len (.s 9), none⟩,
    ⟨some 11, .mv (.c (.int .i64 0)), none⟩])
  (.block 0 (.loop (.seq (.reg [⟨some 12, .int .lss (.s 11) (.s 10), none⟩])
  (.seq (.cond (.s 12) .skip
  (.exit 0))
  (.seq (.block 1 (.seq (.reg [⟨some 13, .mv (.s 11), none⟩,
    ⟨some 14, .idx 3 (.s 9) (.s 11), none⟩,
    ⟨some 15, .load true 3 (.s 14), none⟩,
    ⟨some 4, .alloc (some 0) [.v (.string ⟨#[]⟩), .v (.bool false), .v (.slice none 0 0)], none⟩,
    ⟨some 3, .mv (.s 13), none⟩,
    ⟨none, .store 3 (.s 4) (.s 15), none⟩])
  (.seq (.dreg [0, 1, 2, 3, 4, 5] [⟨⟨some 16, .mv (.s 0), none⟩, []⟩,
    ⟨⟨some 17, .mv (.s 3), none⟩, []⟩,
    ⟨⟨some 18, .slc 3 (.s 16) none (some (.s 17)) none, none⟩, []⟩,
    ⟨⟨some 19, .load true 3 (.s 4), none⟩, []⟩,
    ⟨⟨some 20, .call 178 [(.s 18), (.s 19)], none⟩, []⟩,
    ⟨⟨some 5, .mv (.s 20), none⟩, []⟩])
  (.seq (.reg [⟨some 21, .mv (.s 5), none⟩,
    ⟨some 22, .int .neq (.s 21) (.c (.int .i64 0)), none⟩])
  (.cond (.s 22) (.seq (.reg [⟨some 23, .mv (.s 5), none⟩,
    ⟨some 2, .mv (.s 23), none⟩])
  .ret)
  .skip)))))
  (.reg [⟨some 24, .int .add (.s 11) (.c (.int .i64 1)), none⟩,
    ⟨some 11, .mv (.s 24), none⟩])))))))
  (.seq (.reg [⟨some 2, .mv (.c (.int .i64 0)), none⟩])
  .ret))))⟩

/-- sumpter/tree.Same -/
def sf162 : SF :=
  ⟨2, 8, [.t 4],
  (.seq (.reg [⟨some 4, .mv (.c (.bool false)), none⟩])
  (.seq (.reg [⟨some 5, .mv (.s 0), none⟩,
    ⟨some 6, .mv (.s 1), none⟩,
    ⟨some 7, .call 179 [(.s 5), (.s 6), (.f 180)], none⟩,
    ⟨some 4, .mv (.s 7), none⟩])
  .ret))⟩

/-- sumpter/path.Less -/
def sf163 : SF :=
  ⟨2, 11, [.t 4],
  (.seq (.reg [⟨some 4, .mv (.c (.bool false)), none⟩])
  (.seq (.reg [⟨some 5, .mv (.s 0), none⟩,
    ⟨some 6, .call 181 [(.s 5)], none⟩,
    ⟨some 7, .mv (.s 1), none⟩,
    ⟨some 8, .call 181 [(.s 7)], none⟩,
    ⟨some 9, .call 182 [(.s 6), (.s 8)], none⟩,
    ⟨some 10, .int .lss (.s 9) (.c (.int .i64 0)), none⟩,
    ⟨some 4, .mv (.s 10), none⟩])
  .ret))⟩

/-- sumpter/path.Parent -/
def sf164 : SF :=
  ⟨1, 11, [.t 2],
  (.seq (.reg [⟨some 2, .mv (.c (.string ⟨#[]⟩)), none⟩])
  (.seq (.reg [⟨some 6, .mv (.s 0), none⟩,
    ⟨some 7, .call 183 [(.s 6)], none⟩,
    ⟨some 5, .mv (.s 7), none⟩,
    ⟨some 8, .ext (.s 5) 0, none⟩,
    ⟨some 9, .ext (.s 5) 1, none⟩,
    ⟨some 3, .mv (.s 8), none⟩,
    ⟨some 4, .mv (.s 9), none⟩])
  (.seq (.reg [⟨some 10, .mv (.s 3), none⟩,
    ⟨some 2, .mv (.s 10), none⟩])
  .ret)))⟩

/-- sumpter/tree.find -/
def sf166 : SF :=
  ⟨2, 8, [.t 4],
  (.seq (.reg [⟨some 3, .box none 1 (.s 1), none⟩,
    ⟨some 4, .mv (.c (.int .i64 0)), none⟩])
  (.seq (.reg [⟨some 5, .mv (.s 0), none⟩,
    ⟨some 6, .mkfn 185 [(.s 3)], none⟩,
    ⟨some 7, .call 173 [(.s 5), (.s 6)], none⟩,
    ⟨some 4, .mv (.s 7), none⟩])
  .ret))⟩

/-- sumpter/tree.own -/
def sf167 : SF :=
  ⟨1, 8, [.cell 2 true 3],
  (.seq (.reg [⟨some 1, .box (some 0) 3 (.s 0), none⟩,
    ⟨some 2, .alloc (some 1) [.v (.string ⟨#[]⟩), .v (.bool false), .v (.slice none 0 0)], none⟩])
  (.seq (.reg [⟨some 3, .fld 2 (.s 1), none⟩,
    ⟨some 4, .load false 1 (.s 3), none⟩,
    ⟨some 5, .call 186 [(.s 4)], none⟩,
    ⟨some 6, .fld 2 (.s 1), none⟩,
    ⟨none, .store 1 (.s 6) (.s 5), none⟩])
  (.seq (.reg [⟨some 7, .load true 3 (.s 1), none⟩,
    ⟨none, .store 3 (.s 2) (.s 7), none⟩])
  .ret)))⟩

/-- sumpter/tree.Children$1 -/
def sf168 : SF :=
  ⟨2, 9, [.t 3],
  (.seq (.reg [⟨some 2, .box (some 0) 3 (.s 0), none⟩,
    ⟨some 3, .mv (.c (.bool false)), none⟩])
  (.seq (.dreg [0, 1, 3, 2, 4, 5] [⟨⟨some 4, .fld 0 (.s 2), none⟩, []⟩,
    ⟨⟨some 5, .load false 1 (.s 4), none⟩, []⟩,
    ⟨⟨some 7, .load false 1 (.s 1), none⟩, []⟩,
    ⟨⟨some 6, .call 164 [(.s 5)], none⟩, [2]⟩,
    ⟨⟨some 8, .str .eql (.s 6) (.s 7), none⟩, []⟩,
    ⟨⟨some 3, .mv (.s 8), none⟩, []⟩])
  .ret))⟩

/-- sumpter/tree.keep[sumpter/api.Entry] -/
def sf169 : SF :=
  ⟨2, 23, [.t 4],
  (.seq (.reg [⟨some 4, .mv (.c (.slice none 0 0)), none⟩])
  (.seq (.reg [⟨some 5, .mv (.c (.slice none 0 0)), none⟩])
  (.seq (.seq (.reg [⟨some 8, .mv (.s 0), none⟩,
    ⟨some 9, .len (.s 8), none⟩,
    ⟨some 10, .mv (.c (.int .i64 0)), none⟩])
  (.block 0 (.loop (.seq (.reg [⟨some 11, .int .lss (.s 10) (.s 9), none⟩])
  (.seq (.cond (.s 11) .skip
  (.exit 0))
  (.seq (.block 1 (.seq (.reg [⟨some 12, .idx 3 (.s 8) (.s 10), none⟩,
    ⟨some 13, .load true 3 (.s 12), none⟩,
    ⟨some 7, .alloc (some 0) [.v (.string ⟨#[]⟩), .v (.bool false), .v (.slice none 0 0)], none⟩,
    ⟨none, .store 3 (.s 7) (.s 13), none⟩])
  (.seq (.reg [⟨some 14, .mv (.s 1), none⟩,
    ⟨some 15, .load true 3 (.s 7), none⟩,
    ⟨some 16, .callv (.s 14) [(.s 15)], none⟩])
  (.cond (.s 16) (.reg [⟨some 17, .mv (.s 5), none⟩,
    ⟨some 18, .load true 3 (.s 7), none⟩,
    ⟨some 19, .bslice 3 [(.s 18)], none⟩,
    ⟨some 20, .app 3 48 (.s 17) (.s 19), none⟩,
    ⟨some 5, .mv (.s 20), none⟩])
  .skip))))
  (.reg [⟨some 21, .int .add (.s 10) (.c (.int .i64 1)), none⟩,
    ⟨some 10, .mv (.s 21), none⟩])))))))
  (.seq (.reg [⟨some 22, .mv (.s 5), none⟩,
    ⟨some 4, .mv (.s 22), none⟩])
  .ret))))⟩

/-- sumpter/sumpterref07.Parent -/
def sf170 : SF :=
  ⟨1, 10, [.t 2],
  (.seq (.reg [⟨some 2, .mv (.c (.string ⟨#[]⟩)), none⟩])
  (.seq (.seq (.reg [⟨some 3, .mv (.s 0), none⟩,
    ⟨some 4, .call 187 [(.s 3)], none⟩,
    ⟨some 5, .int .lss (.s 4) (.c (.int .i64 0)), none⟩])
  (.cond (.s 5) (.seq (.reg [⟨some 2, .mv (.c (.string ⟨#[]⟩)), none⟩])
  .ret)
  .skip))
  (.seq (.reg [⟨some 6, .mv (.s 0), none⟩,
    ⟨some 7, .mv (.s 0), none⟩,
    ⟨some 8, .call 187 [(.s 7)], none⟩,
    ⟨some 9, .ssl (.s 6) none (some (.s 8)), none⟩,
    ⟨some 2, .mv (.s 9), none⟩])
  .ret)))⟩

/-- sumpter/tree.Copy -/
def sf171 : SF :=
  ⟨1, 22, [.t 2],
  (.seq (.reg [⟨some 2, .mv (.c (.slice none 0 0)), none⟩])
  (.seq (.reg [⟨some 6, .mv (.s 0), none⟩,
    ⟨some 7, .call 188 [(.s 6)], none⟩,
    ⟨some 3, .mv (.s 7), none⟩])
  (.seq (.seq (.reg [⟨some 8, .mv (.s 3), none⟩,
    ⟨some 9, .len (.s 8), none⟩,
    ⟨some 10, .mv (.c (.int .i64 0)), none⟩])
  (.block 0 (.loop (.seq (.reg [⟨some 11, .int .lss (.s 10) (.s 9), none⟩])
  (.seq (.cond (.s 11) .skip
  (.exit 0))
  (.seq (.block 1 (.seq (.reg [⟨some 12, .mv (.s 10), none⟩,
    ⟨some 13, .idx 3 (.s 8) (.s 10), none⟩,
    ⟨some 14, .load true 3 (.s 13), none⟩,
    ⟨some 5, .alloc (some 0) [.v (.string ⟨#[]⟩), .v (.bool false), .v (.slice none 0 0)], none⟩,
    ⟨some 4, .mv (.s 12), none⟩,
    ⟨none, .store 3 (.s 5) (.s 14), none⟩])
  (.reg [⟨some 15, .mv (.s 3), none⟩,
    ⟨some 16, .mv (.s 4), none⟩,
    ⟨some 17, .load true 3 (.s 5), none⟩,
    ⟨some 18, .call 167 [(.s 17)], none⟩,
    ⟨some 19, .idx 3 (.s 15) (.s 16), none⟩,
    ⟨none, .store 3 (.s 19) (.s 18), none⟩])))
  (.reg [⟨some 20, .int .add (.s 10) (.c (.int .i64 1)), none⟩,
    ⟨some 10, .mv (.s 20), none⟩])))))))
  (.seq (.reg [⟨some 21, .mv (.s 3), none⟩,
    ⟨some 2, .mv (.s 21), none⟩])
  .ret))))⟩

/-- sumpter/tree.Put$1 -/
def sf172 : SF :=
  ⟨2, 9, [.t 3],
  (.seq (.reg [⟨some 2, .box (some 0) 3 (.s 0), none⟩,
    ⟨some 3, .mv (.c (.bool false)), none⟩])
  (.seq (.reg [⟨some 4, .fld 0 (.s 1), none⟩,
    ⟨some 5, .load false 1 (.s 4), none⟩,
    ⟨some 6, .fld 0 (.s 2), none⟩,
    ⟨some 7, .load false 1 (.s 6), none⟩,
    ⟨some 8, .call 163 [(.s 5), (.s 7)], none⟩,
    ⟨some 3, .mv (.s 8), none⟩])
  .ret))⟩

/-- sumpter/tree.where[sumpter/api.Entry] -/
def sf173 : SF :=
  ⟨2, 8, [.t 4],
  (.seq (.reg [⟨some 4, .mv (.c (.int .i64 0)), none⟩])
  (.seq (.reg [⟨some 5, .mv (.s 0), none⟩,
    ⟨some 6, .mv (.s 1), none⟩,
    ⟨some 7, .call 189 [(.s 5), (.s 6)], none⟩,
    ⟨some 4, .mv (.s 7), none⟩])
  .ret))⟩

/-- slices.Insert[[]sumpter/api.Entry,sumpter/api.Entry] -/
def sf174 : SF :=
  ⟨3, 95, [.t 6],
  (.seq (.reg [⟨some 6, .mv (.c (.slice none 0 0)), none⟩])
  (.seq (.reg [⟨some 10, .mv (.s 0), none⟩,
    ⟨some 11, .mv (.s 1), none⟩,
    ⟨some 12, .slc 3 (.s 10) (some (.s 11)) none none, none⟩])
  (.seq (.reg [⟨some 13, .mv (.s 2), none⟩,
    ⟨some 14, .len (.s 13), none⟩,
    ⟨some 7, .mv (.s 14), none⟩])
  (.seq (.seq (.reg [⟨some 15, .mv (.s 7), none⟩,
    ⟨some 16, .int .eql (.s 15) (.c (.int .i64 0)), none⟩])
  (.cond (.s 16) (.seq (.reg [⟨some 17, .mv (.s 0), none⟩,
    ⟨some 6, .mv (.s 17), none⟩])
  .ret)
  .skip))
  (.seq (.reg [⟨some 18, .mv (.s 0), none⟩,
    ⟨some 19, .len (.s 18), none⟩,
    ⟨some 8, .mv (.s 19), none⟩])
  (.seq (.seq (.reg [⟨some 20, .mv (.s 1), none⟩,
    ⟨some 21, .mv (.s 8), none⟩,
    ⟨some 22, .int .eql (.s 20) (.s 21), none⟩])
  (.cond (.s 22) (.seq (.reg [⟨some 23, .mv (.s 0), none⟩,
    ⟨some 24, .mv (.s 2), none⟩,
    ⟨some 25, .app 3 48 (.s 23) (.s 24), none⟩,
    ⟨some 6, .mv (.s 25), none⟩])
  .ret)
  .skip))
  (.seq (.seq (.reg [⟨some 26, .mv (.s 8), none⟩,
    ⟨some 27, .mv (.s 7), none⟩,
    ⟨some 28, .int .add (.s 26) (.s 27), none⟩,
    ⟨some 29, .mv (.s 0), none⟩,
    ⟨some 30, .nd .cap [(.s 29)], none⟩,
    ⟨some 31, .int .gtr (.s 28) (.s 30), none⟩])
  (.cond (.s 31) (.seq (.reg [⟨some 32, .mv (.s 0), none⟩,
    ⟨some 33, .mv (.s 1), none⟩,
    ⟨some 34, .slc 3 (.s 32) none (some (.s 33)) none, none⟩,
    ⟨some 35, .mv (.s 8), none⟩,
    ⟨some 36, .mv (.s 7), none⟩,
    ⟨some 37, .int .add (.s 35) (.s 36), none⟩,
    ⟨some 38, .mv (.s 1), none⟩,
    ⟨some 39, .int .sub (.s 37) (.s 38), none⟩,
    ⟨some 40, .hop (.appz 3 48 [.v (.string ⟨#[]⟩), .v (.bool false), .v (.slice none 0 0)]) [(.s 34), (.s 39)], none⟩,
    ⟨some 9, .mv (.s 40), none⟩])
  (.seq (.reg [⟨some 41, .mv (.s 9), none⟩,
    ⟨some 42, .mv (.s 1), none⟩,
    ⟨some 43, .slc 3 (.s 41) (some (.s 42)) none none, none⟩,
    ⟨some 44, .mv (.s 2), none⟩,
    ⟨some 45, .hop (.copy 3) [(.s 43), (.s 44)], none⟩])
  (.seq (.dreg [0, 1, 2, 3, 4, 5, 6, 7, 8] [⟨⟨some 46, .mv (.s 9), none⟩, []⟩,
    ⟨⟨some 47, .mv (.s 1), none⟩, []⟩,
    ⟨⟨some 48, .mv (.s 7), none⟩, []⟩,
    ⟨⟨some 49, .int .add (.s 47) (.s 48), none⟩, []⟩,
    ⟨⟨some 50, .slc 3 (.s 46) (some (.s 49)) none none, none⟩, []⟩,
    ⟨⟨some 51, .mv (.s 0), none⟩, []⟩,
    ⟨⟨some 52, .mv (.s 1), none⟩, []⟩,
    ⟨⟨some 53, .slc 3 (.s 51) (some (.s 52)) none none, none⟩, []⟩,
    ⟨⟨some 54, .hop (.copy 3) [(.s 50), (.s 53)], none⟩, []⟩])
  (.seq (.reg [⟨some 55, .mv (.s 9), none⟩,
    ⟨some 6, .mv (.s 55), none⟩])
  .ret))))
  .skip))
  (.seq (.reg [⟨some 56, .mv (.s 0), none⟩,
    ⟨some 57, .mv (.s 8), none⟩,
    ⟨some 58, .mv (.s 7), none⟩,
    ⟨some 59, .int .add (.s 57) (.s 58), none⟩,
    ⟨some 60, .slc 3 (.s 56) none (some (.s 59)) none, none⟩,
    ⟨some 0, .mv (.s 60), none⟩])
  (.seq (.seq (.reg [⟨some 61, .mv (.s 2), none⟩,
    ⟨some 62, .mv (.s 0), none⟩,
    ⟨some 63, .mv (.s 1), none⟩,
    ⟨some 64, .mv (.s 7), none⟩,
    ⟨some 65, .int .add (.s 63) (.s 64), none⟩,
    ⟨some 66, .slc 3 (.s 62) (some (.s 65)) none none, none⟩,
    ⟨some 67, .hop (.ovl 3) [(.s 61), (.s 66)], none⟩,
    ⟨some 68, .not (.s 67), none⟩])
  (.cond (.s 68) (.seq (.dreg [0, 1, 2, 3, 4, 5, 6, 7, 8] [⟨⟨some 69, .mv (.s 0), none⟩, []⟩,
    ⟨⟨some 70, .mv (.s 1), none⟩, []⟩,
    ⟨⟨some 71, .mv (.s 7), none⟩, []⟩,
    ⟨⟨some 72, .int .add (.s 70) (.s 71), none⟩, []⟩,
    ⟨⟨some 73, .slc 3 (.s 69) (some (.s 72)) none none, none⟩, []⟩,
    ⟨⟨some 74, .mv (.s 0), none⟩, []⟩,
    ⟨⟨some 75, .mv (.s 1), none⟩, []⟩,
    ⟨⟨some 76, .slc 3 (.s 74) (some (.s 75)) none none, none⟩, []⟩,
    ⟨⟨some 77, .hop (.copy 3) [(.s 73), (.s 76)], none⟩, []⟩])
  (.seq (.reg [⟨some 78, .mv (.s 0), none⟩,
    ⟨some 79, .mv (.s 1), none⟩,
    ⟨some 80, .slc 3 (.s 78) (some (.s 79)) none none, none⟩,
    ⟨some 81, .mv (.s 2), none⟩,
    ⟨some 82, .hop (.copy 3) [(.s 80), (.s 81)], none⟩])
  (.seq (.reg [⟨some 83, .mv (.s 0), none⟩,
    ⟨some 6, .mv (.s 83), none⟩])
  .ret)))
  .skip))
  (.seq (.reg [⟨some 84, .mv (.s 0), none⟩,
    ⟨some 85, .mv (.s 8), none⟩,
    ⟨some 86, .slc 3 (.s 84) (some (.s 85)) none none, none⟩,
    ⟨some 87, .mv (.s 2), none⟩,
    ⟨some 88, .hop (.copy 3) [(.s 86), (.s 87)], none⟩])
  (.seq (.reg [⟨some 89, .mv (.s 0), none⟩,
    ⟨some 90, .mv (.s 1), none⟩,
    ⟨some 91, .slc 3 (.s 89) (some (.s 90)) none none, none⟩,
    ⟨some 92, .mv (.s 7), none⟩,
    ⟨some 93, .call 228 [(.s 91), (.s 92)], none⟩])
  (.seq (.reg [⟨some 94, .mv (.s 0), none⟩,
    ⟨some 6, .mv (.s 94), none⟩])
  .ret))))))))))))⟩

/-- sumpter/sumpterref08.Check -/
def sf175 : SF :=
  ⟨1, 20, [.t 2],
  (.seq (.reg [⟨some 2, .mv (.c (.int .i64 0)), none⟩])
  (.seq (.seq (.reg [⟨some 5, .mv (.s 0), none⟩,
    ⟨some 6, .len (.s 5), none⟩,
    ⟨some 7, .int .gtr (.s 6) (.c (.int .i64 64)), none⟩])
  (.cond (.s 7) (.seq (.reg [⟨some 2, .mv (.c (.int .i64 5)), none⟩])
  .ret)
  .skip))
  (.seq (.seq (.reg [⟨some 3, .mv (.c (.int .i64 0)), none⟩])
  (.block 0 (.loop (.seq (.seq (.reg [⟨some 8, .mv (.s 3), none⟩,
    ⟨some 9, .mv (.s 0), none⟩,
    ⟨some 10, .len (.s 9), none⟩,
    ⟨some 11, .int .lss (.s 8) (.s 10), none⟩])
  (.cond (.s 11) .skip
  (.exit 0)))
  (.seq (.block 1 (.seq (.reg [⟨some 14, .mv (.s 0), none⟩,
    ⟨some 15, .mv (.s 3), none⟩,
    ⟨some 16, .call 190 [(.s 14), (.s 15)], none⟩,
    ⟨some 4, .mv (.s 16), none⟩])
  (.seq (.reg [⟨some 17, .mv (.s 4), none⟩,
    ⟨some 18, .int .neq (.s 17) (.c (.int .i64 0)), none⟩])
  (.cond (.s 18) (.seq (.reg [⟨some 19, .mv (.s 4), none⟩,
    ⟨some 2, .mv (.s 19), none⟩])
  .ret)
  .skip))))
  (.reg [⟨some 12, .mv (.s 3), none⟩,
    ⟨some 13, .int .add (.s 12) (.c (.int .i64 1)), none⟩,
    ⟨some 3, .mv (.s 13), none⟩]))))))
  (.seq (.reg [⟨some 2, .mv (.c (.int .i64 0)), none⟩])
  .ret))))⟩

/-- sumpter/sumpterref07.Less -/
def sf176 : SF :=
  ⟨2, 47, [.t 4],
  (.seq (.reg [⟨some 4, .mv (.c (.bool false)), none⟩])
  (.seq (.reg [⟨some 8, .mv (.s 0), none⟩,
    ⟨some 9, .call 191 [(.s 8)], none⟩,
    ⟨some 10, .mv (.s 1), none⟩,
    ⟨some 11, .call 191 [(.s 10)], none⟩,
    ⟨some 5, .mv (.s 9), none⟩,
    ⟨some 6, .mv (.s 11), none⟩])
  (.seq (.seq (.reg [⟨some 7, .mv (.c (.int .i64 0)), none⟩])
  (.block 0 (.loop (.seq (.seq (.reg [⟨some 12, .mv (.s 7), none⟩,
    ⟨some 13, .mv (.s 5), none⟩,
    ⟨some 14, .len (.s 13), none⟩,
    ⟨some 15, .int .lss (.s 12) (.s 14), none⟩,
    ⟨some 16, .mv (.s 15), none⟩,
    ⟨some 17, .mv (.s 7), (some (16, true))⟩,
    ⟨some 18, .mv (.s 6), (some (16, true))⟩,
    ⟨some 19, .len (.s 18), (some (16, true))⟩,
    ⟨some 20, .int .lss (.s 17) (.s 19), (some (16, true))⟩,
    ⟨some 21, .pick (.s 16) (.s 20) (.c (.bool false)), none⟩])
  (.cond (.s 21) .skip
  (.exit 0)))
  (.seq (.block 1 (.seq (.dreg [0, 1, 2, 4, 5, 6, 3, 7, 8] [⟨⟨some 24, .mv (.s 5), none⟩, []⟩,
    ⟨⟨some 25, .mv (.s 7), none⟩, []⟩,
    ⟨⟨some 26, .idx 1 (.s 24) (.s 25), none⟩, []⟩,
    ⟨⟨some 28, .mv (.s 6), none⟩, []⟩,
    ⟨⟨some 29, .mv (.s 7), none⟩, []⟩,
    ⟨⟨some 30, .idx 1 (.s 28) (.s 29), none⟩, []⟩,
    ⟨⟨some 27, .load false 1 (.s 26), none⟩, []⟩,
    ⟨⟨some 31, .load false 1 (.s 30), none⟩, []⟩,
    ⟨⟨some 32, .str .neq (.s 27) (.s 31), none⟩, []⟩])
  (.cond (.s 32) (.seq (.dreg [0, 1, 2, 4, 5, 6, 3, 7, 8, 9] [⟨⟨some 33, .mv (.s 5), none⟩, []⟩,
    ⟨⟨some 34, .mv (.s 7), none⟩, []⟩,
    ⟨⟨some 35, .idx 1 (.s 33) (.s 34), none⟩, []⟩,
    ⟨⟨some 37, .mv (.s 6), none⟩, []⟩,
    ⟨⟨some 38, .mv (.s 7), none⟩, []⟩,
    ⟨⟨some 39, .idx 1 (.s 37) (.s 38), none⟩, []⟩,
    ⟨⟨some 36, .load false 1 (.s 35), none⟩, []⟩,
    ⟨⟨some 40, .load false 1 (.s 39), none⟩, []⟩,
    ⟨⟨some 41, .str .lss (.s 36) (.s 40), none⟩, []⟩,
    ⟨⟨some 4, .mv (.s 41), none⟩, []⟩])
  .ret)
  .skip)))
  (.reg [⟨some 22, .mv (.s 7), none⟩,
    ⟨some 23, .int .add (.s 22) (.c (.int .i64 1)), none⟩,
    ⟨some 7, .mv (.s 23), none⟩]))))))
  (.seq (.reg [⟨some 42, .mv (.s 5), none⟩,
    ⟨some 43, .len (.s 42), none⟩,
    ⟨some 44, .mv (.s 6), none⟩,
    ⟨some 45, .len (.s 44), none⟩,
    ⟨some 46, .int .lss (.s 43) (.s 45), none⟩,
    ⟨some 4, .mv (.s 46), none⟩])
  .ret))))⟩

/-- slices.Delete[[]sumpter/api.Entry,sumpter/api.Entry] -/
def sf177 : SF :=
  ⟨3, 33, [.t 6],
  (.seq (.reg [⟨some 6, .mv (.c (.slice none 0 0)), none⟩])
  (.seq (.reg [⟨some 8, .mv (.s 0), none⟩,
    ⟨some 9, .mv (.s 1), none⟩,
    ⟨some 10, .mv (.s 2), none⟩,
    ⟨some 11, .mv (.s 0), none⟩,
    ⟨some 12, .len (.s 11), none⟩,
    ⟨some 13, .slc 3 (.s 8) (some (.s 9)) (some (.s 10)) (some (.s 12)), none⟩])
  (.seq (.seq (.reg [⟨some 14, .mv (.s 1), none⟩,
    ⟨some 15, .mv (.s 2), none⟩,
    ⟨some 16, .int .eql (.s 14) (.s 15), none⟩])
  (.cond (.s 16) (.seq (.reg [⟨some 17, .mv (.s 0), none⟩,
    ⟨some 6, .mv (.s 17), none⟩])
  .ret)
  .skip))
  (.seq (.reg [⟨some 18, .mv (.s 0), none⟩,
    ⟨some 19, .len (.s 18), none⟩,
    ⟨some 7, .mv (.s 19), none⟩])
  (.seq (.dreg [0, 1, 2, 3, 4, 5, 6, 7] [⟨⟨some 20, .mv (.s 0), none⟩, []⟩,
    ⟨⟨some 21, .mv (.s 1), none⟩, []⟩,
    ⟨⟨some 22, .slc 3 (.s 20) none (some (.s 21)) none, none⟩, []⟩,
    ⟨⟨some 23, .mv (.s 0), none⟩, []⟩,
    ⟨⟨some 24, .mv (.s 2), none⟩, []⟩,
    ⟨⟨some 25, .slc 3 (.s 23) (some (.s 24)) none none, none⟩, []⟩,
    ⟨⟨some 26, .app 3 48 (.s 22) (.s 25), none⟩, []⟩,
    ⟨⟨some 0, .mv (.s 26), none⟩, []⟩])
  (.seq (.reg [⟨some 27, .mv (.s 0), none⟩,
    ⟨some 28, .mv (.s 0), none⟩,
    ⟨some 29, .len (.s 28), none⟩,
    ⟨some 30, .mv (.s 7), none⟩,
    ⟨some 31, .slc 3 (.s 27) (some (.s 29)) (some (.s 30)) none, none⟩,
    ⟨none, .hop (.clear 3 [.v (.string ⟨#[]⟩), .v (.bool false), .v (.slice none 0 0)]) [(.s 31)], none⟩])
  (.seq (.reg [⟨some 32, .mv (.s 0), none⟩,
    ⟨some 6, .mv (.s 32), none⟩])
  .ret)))))))⟩

/-- sumpter/tree.check -/
def sf178 : SF :=
  ⟨2, 68, [.t 4],
  (.seq (.reg [⟨some 3, .box (some 0) 3 (.s 1), none⟩,
    ⟨some 4, .mv (.c (.int .i64 0)), none⟩])
  (.seq (.seq (.reg [⟨some 9, .fld 0 (.s 3), none⟩,
    ⟨some 10, .load false 1 (.s 9), none⟩,
    ⟨some 11, .call 192 [(.s 10)], none⟩,
    ⟨some 5, .mv (.s 11), none⟩])
  (.seq (.reg [⟨some 12, .mv (.s 5), none⟩,
    ⟨some 13, .int .neq (.s 12) (.c (.int .i64 0)), none⟩])
  (.cond (.s 13) (.seq (.reg [⟨some 14, .mv (.s 5), none⟩,
    ⟨some 4, .mv (.s 14), none⟩])
  .ret)
  .skip)))
  (.seq (.block 0 (.seq (.reg [⟨some 16, .fld 0 (.s 3), none⟩,
    ⟨some 17, .load false 1 (.s 16), none⟩,
    ⟨some 18, .call 193 [(.s 17)], none⟩,
    ⟨some 15, .mv (.s 18), none⟩])
  (.cond (.s 15) (.seq (.reg [⟨some 4, .mv (.c (.int .i64 6)), none⟩])
  .ret)
  (.seq (.reg [⟨some 20, .fld 2 (.s 3), none⟩,
    ⟨some 21, .load false 1 (.s 20), none⟩,
    ⟨some 22, .len (.s 21), none⟩,
    ⟨some 23, .int .gtr (.s 22) (.c (.int .i64 65536)), none⟩,
    ⟨some 19, .mv (.s 23), none⟩])
  (.cond (.s 19) (.seq (.reg [⟨some 4, .mv (.c (.int .i64 5)), none⟩])
  .ret)
  (.seq (.reg [⟨some 25, .fld 1 (.s 3), none⟩,
    ⟨some 26, .load false 1 (.s 25), none⟩,
    ⟨some 27, .mv (.s 26), none⟩,
    ⟨some 28, .fld 2 (.s 3), (some (27, true))⟩,
    ⟨some 29, .load false 1 (.s 28), (some (27, true))⟩,
    ⟨some 30, .len (.s 29), (some (27, true))⟩,
    ⟨some 31, .int .gtr (.s 30) (.c (.int .i64 0)), (some (27, true))⟩,
    ⟨some 32, .pick (.s 27) (.s 31) (.c (.bool false)), none⟩,
    ⟨some 24, .mv (.s 32), none⟩])
  (.cond (.s 24) (.seq (.reg [⟨some 4, .mv (.c (.int .i64 9)), none⟩])
  .ret)
  (.seq (.dreg [0, 1, 2, 3, 4, 5, 6, 7, 8, 9, 11, 10, 12, 13, 14, 15, 16] [⟨⟨some 34, .mv (.s 0), none⟩, []⟩,
    ⟨⟨some 35, .len (.s 34), none⟩, []⟩,
    ⟨⟨some 36, .int .gtr (.s 35) (.c (.int .i64 0)), none⟩, []⟩,
    ⟨⟨some 37, .mv (.s 36), none⟩, []⟩,
    ⟨⟨some 38, .mv (.s 0), (some (37, true))⟩, []⟩,
    ⟨⟨some 39, .mv (.s 0), (some (37, true))⟩, []⟩,
    ⟨⟨some 40, .len (.s 39), (some (37, true))⟩, []⟩,
    ⟨⟨some 41, .int .sub (.s 40) (.c (.int .i64 1)), (some (37, true))⟩, []⟩,
    ⟨⟨some 42, .idx 3 (.s 38) (.s 41), (some (37, true))⟩, []⟩,
    ⟨⟨some 43, .fld 0 (.s 42), (some (37, true))⟩, []⟩,
    ⟨⟨some 45, .fld 0 (.s 3), (some (37, true))⟩, []⟩,
    ⟨⟨some 44, .load false 1 (.s 43), (some (37, true))⟩, []⟩,
    ⟨⟨some 46, .load false 1 (.s 45), (some (37, true))⟩, []⟩,
    ⟨⟨some 47, .call 163 [(.s 44), (.s 46)], (some (37, true))⟩, []⟩,
    ⟨⟨some 48, .not (.s 47), (some (37, true))⟩, []⟩,
    ⟨⟨some 49, .pick (.s 37) (.s 48) (.c (.bool false)), none⟩, []⟩,
    ⟨⟨some 33, .mv (.s 49), none⟩, []⟩])
  (.cond (.s 33) (.seq (.reg [⟨some 4, .mv (.c (.int .i64 7)), none⟩])
  .ret)
  .skip)))))))))
  (.seq (.reg [⟨some 50, .fld 0 (.s 3), none⟩,
    ⟨some 51, .load false 1 (.s 50), none⟩,
    ⟨some 52, .call 164 [(.s 51)], none⟩,
    ⟨some 6, .mv (.s 52), none⟩])
  (.seq (.seq (.reg [⟨some 53, .mv (.s 6), none⟩,
    ⟨some 54, .str .eql (.s 53) (.c (.string ⟨#[]⟩)), none⟩])
  (.cond (.s 54) (.seq (.reg [⟨some 4, .mv (.c (.int .i64 0)), none⟩])
  .ret)
  .skip))
  (.seq (.reg [⟨some 56, .mv (.s 0), none⟩,
    ⟨some 57, .mv (.s 6), none⟩,
    ⟨some 58, .call 150 [(.s 56), (.s 57)], none⟩,
    ⟨some 55, .mv (.s 58), none⟩,
    ⟨some 59, .ext (.s 55) 0, none⟩,
    ⟨some 60, .ext (.s 55) 1, none⟩,
    ⟨some 7, .alloc (some 1) [.v (.string ⟨#[]⟩), .v (.bool false), .v (.slice none 0 0)], none⟩,
    ⟨none, .store 3 (.s 7) (.s 59), none⟩,
    ⟨some 8, .mv (.s 60), none⟩])
  (.seq (.block 1 (.seq (.reg [⟨some 62, .mv (.s 8), none⟩,
    ⟨some 63, .not (.s 62), none⟩,
    ⟨some 61, .mv (.s 63), none⟩])
  (.cond (.s 61) (.seq (.reg [⟨some 4, .mv (.c (.int .i64 8)), none⟩])
  .ret)
  (.seq (.reg [⟨some 65, .fld 1 (.s 7), none⟩,
    ⟨some 66, .load false 1 (.s 65), none⟩,
    ⟨some 67, .not (.s 66), none⟩,
    ⟨some 64, .mv (.s 67), none⟩])
  (.cond (.s 64) (.seq (.reg [⟨some 4, .mv (.c (.int .i64 9)), none⟩])
  .ret)
  .skip)))))
  (.seq (.reg [⟨some 4, .mv (.c (.int .i64 0)), none⟩])
  .ret))))))))⟩

/-- slices.EqualFunc[[]sumpter/api.Entry,[]sumpter/api.Entry,sumpter/api.Entry,sumpter/api.Entry] -/
def sf179 : SF :=
  ⟨3, 32, [.t 6],
  (.seq (.reg [⟨some 6, .mv (.c (.bool false)), none⟩])
  (.seq (.seq (.reg [⟨some 10, .mv (.s 0), none⟩,
    ⟨some 11, .len (.s 10), none⟩,
    ⟨some 12, .mv (.s 1), none⟩,
    ⟨some 13, .len (.s 12), none⟩,
    ⟨some 14, .int .neq (.s 11) (.s 13), none⟩])
  (.cond (.s 14) (.seq (.reg [⟨some 6, .mv (.c (.bool false)), none⟩])
  .ret)
  .skip))
  (.seq (.seq (.reg [⟨some 15, .mv (.s 0), none⟩,
    ⟨some 16, .len (.s 15), none⟩,
    ⟨some 17, .mv (.c (.int .i64 0)), none⟩])
  (.block 0 (.loop (.seq (.reg [⟨some 18, .int .lss (.s 17) (.s 16), none⟩])
  (.seq (.cond (.s 18) .skip
  (.exit 0))
  (.seq (.block 1 (.seq (.reg [⟨some 19, .mv (.s 17), none⟩,
    ⟨some 20, .idx 3 (.s 15) (.s 17), none⟩,
    ⟨some 21, .load true 3 (.s 20), none⟩,
    ⟨some 8, .alloc (some 0) [.v (.string ⟨#[]⟩), .v (.bool false), .v (.slice none 0 0)], none⟩,
    ⟨some 7, .mv (.s 19), none⟩,
    ⟨none, .store 3 (.s 8) (.s 21), none⟩])
  (.seq (.reg [⟨some 22, .mv (.s 1), none⟩,
    ⟨some 23, .mv (.s 7), none⟩,
    ⟨some 24, .idx 3 (.s 22) (.s 23), none⟩,
    ⟨some 25, .load true 3 (.s 24), none⟩,
    ⟨some 9, .alloc (some 1) [.v (.string ⟨#[]⟩), .v (.bool false), .v (.slice none 0 0)], none⟩,
    ⟨none, .store 3 (.s 9) (.s 25), none⟩])
  (.seq (.reg [⟨some 26, .mv (.s 2), none⟩,
    ⟨some 27, .load true 3 (.s 8), none⟩,
    ⟨some 28, .load true 3 (.s 9), none⟩,
    ⟨some 29, .callv (.s 26) [(.s 27), (.s 28)], none⟩,
    ⟨some 30, .not (.s 29), none⟩])
  (.cond (.s 30) (.seq (.reg [⟨some 6, .mv (.c (.bool false)), none⟩])
  .ret)
  .skip)))))
  (.reg [⟨some 31, .int .add (.s 17) (.c (.int .i64 1)), none⟩,
    ⟨some 17, .mv (.s 31), none⟩])))))))
  (.seq (.reg [⟨some 6, .mv (.c (.bool true)), none⟩])
  .ret))))⟩

/-- sumpter/tree.Same$1 -/
def sf180 : SF :=
  ⟨2, 24, [.t 4],
  (.seq (.reg [⟨some 2, .box (some 0) 3 (.s 0), none⟩,
    ⟨some 3, .box (some 1) 3 (.s 1), none⟩,
    ⟨some 4, .mv (.c (.bool false)), none⟩])
  (.seq (.reg [⟨some 5, .fld 0 (.s 2), none⟩,
    ⟨some 6, .load false 1 (.s 5), none⟩,
    ⟨some 7, .fld 0 (.s 3), none⟩,
    ⟨some 8, .load false 1 (.s 7), none⟩,
    ⟨some 9, .str .eql (.s 6) (.s 8), none⟩,
    ⟨some 10, .mv (.s 9), none⟩,
    ⟨some 11, .fld 1 (.s 2), (some (10, true))⟩,
    ⟨some 12, .load false 1 (.s 11), (some (10, true))⟩,
    ⟨some 13, .fld 1 (.s 3), (some (10, true))⟩,
    ⟨some 14, .load false 1 (.s 13), (some (10, true))⟩,
    ⟨some 15, .eq .bool false (.s 12) (.s 14), (some (10, true))⟩,
    ⟨some 16, .pick (.s 10) (.s 15) (.c (.bool false)), none⟩,
    ⟨some 17, .mv (.s 16), none⟩,
    ⟨some 18, .fld 2 (.s 2), (some (17, true))⟩,
    ⟨some 19, .load false 1 (.s 18), (some (17, true))⟩,
    ⟨some 20, .fld 2 (.s 3), (some (17, true))⟩,
    ⟨some 21, .load false 1 (.s 20), (some (17, true))⟩,
    ⟨some 22, .call 194 [(.s 19), (.s 21)], (some (17, true))⟩,
    ⟨some 23, .pick (.s 17) (.s 22) (.c (.bool false)), none⟩,
    ⟨some 4, .mv (.s 23), none⟩])
  .ret))⟩

/-- sumpter/path.Split -/
def sf181 : SF :=
  ⟨1, 7, [.t 2],
  (.seq (.reg [⟨some 2, .mv (.c (.slice none 0 0)), none⟩])
  (.seq (.seq (.reg [⟨some 3, .mv (.s 0), none⟩,
    ⟨some 4, .str .eql (.s 3) (.c (.string ⟨#[]⟩)), none⟩])
  (.cond (.s 4) (.seq (.reg [⟨some 2, .mv (.c (.slice none 0 0)), none⟩])
  .ret)
  .skip))
  (.seq (.reg [⟨some 5, .mv (.s 0), none⟩,
    ⟨some 6, .call 195 [(.s 5), (.c (.string ⟨#[47]⟩))], none⟩,
    ⟨some 2, .mv (.s 6), none⟩])
  .ret)))⟩

/-- slices.Compare[[]string,string] -/
def sf182 : SF :=
  ⟨2, 36, [.t 4],
  (.seq (.reg [⟨some 4, .mv (.c (.int .i64 0)), none⟩])
  (.seq (.seq (.reg [⟨some 9, .mv (.s 0), none⟩,
    ⟨some 10, .len (.s 9), none⟩,
    ⟨some 11, .mv (.c (.int .i64 0)), none⟩])
  (.block 0 (.loop (.seq (.reg [⟨some 12, .int .lss (.s 11) (.s 10), none⟩])
  (.seq (.cond (.s 12) .skip
  (.exit 0))
  (.seq (.block 1 (.seq (.reg [⟨some 13, .mv (.s 11), none⟩,
    ⟨some 14, .idx 1 (.s 9) (.s 11), none⟩,
    ⟨some 15, .load false 1 (.s 14), none⟩,
    ⟨some 5, .mv (.s 13), none⟩,
    ⟨some 6, .mv (.s 15), none⟩])
  (.seq (.seq (.reg [⟨some 16, .mv (.s 5), none⟩,
    ⟨some 17, .mv (.s 1), none⟩,
    ⟨some 18, .len (.s 17), none⟩,
    ⟨some 19, .int .geq (.s 16) (.s 18), none⟩])
  (.cond (.s 19) (.seq (.reg [⟨some 4, .mv (.c (.int .i64 1)), none⟩])
  .ret)
  .skip))
  (.seq (.reg [⟨some 20, .mv (.s 1), none⟩,
    ⟨some 21, .mv (.s 5), none⟩,
    ⟨some 22, .idx 1 (.s 20) (.s 21), none⟩,
    ⟨some 23, .load false 1 (.s 22), none⟩,
    ⟨some 7, .mv (.s 23), none⟩])
  (.seq (.reg [⟨some 24, .mv (.s 6), none⟩,
    ⟨some 25, .mv (.s 7), none⟩,
    ⟨some 26, .call 196 [(.s 24), (.s 25)], none⟩,
    ⟨some 8, .mv (.s 26), none⟩])
  (.seq (.reg [⟨some 27, .mv (.s 8), none⟩,
    ⟨some 28, .int .neq (.s 27) (.c (.int .i64 0)), none⟩])
  (.cond (.s 28) (.seq (.reg [⟨some 29, .mv (.s 8), none⟩,
    ⟨some 4, .mv (.s 29), none⟩])
  .ret)
  .skip)))))))
  (.reg [⟨some 30, .int .add (.s 11) (.c (.int .i64 1)), none⟩,
    ⟨some 11, .mv (.s 30), none⟩])))))))
  (.seq (.seq (.reg [⟨some 31, .mv (.s 0), none⟩,
    ⟨some 32, .len (.s 31), none⟩,
    ⟨some 33, .mv (.s 1), none⟩,
    ⟨some 34, .len (.s 33), none⟩,
    ⟨some 35, .int .lss (.s 32) (.s 34), none⟩])
  (.cond (.s 35) (.seq (.reg [⟨some 4, .mv (.c (.int .i64 (-1))), none⟩])
  .ret)
  .skip))
  (.seq (.reg [⟨some 4, .mv (.c (.int .i64 0)), none⟩])
  .ret))))⟩

/-- sumpter/path.cut -/
def sf183 : SF :=
  ⟨1, 15, [.t 2, .t 3],
  (.seq (.reg [⟨some 2, .mv (.c (.string ⟨#[]⟩)), none⟩,
    ⟨some 3, .mv (.c (.string ⟨#[]⟩)), none⟩])
  (.seq (.reg [⟨some 5, .mv (.s 0), none⟩,
    ⟨some 6, .call 197 [(.s 5), (.c (.string ⟨#[47]⟩))], none⟩,
    ⟨some 4, .mv (.s 6), none⟩])
  (.seq (.dreg [0, 1, 2, 3, 4, 5, 6, 7, 8, 9] [⟨⟨some 7, .mv (.s 0), none⟩, []⟩,
    ⟨⟨some 8, .mv (.s 4), none⟩, []⟩,
    ⟨⟨some 9, .mm true (.s 8) (.c (.int .i64 0)), none⟩, []⟩,
    ⟨⟨some 10, .ssl (.s 7) none (some (.s 9)), none⟩, []⟩,
    ⟨⟨some 11, .mv (.s 0), none⟩, []⟩,
    ⟨⟨some 12, .mv (.s 4), none⟩, []⟩,
    ⟨⟨some 13, .int .add (.s 12) (.c (.int .i64 1)), none⟩, []⟩,
    ⟨⟨some 14, .ssl (.s 11) (some (.s 13)) none, none⟩, []⟩,
    ⟨⟨some 2, .mv (.s 10), none⟩, []⟩,
    ⟨⟨some 3, .mv (.s 14), none⟩, []⟩])
  .ret)))⟩

/-- sumpter/tree.find$1 -/
def sf185 : SF :=
  ⟨2, 8, [.t 3],
  (.seq (.reg [⟨some 2, .box (some 0) 3 (.s 0), none⟩,
    ⟨some 3, .mv (.c (.bool false)), none⟩])
  (.seq (.reg [⟨some 4, .fld 0 (.s 2), none⟩,
    ⟨some 5, .load false 1 (.s 4), none⟩,
    ⟨some 6, .load false 1 (.s 1), none⟩,
    ⟨some 7, .str .eql (.s 5) (.s 6), none⟩,
    ⟨some 3, .mv (.s 7), none⟩])
  .ret))⟩

/-- bytes.Clone -/
def sf186 : SF :=
  ⟨1, 8, [.t 2],
  (.seq (.reg [⟨some 2, .mv (.c (.slice none 0 0)), none⟩])
  (.seq (.seq (.reg [⟨some 3, .mv (.s 0), none⟩,
    ⟨some 4, .nd (.isnil false) [(.s 3)], none⟩])
  (.cond (.s 4) (.seq (.reg [⟨some 2, .mv (.c (.slice none 0 0)), none⟩])
  .ret)
  .skip))
  (.seq (.reg [⟨some 5, .bslice 1 [], none⟩,
    ⟨some 6, .mv (.s 0), none⟩,
    ⟨some 7, .app 1 1 (.s 5) (.s 6), none⟩,
    ⟨some 2, .mv (.s 7), none⟩])
  .ret)))⟩

/-- sumpter/sumpterref07.slash -/
def sf187 : SF :=
  ⟨1, 16, [.t 2],
  (.seq (.reg [⟨some 2, .mv (.c (.int .i64 0)), none⟩])
  (.seq (.seq (.reg [⟨some 4, .mv (.s 0), none⟩,
    ⟨some 5, .slen (.s 4), none⟩,
    ⟨some 6, .int .sub (.s 5) (.c (.int .i64 1)), none⟩,
    ⟨some 3, .mv (.s 6), none⟩])
  (.block 0 (.loop (.seq (.seq (.reg [⟨some 7, .mv (.s 3), none⟩,
    ⟨some 8, .int .geq (.s 7) (.c (.int .i64 0)), none⟩])
  (.cond (.s 8) .skip
  (.exit 0)))
  (.seq (.block 1 (.seq (.reg [⟨some 11, .mv (.s 0), none⟩,
    ⟨some 12, .mv (.s 3), none⟩,
    ⟨some 13, .sidx (.s 11) (.s 12), none⟩,
    ⟨some 14, .int .eql (.s 13) (.c (.int .u8 47)), none⟩])
  (.cond (.s 14) (.seq (.reg [⟨some 15, .mv (.s 3), none⟩,
    ⟨some 2, .mv (.s 15), none⟩])
  .ret)
  .skip)))
  (.reg [⟨some 9, .mv (.s 3), none⟩,
    ⟨some 10, .int .sub (.s 9) (.c (.int .i64 1)), none⟩,
    ⟨some 3, .mv (.s 10), none⟩]))))))
  (.seq (.reg [⟨some 2, .mv (.c (.int .i64 (-1))), none⟩])
  .ret)))⟩

/-- slices.Clone[[]sumpter/api.Entry,sumpter/api.Entry] -/
def sf188 : SF :=
  ⟨1, 8, [.t 2],
  (.seq (.reg [⟨some 2, .mv (.c (.slice none 0 0)), none⟩])
  (.seq (.seq (.reg [⟨some 3, .mv (.s 0), none⟩,
    ⟨some 4, .nd (.isnil false) [(.s 3)], none⟩])
  (.cond (.s 4) (.seq (.reg [⟨some 2, .mv (.c (.slice none 0 0)), none⟩])
  .ret)
  .skip))
  (.seq (.reg [⟨some 5, .bslice 3 [], none⟩,
    ⟨some 6, .mv (.s 0), none⟩,
    ⟨some 7, .app 3 48 (.s 5) (.s 6), none⟩,
    ⟨some 2, .mv (.s 7), none⟩])
  .ret)))⟩

/-- slices.IndexFunc[[]sumpter/api.Entry,sumpter/api.Entry] -/
def sf189 : SF :=
  ⟨2, 19, [.t 4],
  (.seq (.reg [⟨some 4, .mv (.c (.int .i64 0)), none⟩])
  (.seq (.seq (.reg [⟨some 6, .mv (.s 0), none⟩,
    ⟨some 7, .len (.s 6), none⟩,
    ⟨some 8, .mv (.c (.int .i64 0)), none⟩])
  (.block 0 (.loop (.seq (.reg [⟨some 9, .int .lss (.s 8) (.s 7), none⟩])
  (.seq (.cond (.s 9) .skip
  (.exit 0))
  (.seq (.block 1 (.seq (.reg [⟨some 10, .mv (.s 8), none⟩,
    ⟨some 5, .mv (.s 10), none⟩])
  (.seq (.reg [⟨some 11, .mv (.s 1), none⟩,
    ⟨some 12, .mv (.s 0), none⟩,
    ⟨some 13, .mv (.s 5), none⟩,
    ⟨some 14, .idx 3 (.s 12) (.s 13), none⟩,
    ⟨some 15, .load true 3 (.s 14), none⟩,
    ⟨some 16, .callv (.s 11) [(.s 15)], none⟩])
  (.cond (.s 16) (.seq (.reg [⟨some 17, .mv (.s 5), none⟩,
    ⟨some 4, .mv (.s 17), none⟩])
  .ret)
  .skip))))
  (.reg [⟨some 18, .int .add (.s 8) (.c (.int .i64 1)), none⟩,
    ⟨some 8, .mv (.s 18), none⟩])))))))
  (.seq (.reg [⟨some 4, .mv (.c (.int .i64 (-1))), none⟩])
  .ret)))⟩

/-- sumpter/sumpterref08.one -/
def sf190 : SF :=
  ⟨2, 74, [.t 4],
  (.seq (.reg [⟨some 4, .mv (.c (.int .i64 0)), none⟩])
  (.seq (.reg [⟨some 10, .mv (.s 0), none⟩,
    ⟨some 11, .mv (.s 1), none⟩,
    ⟨some 12, .idx 3 (.s 10) (.s 11), none⟩,
    ⟨some 13, .load true 3 (.s 12), none⟩,
    ⟨some 5, .alloc (some 0) [.v (.string ⟨#[]⟩), .v (.bool false), .v (.slice none 0 0)], none⟩,
    ⟨none, .store 3 (.s 5) (.s 13), none⟩])
  (.seq (.reg [⟨some 14, .fld 0 (.s 5), none⟩,
    ⟨some 15, .load false 1 (.s 14), none⟩,
    ⟨some 16, .call 199 [(.s 15)], none⟩,
    ⟨some 6, .mv (.s 16), none⟩])
  (.seq (.block 0 (.seq (.reg [⟨some 18, .mv (.s 6), none⟩,
    ⟨some 19, .int .neq (.s 18) (.c (.int .i64 0)), none⟩,
    ⟨some 17, .mv (.s 19), none⟩])
  (.cond (.s 17) (.seq (.reg [⟨some 20, .mv (.s 6), none⟩,
    ⟨some 4, .mv (.s 20), none⟩])
  .ret)
  (.seq (.reg [⟨some 22, .fld 0 (.s 5), none⟩,
    ⟨some 23, .load false 1 (.s 22), none⟩,
    ⟨some 24, .call 200 [(.s 23)], none⟩,
    ⟨some 21, .mv (.s 24), none⟩])
  (.cond (.s 21) (.seq (.reg [⟨some 4, .mv (.c (.int .i64 6)), none⟩])
  .ret)
  (.seq (.reg [⟨some 26, .fld 2 (.s 5), none⟩,
    ⟨some 27, .load false 1 (.s 26), none⟩,
    ⟨some 28, .len (.s 27), none⟩,
    ⟨some 29, .int .gtr (.s 28) (.c (.int .i64 65536)), none⟩,
    ⟨some 25, .mv (.s 29), none⟩])
  (.cond (.s 25) (.seq (.reg [⟨some 4, .mv (.c (.int .i64 5)), none⟩])
  .ret)
  (.seq (.reg [⟨some 31, .fld 1 (.s 5), none⟩,
    ⟨some 32, .load false 1 (.s 31), none⟩,
    ⟨some 33, .mv (.s 32), none⟩,
    ⟨some 34, .fld 2 (.s 5), (some (33, true))⟩,
    ⟨some 35, .load false 1 (.s 34), (some (33, true))⟩,
    ⟨some 36, .len (.s 35), (some (33, true))⟩,
    ⟨some 37, .int .gtr (.s 36) (.c (.int .i64 0)), (some (33, true))⟩,
    ⟨some 38, .pick (.s 33) (.s 37) (.c (.bool false)), none⟩,
    ⟨some 30, .mv (.s 38), none⟩])
  (.cond (.s 30) (.seq (.reg [⟨some 4, .mv (.c (.int .i64 9)), none⟩])
  .ret)
  (.seq (.dreg [0, 1, 2, 3, 4, 5, 6, 7, 9, 8, 10, 11, 12, 13, 14] [⟨⟨some 40, .mv (.s 1), none⟩, []⟩,
    ⟨⟨some 41, .int .gtr (.s 40) (.c (.int .i64 0)), none⟩, []⟩,
    ⟨⟨some 42, .mv (.s 41), none⟩, []⟩,
    ⟨⟨some 43, .mv (.s 0), (some (42, true))⟩, []⟩,
    ⟨⟨some 44, .mv (.s 1), (some (42, true))⟩, []⟩,
    ⟨⟨some 45, .int .sub (.s 44) (.c (.int .i64 1)), (some (42, true))⟩, []⟩,
    ⟨⟨some 46, .idx 3 (.s 43) (.s 45), (some (42, true))⟩, []⟩,
    ⟨⟨some 47, .fld 0 (.s 46), (some (42, true))⟩, []⟩,
    ⟨⟨some 49, .fld 0 (.s 5), (some (42, true))⟩, []⟩,
    ⟨⟨some 48, .load false 1 (.s 47), (some (42, true))⟩, []⟩,
    ⟨⟨some 50, .load false 1 (.s 49), (some (42, true))⟩, []⟩,
    ⟨⟨some 51, .call 176 [(.s 48), (.s 50)], (some (42, true))⟩, []⟩,
    ⟨⟨some 52, .not (.s 51), (some (42, true))⟩, []⟩,
    ⟨⟨some 53, .pick (.s 42) (.s 52) (.c (.bool false)), none⟩, []⟩,
    ⟨⟨some 39, .mv (.s 53), none⟩, []⟩])
  (.cond (.s 39) (.seq (.reg [⟨some 4, .mv (.c (.int .i64 7)), none⟩])
  .ret)
  .skip)))))))))))
  (.seq (.reg [⟨some 54, .fld 0 (.s 5), none⟩,
    ⟨some 55, .load false 1 (.s 54), none⟩,
    ⟨some 56, .call 170 [(.s 55)], none⟩,
    ⟨some 7, .mv (.s 56), none⟩])
  (.seq (.seq (.reg [⟨some 57, .mv (.s 7), none⟩,
    ⟨some 58, .str .eql (.s 57) (.c (.string ⟨#[]⟩)), none⟩])
  (.cond (.s 58) (.seq (.reg [⟨some 4, .mv (.c (.int .i64 0)), none⟩])
  .ret)
  .skip))
  (.seq (.reg [⟨some 60, .mv (.s 0), none⟩,
    ⟨some 61, .mv (.s 1), none⟩,
    ⟨some 62, .slc 3 (.s 60) none (some (.s 61)) none, none⟩,
    ⟨some 63, .mv (.s 7), none⟩,
    ⟨some 64, .call 151 [(.s 62), (.s 63)], none⟩,
    ⟨some 59, .mv (.s 64), none⟩,
    ⟨some 65, .ext (.s 59) 0, none⟩,
    ⟨some 66, .ext (.s 59) 1, none⟩,
    ⟨some 8, .alloc (some 1) [.v (.string ⟨#[]⟩), .v (.bool false), .v (.slice none 0 0)], none⟩,
    ⟨none, .store 3 (.s 8) (.s 65), none⟩,
    ⟨some 9, .mv (.s 66), none⟩])
  (.seq (.block 1 (.seq (.reg [⟨some 68, .mv (.s 9), none⟩,
    ⟨some 69, .not (.s 68), none⟩,
    ⟨some 67, .mv (.s 69), none⟩])
  (.cond (.s 67) (.seq (.reg [⟨some 4, .mv (.c (.int .i64 8)), none⟩])
  .ret)
  (.seq (.reg [⟨some 71, .fld 1 (.s 8), none⟩,
    ⟨some 72, .load false 1 (.s 71), none⟩,
    ⟨some 73, .not (.s 72), none⟩,
    ⟨some 70, .mv (.s 73), none⟩])
  (.cond (.s 70) (.seq (.reg [⟨some 4, .mv (.c (.int .i64 9)), none⟩])
  .ret)
  .skip)))))
  (.seq (.reg [⟨some 4, .mv (.c (.int .i64 0)), none⟩])
  .ret)))))))))⟩

/-- sumpter/sumpterref07.Split -/
def sf191 : SF :=
  ⟨1, 34, [.t 2],
  (.seq (.reg [⟨some 2, .mv (.c (.slice none 0 0)), none⟩])
  (.seq (.seq (.reg [⟨some 6, .mv (.s 0), none⟩,
    ⟨some 7, .str .eql (.s 6) (.c (.string ⟨#[]⟩)), none⟩])
  (.cond (.s 7) (.seq (.reg [⟨some 2, .mv (.c (.slice none 0 0)), none⟩])
  .ret)
  .skip))
  (.seq (.reg [⟨some 3, .mv (.c (.slice none 0 0)), none⟩])
  (.seq (.reg [⟨some 4, .mv (.c (.int .i64 0)), none⟩])
  (.seq (.seq (.reg [⟨some 5, .mv (.c (.int .i64 0)), none⟩])
  (.block 0 (.loop (.seq (.seq (.reg [⟨some 8, .mv (.s 5), none⟩,
    ⟨some 9, .mv (.s 0), none⟩,
    ⟨some 10, .slen (.s 9), none⟩,
    ⟨some 11, .int .leq (.s 8) (.s 10), none⟩])
  (.cond (.s 11) .skip
  (.exit 0)))
  (.seq (.block 1 (.seq (.reg [⟨some 14, .mv (.s 5), none⟩,
    ⟨some 15, .mv (.s 0), none⟩,
    ⟨some 16, .slen (.s 15), none⟩,
    ⟨some 17, .int .eql (.s 14) (.s 16), none⟩,
    ⟨some 18, .mv (.s 17), none⟩,
    ⟨some 19, .mv (.s 0), (some (18, false))⟩,
    ⟨some 20, .mv (.s 5), (some (18, false))⟩,
    ⟨some 21, .sidx (.s 19) (.s 20), (some (18, false))⟩,
    ⟨some 22, .int .eql (.s 21) (.c (.int .u8 47)), (some (18, false))⟩,
    ⟨some 23, .pick (.s 18) (.c (.bool true)) (.s 22), none⟩])
  (.cond (.s 23) (.seq (.reg [⟨some 24, .mv (.s 3), none⟩,
    ⟨some 25, .mv (.s 0), none⟩,
    ⟨some 26, .mv (.s 4), none⟩,
    ⟨some 27, .mv (.s 5), none⟩,
    ⟨some 28, .ssl (.s 25) (some (.s 26)) (some (.s 27)), none⟩,
    ⟨some 29, .bslice 1 [(.s 28)], none⟩,
    ⟨some 30, .app 1 16 (.s 24) (.s 29), none⟩,
    ⟨some 3, .mv (.s 30), none⟩])
  (.reg [⟨some 31, .mv (.s 5), none⟩,
    ⟨some 32, .int .add (.s 31) (.c (.int .i64 1)), none⟩,
    ⟨some 4, .mv (.s 32), none⟩]))
  .skip)))
  (.reg [⟨some 12, .mv (.s 5), none⟩,
    ⟨some 13, .int .add (.s 12) (.c (.int .i64 1)), none⟩,
    ⟨some 5, .mv (.s 13), none⟩]))))))
  (.seq (.reg [⟨some 33, .mv (.s 3), none⟩,
    ⟨some 2, .mv (.s 33), none⟩])
  .ret))))))⟩

/-- sumpter/path.Check -/
def sf192 : SF :=
  ⟨1, 19, [.t 2],
  (.seq (.reg [⟨some 2, .mv (.c (.int .i64 0)), none⟩])
  (.seq (.seq (.reg [⟨some 4, .mv (.s 0), none⟩,
    ⟨some 5, .slen (.s 4), none⟩,
    ⟨some 6, .int .gtr (.s 5) (.c (.int .i64 128)), none⟩])
  (.cond (.s 6) (.seq (.reg [⟨some 2, .mv (.c (.int .i64 5)), none⟩])
  .ret)
  .skip))
  (.seq (.reg [⟨some 7, .mv (.s 0), none⟩,
    ⟨some 8, .call 181 [(.s 7)], none⟩,
    ⟨some 3, .mv (.s 8), none⟩])
  (.seq (.seq (.reg [⟨some 9, .mv (.s 3), none⟩,
    ⟨some 10, .len (.s 9), none⟩,
    ⟨some 11, .int .eql (.s 10) (.c (.int .i64 0)), none⟩,
    ⟨some 12, .mv (.s 11), none⟩,
    ⟨some 13, .mv (.s 3), (some (12, false))⟩,
    ⟨some 14, .call 201 [(.s 13), (.f 202)], (some (12, false))⟩,
    ⟨some 15, .pick (.s 12) (.c (.bool true)) (.s 14), none⟩])
  (.cond (.s 15) (.seq (.reg [⟨some 2, .mv (.c (.int .i64 6)), none⟩])
  .ret)
  .skip))
  (.seq (.seq (.reg [⟨some 16, .mv (.s 3), none⟩,
    ⟨some 17, .len (.s 16), none⟩,
    ⟨some 18, .int .gtr (.s 17) (.c (.int .i64 8)), none⟩])
  (.cond (.s 18) (.seq (.reg [⟨some 2, .mv (.c (.int .i64 5)), none⟩])
  .ret)
  .skip))
  (.seq (.reg [⟨some 2, .mv (.c (.int .i64 0)), none⟩])
  .ret))))))⟩

/-- sumpter/path.Reserved -/
def sf193 : SF :=
  ⟨1, 5, [.t 2],
  (.seq (.reg [⟨some 2, .mv (.c (.bool false)), none⟩])
  (.seq (.reg [⟨some 3, .mv (.s 0), none⟩,
    ⟨some 4, .call 203 [(.s 3), (.c (.string ⟨#[46, 115, 117, 109, 112, 116, 101, 114]⟩))], none⟩,
    ⟨some 2, .mv (.s 4), none⟩])
  .ret))⟩

/-- bytes.Equal -/
def sf194 : SF :=
  ⟨2, 10, [.t 4],
  (.seq (.reg [⟨some 4, .mv (.c (.bool false)), none⟩])
  (.seq (.reg [⟨some 5, .mv (.s 0), none⟩,
    ⟨some 6, .nd .b2s [(.s 5)], none⟩,
    ⟨some 7, .mv (.s 1), none⟩,
    ⟨some 8, .nd .b2s [(.s 7)], none⟩,
    ⟨some 9, .str .eql (.s 6) (.s 8), none⟩,
    ⟨some 4, .mv (.s 9), none⟩])
  .ret))⟩

/-- strings.Split -/
def sf195 : SF :=
  ⟨2, 8, [.t 4],
  (.seq (.reg [⟨some 4, .mv (.c (.slice none 0 0)), none⟩])
  (.seq (.reg [⟨some 5, .mv (.s 0), none⟩,
    ⟨some 6, .mv (.s 1), none⟩,
    ⟨some 7, .call 204 [(.s 5), (.s 6), (.c (.int .i64 0)), (.c (.int .i64 (-1)))], none⟩,
    ⟨some 4, .mv (.s 7), none⟩])
  .ret))⟩

/-- cmp.Compare[string] -/
def sf196 : SF :=
  ⟨2, 20, [.t 4],
  (.seq (.reg [⟨some 4, .mv (.c (.int .i64 0)), none⟩])
  (.seq (.reg [⟨some 7, .mv (.s 0), none⟩,
    ⟨some 8, .call 205 [(.s 7)], none⟩,
    ⟨some 5, .mv (.s 8), none⟩])
  (.seq (.reg [⟨some 9, .mv (.s 1), none⟩,
    ⟨some 10, .call 205 [(.s 9)], none⟩,
    ⟨some 6, .mv (.s 10), none⟩])
  (.seq (.seq (.reg [⟨some 11, .mv (.s 5), none⟩])
  (.cond (.s 11) (.seq (.seq (.reg [⟨some 12, .mv (.s 6), none⟩])
  (.cond (.s 12) (.seq (.reg [⟨some 4, .mv (.c (.int .i64 0)), none⟩])
  .ret)
  .skip))
  (.seq (.reg [⟨some 4, .mv (.c (.int .i64 (-1))), none⟩])
  .ret))
  .skip))
  (.seq (.seq (.reg [⟨some 13, .mv (.s 6), none⟩])
  (.cond (.s 13) (.seq (.reg [⟨some 4, .mv (.c (.int .i64 1)), none⟩])
  .ret)
  .skip))
  (.seq (.seq (.reg [⟨some 14, .mv (.s 0), none⟩,
    ⟨some 15, .mv (.s 1), none⟩,
    ⟨some 16, .str .lss (.s 14) (.s 15), none⟩])
  (.cond (.s 16) (.seq (.reg [⟨some 4, .mv (.c (.int .i64 (-1))), none⟩])
  .ret)
  .skip))
  (.seq (.seq (.reg [⟨some 17, .mv (.s 0), none⟩,
    ⟨some 18, .mv (.s 1), none⟩,
    ⟨some 19, .str .gtr (.s 17) (.s 18), none⟩])
  (.cond (.s 19) (.seq (.reg [⟨some 4, .mv (.c (.int .i64 1)), none⟩])
  .ret)
  .skip))
  (.seq (.reg [⟨some 4, .mv (.c (.int .i64 0)), none⟩])
  .ret))))))))⟩

/-- strings.LastIndex -/
def sf197 : SF :=
  ⟨2, 36, [.t 4],
  (.seq (.reg [⟨some 4, .mv (.c (.int .i64 0)), none⟩])
  (.seq (.reg [⟨some 6, .mv (.s 1), none⟩,
    ⟨some 7, .slen (.s 6), none⟩,
    ⟨some 5, .mv (.s 7), none⟩])
  (.seq (.block 0 (.seq (.reg [⟨some 9, .mv (.s 5), none⟩,
    ⟨some 10, .int .eql (.s 9) (.c (.int .i64 0)), none⟩,
    ⟨some 8, .mv (.s 10), none⟩])
  (.cond (.s 8) (.seq (.reg [⟨some 11, .mv (.s 0), none⟩,
    ⟨some 12, .slen (.s 11), none⟩,
    ⟨some 4, .mv (.s 12), none⟩])
  .ret)
  (.seq (.reg [⟨some 14, .mv (.s 5), none⟩,
    ⟨some 15, .int .eql (.s 14) (.c (.int .i64 1)), none⟩,
    ⟨some 13, .mv (.s 15), none⟩])
  (.cond (.s 13) (.seq (.reg [⟨some 16, .mv (.s 0), none⟩,
    ⟨some 17, .mv (.s 1), none⟩,
    ⟨some 18, .sidx (.s 17) (.c (.int .i64 0)), none⟩,
    ⟨some 19, .call 206 [(.s 16), (.s 18)], none⟩,
    ⟨some 4, .mv (.s 19), none⟩])
  .ret)
  (.seq (.reg [⟨some 21, .mv (.s 5), none⟩,
    ⟨some 22, .mv (.s 0), none⟩,
    ⟨some 23, .slen (.s 22), none⟩,
    ⟨some 24, .int .eql (.s 21) (.s 23), none⟩,
    ⟨some 20, .mv (.s 24), none⟩])
  (.cond (.s 20) (.seq (.seq (.reg [⟨some 25, .mv (.s 1), none⟩,
    ⟨some 26, .mv (.s 0), none⟩,
    ⟨some 27, .str .eql (.s 25) (.s 26), none⟩])
  (.cond (.s 27) (.seq (.reg [⟨some 4, .mv (.c (.int .i64 0)), none⟩])
  .ret)
  .skip))
  (.seq (.reg [⟨some 4, .mv (.c (.int .i64 (-1))), none⟩])
  .ret))
  (.seq (.reg [⟨some 29, .mv (.s 5), none⟩,
    ⟨some 30, .mv (.s 0), none⟩,
    ⟨some 31, .slen (.s 30), none⟩,
    ⟨some 32, .int .gtr (.s 29) (.s 31), none⟩,
    ⟨some 28, .mv (.s 32), none⟩])
  (.cond (.s 28) (.seq (.reg [⟨some 4, .mv (.c (.int .i64 (-1))), none⟩])
  .ret)
  .skip)))))))))
  (.seq (.reg [⟨some 33, .mv (.s 0), none⟩,
    ⟨some 34, .mv (.s 1), none⟩,
    ⟨some 35, .dead, none⟩,
    ⟨some 4, .mv (.s 35), none⟩])
  .ret))))⟩

/-- slices.rotateLeft[sumpter/api.Entry] -/
def sf198 : SF :=
  ⟨2, 14, [],
  (.seq (.reg [⟨some 4, .mv (.s 0), none⟩,
    ⟨some 5, .mv (.s 1), none⟩,
    ⟨some 6, .slc 3 (.s 4) none (some (.s 5)) none, none⟩,
    ⟨some 7, .call 208 [(.s 6)], none⟩])
  (.seq (.reg [⟨some 8, .mv (.s 0), none⟩,
    ⟨some 9, .mv (.s 1), none⟩,
    ⟨some 10, .slc 3 (.s 8) (some (.s 9)) none none, none⟩,
    ⟨some 11, .call 208 [(.s 10)], none⟩])
  (.reg [⟨some 12, .mv (.s 0), none⟩,
    ⟨some 13, .call 208 [(.s 12)], none⟩])))⟩

/-- sumpter/sumpterref07.Check -/
def sf199 : SF :=
  ⟨1, 30, [.t 2],
  (.seq (.reg [⟨some 2, .mv (.c (.int .i64 0)), none⟩])
  (.seq (.seq (.reg [⟨some 5, .mv (.s 0), none⟩,
    ⟨some 6, .slen (.s 5), none⟩,
    ⟨some 7, .int .gtr (.s 6) (.c (.int .i64 128)), none⟩])
  (.cond (.s 7) (.seq (.reg [⟨some 2, .mv (.c (.int .i64 5)), none⟩])
  .ret)
  .skip))
  (.seq (.reg [⟨some 8, .mv (.s 0), none⟩,
    ⟨some 9, .call 191 [(.s 8)], none⟩,
    ⟨some 3, .mv (.s 9), none⟩])
  (.seq (.seq (.reg [⟨some 4, .mv (.c (.int .i64 0)), none⟩])
  (.block 0 (.loop (.seq (.seq (.reg [⟨some 10, .mv (.s 4), none⟩,
    ⟨some 11, .mv (.s 3), none⟩,
    ⟨some 12, .len (.s 11), none⟩,
    ⟨some 13, .int .lss (.s 10) (.s 12), none⟩])
  (.cond (.s 13) .skip
  (.exit 0)))
  (.seq (.block 1 (.seq (.reg [⟨some 16, .mv (.s 3), none⟩,
    ⟨some 17, .mv (.s 4), none⟩,
    ⟨some 18, .idx 1 (.s 16) (.s 17), none⟩,
    ⟨some 19, .load false 1 (.s 18), none⟩,
    ⟨some 20, .call 209 [(.s 19)], none⟩,
    ⟨some 21, .not (.s 20), none⟩])
  (.cond (.s 21) (.seq (.reg [⟨some 2, .mv (.c (.int .i64 6)), none⟩])
  .ret)
  .skip)))
  (.reg [⟨some 14, .mv (.s 4), none⟩,
    ⟨some 15, .int .add (.s 14) (.c (.int .i64 1)), none⟩,
    ⟨some 4, .mv (.s 15), none⟩]))))))
  (.seq (.block 2 (.seq (.reg [⟨some 23, .mv (.s 3), none⟩,
    ⟨some 24, .len (.s 23), none⟩,
    ⟨some 25, .int .eql (.s 24) (.c (.int .i64 0)), none⟩,
    ⟨some 22, .mv (.s 25), none⟩])
  (.cond (.s 22) (.seq (.reg [⟨some 2, .mv (.c (.int .i64 6)), none⟩])
  .ret)
  (.seq (.reg [⟨some 27, .mv (.s 3), none⟩,
    ⟨some 28, .len (.s 27), none⟩,
    ⟨some 29, .int .gtr (.s 28) (.c (.int .i64 8)), none⟩,
    ⟨some 26, .mv (.s 29), none⟩])
  (.cond (.s 26) (.seq (.reg [⟨some 2, .mv (.c (.int .i64 5)), none⟩])
  .ret)
  .skip)))))
  (.seq (.reg [⟨some 2, .mv (.c (.int .i64 0)), none⟩])
  .ret))))))⟩

/-- sumpter/sumpterref07.Reserved -/
def sf200 : SF :=
  ⟨1, 11, [.t 2],
  (.seq (.reg [⟨some 2, .mv (.c (.bool false)), none⟩])
  (.seq (.reg [⟨some 3, .mv (.s 0), none⟩,
    ⟨some 4, .slen (.s 3), none⟩,
    ⟨some 5, .int .geq (.s 4) (.c (.int .i64 8)), none⟩,
    ⟨some 6, .mv (.s 5), none⟩,
    ⟨some 7, .mv (.s 0), (some (6, true))⟩,
    ⟨some 8, .ssl (.s 7) none (some (.c (.int .i64 8))), (some (6, true))⟩,
    ⟨some 9, .str .eql (.s 8) (.c (.string ⟨#[46, 115, 117, 109, 112, 116, 101, 114]⟩)), (some (6, true))⟩,
    ⟨some 10, .pick (.s 6) (.s 9) (.c (.bool false)), none⟩,
    ⟨some 2, .mv (.s 10), none⟩])
  .ret))⟩

/-- slices.ContainsFunc[[]string,string] -/
def sf201 : SF :=
  ⟨2, 9, [.t 4],
  (.seq (.reg [⟨some 4, .mv (.c (.bool false)), none⟩])
  (.seq (.reg [⟨some 5, .mv (.s 0), none⟩,
    ⟨some 6, .mv (.s 1), none⟩,
    ⟨some 7, .call 210 [(.s 5), (.s 6)], none⟩,
    ⟨some 8, .int .geq (.s 7) (.c (.int .i64 0)), none⟩,
    ⟨some 4, .mv (.s 8), none⟩])
  .ret))⟩

/-- sumpter/path.Check$1 -/
def sf202 : SF :=
  ⟨1, 6, [.t 2],
  (.seq (.reg [⟨some 2, .mv (.c (.bool false)), none⟩])
  (.seq (.reg [⟨some 3, .mv (.s 0), none⟩,
    ⟨some 4, .call 211 [(.s 3)], none⟩,
    ⟨some 5, .not (.s 4), none⟩,
    ⟨some 2, .mv (.s 5), none⟩])
  .ret))⟩

/-- strings.HasPrefix -/
def sf203 : SF :=
  ⟨2, 8, [.t 4],
  (.seq (.reg [⟨some 4, .mv (.c (.bool false)), none⟩])
  (.seq (.reg [⟨some 5, .mv (.s 0), none⟩,
    ⟨some 6, .mv (.s 1), none⟩,
    ⟨some 7, .call 212 [(.s 5), (.s 6)], none⟩,
    ⟨some 4, .mv (.s 7), none⟩])
  .ret))⟩

/-- strings.genSplit -/
def sf204 : SF :=
  ⟨4, 66, [.t 8],
  (.seq (.reg [⟨some 8, .mv (.c (.slice none 0 0)), none⟩])
  (.seq (.seq (.reg [⟨some 12, .mv (.s 3), none⟩,
    ⟨some 13, .int .eql (.s 12) (.c (.int .i64 0)), none⟩])
  (.cond (.s 13) (.seq (.reg [⟨some 8, .mv (.c (.slice none 0 0)), none⟩])
  .ret)
  .skip))
  (.seq (.seq (.reg [⟨some 14, .mv (.s 1), none⟩,
    ⟨some 15, .str .eql (.s 14) (.c (.string ⟨#[]⟩)), none⟩])
  (.cond (.s 15) (.seq (.reg [⟨some 16, .mv (.s 0), none⟩,
    ⟨some 17, .mv (.s 3), none⟩,
    ⟨some 18, .dead, none⟩,
    ⟨some 8, .mv (.s 18), none⟩])
  .ret)
  .skip))
  (.seq (.seq (.reg [⟨some 19, .mv (.s 3), none⟩,
    ⟨some 20, .int .lss (.s 19) (.c (.int .i64 0)), none⟩])
  (.cond (.s 20) (.reg [⟨some 21, .mv (.s 0), none⟩,
    ⟨some 22, .mv (.s 1), none⟩,
    ⟨some 23, .call 214 [(.s 21), (.s 22)], none⟩,
    ⟨some 24, .int .add (.s 23) (.c (.int .i64 1)), none⟩,
    ⟨some 3, .mv (.s 24), none⟩])
  .skip))
  (.seq (.reg [⟨some 25, .mv (.s 3), none⟩,
    ⟨some 26, .mv (.s 0), none⟩,
    ⟨some 27, .slen (.s 26), none⟩,
    ⟨some 28, .int .add (.s 27) (.c (.int .i64 1)), none⟩,
    ⟨some 29, .mm false (.s 25) (.s 28), none⟩,
    ⟨some 3, .mv (.s 29), none⟩])
  (.seq (.reg [⟨some 30, .mv (.s 3), none⟩,
    ⟨some 31, .hop (.mks 1 16 [.v (.string ⟨#[]⟩)]) [(.s 30), (.s 30)], none⟩,
    ⟨some 9, .mv (.s 31), none⟩])
  (.seq (.reg [⟨some 32, .mv (.s 3), none⟩,
    ⟨some 33, .int .sub (.s 32) (.c (.int .i64 1)), none⟩,
    ⟨some 3, .mv (.s 33), none⟩])
  (.seq (.reg [⟨some 10, .mv (.c (.int .i64 0)), none⟩])
  (.seq (.block 0 (.loop (.seq (.seq (.reg [⟨some 34, .mv (.s 10), none⟩,
    ⟨some 35, .mv (.s 3), none⟩,
    ⟨some 36, .int .lss (.s 34) (.s 35), none⟩])
  (.cond (.s 36) .skip
  (.exit 0)))
  (.block 1 (.seq (.reg [⟨some 37, .mv (.s 0), none⟩,
    ⟨some 38, .mv (.s 1), none⟩,
    ⟨some 39, .call 218 [(.s 37), (.s 38)], none⟩,
    ⟨some 11, .mv (.s 39), none⟩])
  (.seq (.seq (.reg [⟨some 40, .mv (.s 11), none⟩,
    ⟨some 41, .int .lss (.s 40) (.c (.int .i64 0)), none⟩])
  (.cond (.s 41) (.exit 0)
  .skip))
  (.seq (.reg [⟨some 42, .mv (.s 9), none⟩,
    ⟨some 43, .mv (.s 10), none⟩,
    ⟨some 44, .mv (.s 0), none⟩,
    ⟨some 45, .mv (.s 11), none⟩,
    ⟨some 46, .mv (.s 2), none⟩,
    ⟨some 47, .int .add (.s 45) (.s 46), none⟩,
    ⟨some 48, .ssl (.s 44) none (some (.s 47)), none⟩,
    ⟨some 49, .idx 1 (.s 42) (.s 43), none⟩,
    ⟨none, .store 1 (.s 49) (.s 48), none⟩])
  (.seq (.reg [⟨some 50, .mv (.s 0), none⟩,
    ⟨some 51, .mv (.s 11), none⟩,
    ⟨some 52, .mv (.s 1), none⟩,
    ⟨some 53, .slen (.s 52), none⟩,
    ⟨some 54, .int .add (.s 51) (.s 53), none⟩,
    ⟨some 55, .ssl (.s 50) (some (.s 54)) none, none⟩,
    ⟨some 0, .mv (.s 55), none⟩])
  (.reg [⟨some 56, .mv (.s 10), none⟩,
    ⟨some 57, .int .add (.s 56) (.c (.int .i64 1)), none⟩,
    ⟨some 10, .mv (.s 57), none⟩])))))))))
  (.seq (.reg [⟨some 58, .mv (.s 9), none⟩,
    ⟨some 59, .mv (.s 10), none⟩,
    ⟨some 60, .mv (.s 0), none⟩,
    ⟨some 61, .idx 1 (.s 58) (.s 59), none⟩,
    ⟨none, .store 1 (.s 61) (.s 60), none⟩])
  (.seq (.reg [⟨some 62, .mv (.s 9), none⟩,
    ⟨some 63, .mv (.s 10), none⟩,
    ⟨some 64, .int .add (.s 63) (.c (.int .i64 1)), none⟩,
    ⟨some 65, .slc 1 (.s 62) none (some (.s 64)) none, none⟩,
    ⟨some 8, .mv (.s 65), none⟩])
  .ret)))))))))))⟩

/-- cmp.isNaN[string] -/
def sf205 : SF :=
  ⟨1, 6, [.t 2],
  (.seq (.reg [⟨some 2, .mv (.c (.bool false)), none⟩])
  (.seq (.reg [⟨some 3, .mv (.s 0), none⟩,
    ⟨some 4, .mv (.s 0), none⟩,
    ⟨some 5, .str .neq (.s 3) (.s 4), none⟩,
    ⟨some 2, .mv (.s 5), none⟩])
  .ret))⟩

/-- internal/bytealg.LastIndexByteString -/
def sf206 : SF :=
  ⟨2, 19, [.t 4],
  (.seq (.reg [⟨some 4, .mv (.c (.int .i64 0)), none⟩])
  (.seq (.seq (.reg [⟨some 6, .mv (.s 0), none⟩,
    ⟨some 7, .slen (.s 6), none⟩,
    ⟨some 8, .int .sub (.s 7) (.c (.int .i64 1)), none⟩,
    ⟨some 5, .mv (.s 8), none⟩])
  (.block 0 (.loop (.seq (.seq (.reg [⟨some 9, .mv (.s 5), none⟩,
    ⟨some 10, .int .geq (.s 9) (.c (.int .i64 0)), none⟩])
  (.cond (.s 10) .skip
  (.exit 0)))
  (.seq (.block 1 (.seq (.reg [⟨some 13, .mv (.s 0), none⟩,
    ⟨some 14, .mv (.s 5), none⟩,
    ⟨some 15, .sidx (.s 13) (.s 14), none⟩,
    ⟨some 16, .mv (.s 1), none⟩,
    ⟨some 17, .int .eql (.s 15) (.s 16), none⟩])
  (.cond (.s 17) (.seq (.reg [⟨some 18, .mv (.s 5), none⟩,
    ⟨some 4, .mv (.s 18), none⟩])
  .ret)
  .skip)))
  (.reg [⟨some 11, .mv (.s 5), none⟩,
    ⟨some 12, .int .sub (.s 11) (.c (.int .i64 1)), none⟩,
    ⟨some 5, .mv (.s 12), none⟩]))))))
  (.seq (.reg [⟨some 4, .mv (.c (.int .i64 (-1))), none⟩])
  .ret)))⟩

/-- slices.Reverse[[]sumpter/api.Entry,sumpter/api.Entry] -/
def sf208 : SF :=
  ⟨1, 28, [],
  (.seq (.reg [⟨some 4, .mv (.s 0), none⟩,
    ⟨some 5, .len (.s 4), none⟩,
    ⟨some 6, .int .sub (.s 5) (.c (.int .i64 1)), none⟩,
    ⟨some 2, .mv (.c (.int .i64 0)), none⟩,
    ⟨some 3, .mv (.s 6), none⟩])
  (.block 0 (.loop (.seq (.seq (.reg [⟨some 7, .mv (.s 2), none⟩,
    ⟨some 8, .mv (.s 3), none⟩,
    ⟨some 9, .int .lss (.s 7) (.s 8), none⟩])
  (.cond (.s 9) .skip
  (.exit 0)))
  (.seq (.block 1 (.dreg [0, 1, 2, 3, 4, 5, 6, 8, 9, 10, 7, 11, 12, 13, 14, 15] [⟨⟨some 14, .mv (.s 0), none⟩, []⟩,
    ⟨⟨some 15, .mv (.s 2), none⟩, []⟩,
    ⟨⟨some 16, .mv (.s 0), none⟩, []⟩,
    ⟨⟨some 17, .mv (.s 3), none⟩, []⟩,
    ⟨⟨some 18, .mv (.s 0), none⟩, []⟩,
    ⟨⟨some 19, .mv (.s 3), none⟩, []⟩,
    ⟨⟨some 20, .idx 3 (.s 18) (.s 19), none⟩, []⟩,
    ⟨⟨some 22, .mv (.s 0), none⟩, []⟩,
    ⟨⟨some 23, .mv (.s 2), none⟩, []⟩,
    ⟨⟨some 24, .idx 3 (.s 22) (.s 23), none⟩, []⟩,
    ⟨⟨some 21, .load true 3 (.s 20), none⟩, []⟩,
    ⟨⟨some 25, .load true 3 (.s 24), none⟩, []⟩,
    ⟨⟨some 26, .idx 3 (.s 14) (.s 15), none⟩, []⟩,
    ⟨⟨none, .store 3 (.s 26) (.s 21), none⟩, []⟩,
    ⟨⟨some 27, .idx 3 (.s 16) (.s 17), none⟩, []⟩,
    ⟨⟨none, .store 3 (.s 27) (.s 25), none⟩, []⟩]))
  (.reg [⟨some 10, .mv (.s 2), none⟩,
    ⟨some 11, .int .add (.s 10) (.c (.int .i64 1)), none⟩,
    ⟨some 12, .mv (.s 3), none⟩,
    ⟨some 13, .int .sub (.s 12) (.c (.int .i64 1)), none⟩,
    ⟨some 2, .mv (.s 11), none⟩,
    ⟨some 3, .mv (.s 13), none⟩]))))))⟩

/-- sumpter/sumpterref07.Name -/
def sf209 : SF :=
  ⟨1, 42, [.t 2],
  (.seq (.reg [⟨some 2, .mv (.c (.bool false)), none⟩])
  (.seq (.seq (.reg [⟨some 4, .mv (.s 0), none⟩,
    ⟨some 5, .slen (.s 4), none⟩,
    ⟨some 6, .int .lss (.s 5) (.c (.int .i64 1)), none⟩,
    ⟨some 7, .mv (.s 6), none⟩,
    ⟨some 8, .mv (.s 0), (some (7, false))⟩,
    ⟨some 9, .slen (.s 8), (some (7, false))⟩,
    ⟨some 10, .int .gtr (.s 9) (.c (.int .i64 32)), (some (7, false))⟩,
    ⟨some 11, .pick (.s 7) (.c (.bool true)) (.s 10), none⟩,
    ⟨some 12, .mv (.s 11), none⟩,
    ⟨some 13, .mv (.s 0), (some (12, false))⟩,
    ⟨some 14, .str .eql (.s 13) (.c (.string ⟨#[46]⟩)), (some (12, false))⟩,
    ⟨some 15, .pick (.s 12) (.c (.bool true)) (.s 14), none⟩,
    ⟨some 16, .mv (.s 15), none⟩,
    ⟨some 17, .mv (.s 0), (some (16, false))⟩,
    ⟨some 18, .str .eql (.s 17) (.c (.string ⟨#[46, 46]⟩)), (some (16, false))⟩,
    ⟨some 19, .pick (.s 16) (.c (.bool true)) (.s 18), none⟩])
  (.cond (.s 19) (.seq (.reg [⟨some 2, .mv (.c (.bool false)), none⟩])
  .ret)
  .skip))
  (.seq (.seq (.reg [⟨some 3, .mv (.c (.int .i64 0)), none⟩])
  (.block 0 (.loop (.seq (.seq (.reg [⟨some 20, .mv (.s 3), none⟩,
    ⟨some 21, .mv (.s 0), none⟩,
    ⟨some 22, .slen (.s 21), none⟩,
    ⟨some 23, .int .lss (.s 20) (.s 22), none⟩])
  (.cond (.s 23) .skip
  (.exit 0)))
  (.seq (.block 1 (.seq (.reg [⟨some 26, .mv (.s 0), none⟩,
    ⟨some 27, .mv (.s 3), none⟩,
    ⟨some 28, .sidx (.s 26) (.s 27), none⟩,
    ⟨some 29, .int .eql (.s 28) (.c (.int .u8 47)), none⟩,
    ⟨some 30, .mv (.s 29), none⟩,
    ⟨some 31, .mv (.s 0), (some (30, false))⟩,
    ⟨some 32, .mv (.s 3), (some (30, false))⟩,
    ⟨some 33, .sidx (.s 31) (.s 32), (some (30, false))⟩,
    ⟨some 34, .int .lss (.s 33) (.c (.int .u8 33)), (some (30, false))⟩,
    ⟨some 35, .pick (.s 30) (.c (.bool true)) (.s 34), none⟩,
    ⟨some 36, .mv (.s 35), none⟩,
    ⟨some 37, .mv (.s 0), (some (36, false))⟩,
    ⟨some 38, .mv (.s 3), (some (36, false))⟩,
    ⟨some 39, .sidx (.s 37) (.s 38), (some (36, false))⟩,
    ⟨some 40, .int .gtr (.s 39) (.c (.int .u8 126)), (some (36, false))⟩,
    ⟨some 41, .pick (.s 36) (.c (.bool true)) (.s 40), none⟩])
  (.cond (.s 41) (.seq (.reg [⟨some 2, .mv (.c (.bool false)), none⟩])
  .ret)
  .skip)))
  (.reg [⟨some 24, .mv (.s 3), none⟩,
    ⟨some 25, .int .add (.s 24) (.c (.int .i64 1)), none⟩,
    ⟨some 3, .mv (.s 25), none⟩]))))))
  (.seq (.reg [⟨some 2, .mv (.c (.bool true)), none⟩])
  .ret))))⟩

/-- slices.IndexFunc[[]string,string] -/
def sf210 : SF :=
  ⟨2, 19, [.t 4],
  (.seq (.reg [⟨some 4, .mv (.c (.int .i64 0)), none⟩])
  (.seq (.seq (.reg [⟨some 6, .mv (.s 0), none⟩,
    ⟨some 7, .len (.s 6), none⟩,
    ⟨some 8, .mv (.c (.int .i64 0)), none⟩])
  (.block 0 (.loop (.seq (.reg [⟨some 9, .int .lss (.s 8) (.s 7), none⟩])
  (.seq (.cond (.s 9) .skip
  (.exit 0))
  (.seq (.block 1 (.seq (.reg [⟨some 10, .mv (.s 8), none⟩,
    ⟨some 5, .mv (.s 10), none⟩])
  (.seq (.reg [⟨some 11, .mv (.s 1), none⟩,
    ⟨some 12, .mv (.s 0), none⟩,
    ⟨some 13, .mv (.s 5), none⟩,
    ⟨some 14, .idx 1 (.s 12) (.s 13), none⟩,
    ⟨some 15, .load false 1 (.s 14), none⟩,
    ⟨some 16, .callv (.s 11) [(.s 15)], none⟩])
  (.cond (.s 16) (.seq (.reg [⟨some 17, .mv (.s 5), none⟩,
    ⟨some 4, .mv (.s 17), none⟩])
  .ret)
  .skip))))
  (.reg [⟨some 18, .int .add (.s 8) (.c (.int .i64 1)), none⟩,
    ⟨some 8, .mv (.s 18), none⟩])))))))
  (.seq (.reg [⟨some 4, .mv (.c (.int .i64 (-1))), none⟩])
  .ret)))⟩

/-- sumpter/path.Name -/
def sf211 : SF :=
  ⟨1, 39, [.t 2],
  (.seq (.reg [⟨some 2, .mv (.c (.bool false)), none⟩])
  (.seq (.seq (.reg [⟨some 5, .mv (.s 0), none⟩,
    ⟨some 6, .str .eql (.s 5) (.c (.string ⟨#[]⟩)), none⟩,
    ⟨some 7, .mv (.s 6), none⟩,
    ⟨some 8, .mv (.s 0), (some (7, false))⟩,
    ⟨some 9, .slen (.s 8), (some (7, false))⟩,
    ⟨some 10, .int .gtr (.s 9) (.c (.int .i64 32)), (some (7, false))⟩,
    ⟨some 11, .pick (.s 7) (.c (.bool true)) (.s 10), none⟩,
    ⟨some 12, .mv (.s 11), none⟩,
    ⟨some 13, .mv (.s 0), (some (12, false))⟩,
    ⟨some 14, .str .eql (.s 13) (.c (.string ⟨#[46]⟩)), (some (12, false))⟩,
    ⟨some 15, .pick (.s 12) (.c (.bool true)) (.s 14), none⟩,
    ⟨some 16, .mv (.s 15), none⟩,
    ⟨some 17, .mv (.s 0), (some (16, false))⟩,
    ⟨some 18, .str .eql (.s 17) (.c (.string ⟨#[46, 46]⟩)), (some (16, false))⟩,
    ⟨some 19, .pick (.s 16) (.c (.bool true)) (.s 18), none⟩])
  (.cond (.s 19) (.seq (.reg [⟨some 2, .mv (.c (.bool false)), none⟩])
  .ret)
  .skip))
  (.seq (.seq (.reg [⟨some 20, .mv (.s 0), none⟩,
    ⟨some 21, .slen (.s 20), none⟩,
    ⟨some 22, .mv (.c (.int .i64 0)), none⟩])
  (.block 0 (.loop (.seq (.reg [⟨some 23, .int .lss (.s 22) (.s 21), none⟩])
  (.seq (.cond (.s 23) .skip
  (.exit 0))
  (.seq (.block 1 (.seq (.reg [⟨some 24, .mv (.s 22), none⟩,
    ⟨some 3, .mv (.s 24), none⟩])
  (.seq (.reg [⟨some 25, .mv (.s 0), none⟩,
    ⟨some 26, .mv (.s 3), none⟩,
    ⟨some 27, .sidx (.s 25) (.s 26), none⟩,
    ⟨some 4, .mv (.s 27), none⟩])
  (.seq (.reg [⟨some 28, .mv (.s 4), none⟩,
    ⟨some 29, .int .eql (.s 28) (.c (.int .u8 47)), none⟩,
    ⟨some 30, .mv (.s 29), none⟩,
    ⟨some 31, .mv (.s 4), (some (30, false))⟩,
    ⟨some 32, .int .leq (.s 31) (.c (.int .u8 32)), (some (30, false))⟩,
    ⟨some 33, .pick (.s 30) (.c (.bool true)) (.s 32), none⟩,
    ⟨some 34, .mv (.s 33), none⟩,
    ⟨some 35, .mv (.s 4), (some (34, false))⟩,
    ⟨some 36, .int .gtr (.s 35) (.c (.int .u8 126)), (some (34, false))⟩,
    ⟨some 37, .pick (.s 34) (.c (.bool true)) (.s 36), none⟩])
  (.cond (.s 37) (.seq (.reg [⟨some 2, .mv (.c (.bool false)), none⟩])
  .ret)
  .skip)))))
  (.reg [⟨some 38, .int .add (.s 22) (.c (.int .i64 1)), none⟩,
    ⟨some 22, .mv (.s 38), none⟩])))))))
  (.seq (.reg [⟨some 2, .mv (.c (.bool true)), none⟩])
  .ret))))⟩

/-- internal/stringslite.HasPrefix -/
def sf212 : SF :=
  ⟨2, 18, [.t 4],
  (.seq (.reg [⟨some 4, .mv (.c (.bool false)), none⟩])
  (.seq (.reg [⟨some 5, .mv (.s 0), none⟩,
    ⟨some 6, .slen (.s 5), none⟩,
    ⟨some 7, .mv (.s 1), none⟩,
    ⟨some 8, .slen (.s 7), none⟩,
    ⟨some 9, .int .geq (.s 6) (.s 8), none⟩,
    ⟨some 10, .mv (.s 9), none⟩,
    ⟨some 11, .mv (.s 0), (some (10, true))⟩,
    ⟨some 12, .mv (.s 1), (some (10, true))⟩,
    ⟨some 13, .slen (.s 12), (some (10, true))⟩,
    ⟨some 14, .ssl (.s 11) none (some (.s 13)), (some (10, true))⟩,
    ⟨some 15, .mv (.s 1), (some (10, true))⟩,
    ⟨some 16, .str .eql (.s 14) (.s 15), (some (10, true))⟩,
    ⟨some 17, .pick (.s 10) (.s 16) (.c (.bool false)), none⟩,
    ⟨some 4, .mv (.s 17), none⟩])
  .ret))⟩

/-- strings.Count -/
def sf214 : SF :=
  ⟨2, 34, [.t 4],
  (.seq (.reg [⟨some 4, .mv (.c (.int .i64 0)), none⟩])
  (.seq (.seq (.reg [⟨some 7, .mv (.s 1), none⟩,
    ⟨some 8, .slen (.s 7), none⟩,
    ⟨some 9, .int .eql (.s 8) (.c (.int .i64 0)), none⟩])
  (.cond (.s 9) (.seq (.reg [⟨some 10, .mv (.s 0), none⟩,
    ⟨some 11, .dead, none⟩,
    ⟨some 12, .int .add (.s 11) (.c (.int .i64 1)), none⟩,
    ⟨some 4, .mv (.s 12), none⟩])
  .ret)
  .skip))
  (.seq (.seq (.reg [⟨some 13, .mv (.s 1), none⟩,
    ⟨some 14, .slen (.s 13), none⟩,
    ⟨some 15, .int .eql (.s 14) (.c (.int .i64 1)), none⟩])
  (.cond (.s 15) (.seq (.reg [⟨some 16, .mv (.s 0), none⟩,
    ⟨some 17, .mv (.s 1), none⟩,
    ⟨some 18, .sidx (.s 17) (.c (.int .i64 0)), none⟩,
    ⟨some 19, .nd .cntb [(.s 16), (.s 18)], none⟩,
    ⟨some 4, .mv (.s 19), none⟩])
  .ret)
  .skip))
  (.seq (.reg [⟨some 5, .mv (.c (.int .i64 0)), none⟩])
  (.block 0 (.loop (.block 1 (.seq (.reg [⟨some 20, .mv (.s 0), none⟩,
    ⟨some 21, .mv (.s 1), none⟩,
    ⟨some 22, .call 218 [(.s 20), (.s 21)], none⟩,
    ⟨some 6, .mv (.s 22), none⟩])
  (.seq (.seq (.reg [⟨some 23, .mv (.s 6), none⟩,
    ⟨some 24, .int .eql (.s 23) (.c (.int .i64 (-1))), none⟩])
  (.cond (.s 24) (.seq (.reg [⟨some 25, .mv (.s 5), none⟩,
    ⟨some 4, .mv (.s 25), none⟩])
  .ret)
  .skip))
  (.seq (.reg [⟨some 26, .mv (.s 5), none⟩,
    ⟨some 27, .int .add (.s 26) (.c (.int .i64 1)), none⟩,
    ⟨some 5, .mv (.s 27), none⟩])
  (.reg [⟨some 28, .mv (.s 0), none⟩,
    ⟨some 29, .mv (.s 6), none⟩,
    ⟨some 30, .mv (.s 1), none⟩,
    ⟨some 31, .slen (.s 30), none⟩,
    ⟨some 32, .int .add (.s 29) (.s 31), none⟩,
    ⟨some 33, .ssl (.s 28) (some (.s 32)) none, none⟩,
    ⟨some 0, .mv (.s 33), none⟩])))))))))))⟩

/-- strings.Index -/
def sf218 : SF :=
  ⟨2, 8, [.t 4],
  (.seq (.reg [⟨some 4, .mv (.c (.int .i64 0)), none⟩])
  (.seq (.reg [⟨some 5, .mv (.s 0), none⟩,
    ⟨some 6, .mv (.s 1), none⟩,
    ⟨some 7, .call 219 [(.s 5), (.s 6)], none⟩,
    ⟨some 4, .mv (.s 7), none⟩])
  .ret))⟩

/-- internal/stringslite.Index -/
def sf219 : SF :=
  ⟨2, 143, [.t 4],
  (.seq (.reg [⟨some 4, .mv (.c (.int .i64 0)), none⟩])
  (.seq (.reg [⟨some 14, .mv (.s 1), none⟩,
    ⟨some 15, .slen (.s 14), none⟩,
    ⟨some 5, .mv (.s 15), none⟩])
  (.seq (.block 0 (.seq (.reg [⟨some 17, .mv (.s 5), none⟩,
    ⟨some 18, .int .eql (.s 17) (.c (.int .i64 0)), none⟩,
    ⟨some 19, .mv (.s 18), none⟩,
    ⟨some 20, .mv (.s 1), (some (19, false))⟩,
    ⟨some 21, .mv (.s 0), (some (19, false))⟩,
    ⟨some 22, .str .eql (.s 20) (.s 21), (some (19, false))⟩,
    ⟨some 23, .pick (.s 19) (.c (.bool true)) (.s 22), none⟩,
    ⟨some 16, .mv (.s 23), none⟩])
  (.cond (.s 16) (.seq (.reg [⟨some 4, .mv (.c (.int .i64 0)), none⟩])
  .ret)
  (.seq (.reg [⟨some 25, .mv (.s 5), none⟩,
    ⟨some 26, .int .eql (.s 25) (.c (.int .i64 1)), none⟩,
    ⟨some 24, .mv (.s 26), none⟩])
  (.cond (.s 24) (.seq (.reg [⟨some 27, .mv (.s 0), none⟩,
    ⟨some 28, .mv (.s 1), none⟩,
    ⟨some 29, .sidx (.s 28) (.c (.int .i64 0)), none⟩,
    ⟨some 30, .call 221 [(.s 27), (.s 29)], none⟩,
    ⟨some 4, .mv (.s 30), none⟩])
  .ret)
  (.seq (.reg [⟨some 32, .mv (.s 5), none⟩,
    ⟨some 33, .mv (.s 0), none⟩,
    ⟨some 34, .slen (.s 33), none⟩,
    ⟨some 35, .int .geq (.s 32) (.s 34), none⟩,
    ⟨some 31, .mv (.s 35), none⟩])
  (.cond (.s 31) (.seq (.reg [⟨some 4, .mv (.c (.int .i64 (-1))), none⟩])
  .ret)
  (.seq (.reg [⟨some 37, .mv (.s 5), none⟩,
    ⟨some 38, .dead, none⟩,
    ⟨some 39, .int .leq (.s 37) (.s 38), none⟩,
    ⟨some 40, .mv (.s 39), none⟩,
    ⟨some 41, .mv (.s 0), (some (40, true))⟩,
    ⟨some 42, .slen (.s 41), (some (40, true))⟩,
    ⟨some 43, .int .leq (.s 42) (.c (.int .i64 64)), (some (40, true))⟩,
    ⟨some 44, .pick (.s 40) (.s 43) (.c (.bool false)), none⟩,
    ⟨some 36, .mv (.s 44), none⟩])
  (.cond (.s 36) (.seq (.reg [⟨some 45, .mv (.s 0), none⟩,
    ⟨some 46, .mv (.s 1), none⟩,
    ⟨some 47, .dead, none⟩,
    ⟨some 4, .mv (.s 47), none⟩])
  .ret)
  .skip)))))))))
  (.seq (.reg [⟨some 48, .mv (.s 1), none⟩,
    ⟨some 49, .sidx (.s 48) (.c (.int .i64 0)), none⟩,
    ⟨some 6, .mv (.s 49), none⟩])
  (.seq (.reg [⟨some 50, .mv (.s 1), none⟩,
    ⟨some 51, .sidx (.s 50) (.c (.int .i64 1)), none⟩,
    ⟨some 7, .mv (.s 51), none⟩])
  (.seq (.reg [⟨some 8, .mv (.c (.int .i64 0)), none⟩])
  (.seq (.reg [⟨some 52, .mv (.s 0), none⟩,
    ⟨some 53, .slen (.s 52), none⟩,
    ⟨some 54, .mv (.s 5), none⟩,
    ⟨some 55, .int .sub (.s 53) (.s 54), none⟩,
    ⟨some 56, .int .add (.s 55) (.c (.int .i64 1)), none⟩,
    ⟨some 9, .mv (.s 56), none⟩])
  (.seq (.reg [⟨some 10, .mv (.c (.int .i64 0)), none⟩])
  (.seq (.block 1 (.loop (.seq (.seq (.reg [⟨some 57, .mv (.s 8), none⟩,
    ⟨some 58, .mv (.s 9), none⟩,
    ⟨some 59, .int .lss (.s 57) (.s 58), none⟩])
  (.cond (.s 59) .skip
  (.exit 1)))
  (.block 2 (.seq (.seq (.reg [⟨some 60, .mv (.s 0), none⟩,
    ⟨some 61, .mv (.s 8), none⟩,
    ⟨some 62, .sidx (.s 60) (.s 61), none⟩,
    ⟨some 63, .mv (.s 6), none⟩,
    ⟨some 64, .int .neq (.s 62) (.s 63), none⟩])
  (.cond (.s 64) (.seq (.reg [⟨some 65, .mv (.s 0), none⟩,
    ⟨some 66, .mv (.s 8), none⟩,
    ⟨some 67, .int .add (.s 66) (.c (.int .i64 1)), none⟩,
    ⟨some 68, .mv (.s 9), none⟩,
    ⟨some 69, .ssl (.s 65) (some (.s 67)) (some (.s 68)), none⟩,
    ⟨some 70, .mv (.s 6), none⟩,
    ⟨some 71, .call 221 [(.s 69), (.s 70)], none⟩,
    ⟨some 11, .mv (.s 71), none⟩])
  (.seq (.seq (.reg [⟨some 72, .mv (.s 11), none⟩,
    ⟨some 73, .int .lss (.s 72) (.c (.int .i64 0)), none⟩])
  (.cond (.s 73) (.seq (.reg [⟨some 4, .mv (.c (.int .i64 (-1))), none⟩])
  .ret)
  .skip))
  (.reg [⟨some 74, .mv (.s 8), none⟩,
    ⟨some 75, .mv (.s 11), none⟩,
    ⟨some 76, .int .add (.s 75) (.c (.int .i64 1)), none⟩,
    ⟨some 77, .int .add (.s 74) (.s 76), none⟩,
    ⟨some 8, .mv (.s 77), none⟩])))
  .skip))
  (.seq (.seq (.reg [⟨some 78, .mv (.s 0), none⟩,
    ⟨some 79, .mv (.s 8), none⟩,
    ⟨some 80, .int .add (.s 79) (.c (.int .i64 1)), none⟩,
    ⟨some 81, .sidx (.s 78) (.s 80), none⟩,
    ⟨some 82, .mv (.s 7), none⟩,
    ⟨some 83, .int .eql (.s 81) (.s 82), none⟩,
    ⟨some 84, .mv (.s 83), none⟩,
    ⟨some 85, .mv (.s 0), (some (84, true))⟩,
    ⟨some 86, .mv (.s 8), (some (84, true))⟩,
    ⟨some 87, .mv (.s 8), (some (84, true))⟩,
    ⟨some 88, .mv (.s 5), (some (84, true))⟩,
    ⟨some 89, .int .add (.s 87) (.s 88), (some (84, true))⟩,
    ⟨some 90, .ssl (.s 85) (some (.s 86)) (some (.s 89)), (some (84, true))⟩,
    ⟨some 91, .mv (.s 1), (some (84, true))⟩,
    ⟨some 92, .str .eql (.s 90) (.s 91), (some (84, true))⟩,
    ⟨some 93, .pick (.s 84) (.s 92) (.c (.bool false)), none⟩])
  (.cond (.s 93) (.seq (.reg [⟨some 94, .mv (.s 8), none⟩,
    ⟨some 4, .mv (.s 94), none⟩])
  .ret)
  .skip))
  (.seq (.reg [⟨some 95, .mv (.s 8), none⟩,
    ⟨some 96, .int .add (.s 95) (.c (.int .i64 1)), none⟩,
    ⟨some 8, .mv (.s 96), none⟩])
  (.seq (.reg [⟨some 97, .mv (.s 10), none⟩,
    ⟨some 98, .int .add (.s 97) (.c (.int .i64 1)), none⟩,
    ⟨some 10, .mv (.s 98), none⟩])
  (.seq (.reg [⟨some 99, .mv (.s 5), none⟩,
    ⟨some 100, .dead, none⟩,
    ⟨some 101, .int .leq (.s 99) (.s 100), none⟩,
    ⟨some 102, .mv (.s 101), none⟩,
    ⟨some 103, .mv (.s 10), (some (102, true))⟩,
    ⟨some 104, .mv (.s 8), (some (102, true))⟩,
    ⟨some 105, .dead, (some (102, true))⟩,
    ⟨some 106, .int .gtr (.s 103) (.s 105), (some (102, true))⟩,
    ⟨some 107, .pick (.s 102) (.s 106) (.c (.bool false)), none⟩])
  (.cond (.s 107) (.seq (.reg [⟨some 108, .mv (.s 0), none⟩,
    ⟨some 109, .mv (.s 8), none⟩,
    ⟨some 110, .ssl (.s 108) (some (.s 109)) none, none⟩,
    ⟨some 111, .mv (.s 1), none⟩,
    ⟨some 112, .dead, none⟩,
    ⟨some 12, .mv (.s 112), none⟩])
  (.seq (.seq (.reg [⟨some 113, .mv (.s 12), none⟩,
    ⟨some 114, .int .geq (.s 113) (.c (.int .i64 0)), none⟩])
  (.cond (.s 114) (.seq (.reg [⟨some 115, .mv (.s 12), none⟩,
    ⟨some 116, .mv (.s 8), none⟩,
    ⟨some 117, .int .add (.s 115) (.s 116), none⟩,
    ⟨some 4, .mv (.s 117), none⟩])
  .ret)
  .skip))
  (.seq (.reg [⟨some 4, .mv (.c (.int .i64 (-1))), none⟩])
  .ret)))
  (.seq (.reg [⟨some 118, .mv (.s 5), none⟩,
    ⟨some 119, .dead, none⟩,
    ⟨some 120, .int .gtr (.s 118) (.s 119), none⟩,
    ⟨some 121, .mv (.s 120), none⟩,
    ⟨some 122, .mv (.s 10), (some (121, true))⟩,
    ⟨some 123, .mv (.s 8), (some (121, true))⟩,
    ⟨some 124, .int .shr (.s 123) (.c (.int .u64 4)), (some (121, true))⟩,
    ⟨some 125, .int .add (.c (.int .i64 4)) (.s 124), (some (121, true))⟩,
    ⟨some 126, .int .geq (.s 122) (.s 125), (some (121, true))⟩,
    ⟨some 127, .pick (.s 121) (.s 126) (.c (.bool false)), none⟩,
    ⟨some 128, .mv (.s 127), none⟩,
    ⟨some 129, .mv (.s 8), (some (128, true))⟩,
    ⟨some 130, .mv (.s 9), (some (128, true))⟩,
    ⟨some 131, .int .lss (.s 129) (.s 130), (some (128, true))⟩,
    ⟨some 132, .pick (.s 128) (.s 131) (.c (.bool false)), none⟩])
  (.cond (.s 132) (.seq (.reg [⟨some 133, .mv (.s 0), none⟩,
    ⟨some 134, .mv (.s 8), none⟩,
    ⟨some 135, .ssl (.s 133) (some (.s 134)) none, none⟩,
    ⟨some 136, .mv (.s 1), none⟩,
    ⟨some 137, .dead, none⟩,
    ⟨some 13, .mv (.s 137), none⟩])
  (.seq (.seq (.reg [⟨some 138, .mv (.s 13), none⟩,
    ⟨some 139, .int .lss (.s 138) (.c (.int .i64 0)), none⟩])
  (.cond (.s 139) (.seq (.reg [⟨some 4, .mv (.c (.int .i64 (-1))), none⟩])
  .ret)
  .skip))
  (.seq (.reg [⟨some 140, .mv (.s 8), none⟩,
    ⟨some 141, .mv (.s 13), none⟩,
    ⟨some 142, .int .add (.s 140) (.s 141), none⟩,
    ⟨some 4, .mv (.s 142), none⟩])
  .ret)))
  .skip))))))))))))
  (.seq (.reg [⟨some 4, .mv (.c (.int .i64 (-1))), none⟩])
  .ret))))))))))⟩

/-- internal/stringslite.IndexByte -/
def sf221 : SF :=
  ⟨2, 8, [.t 4],
  (.seq (.reg [⟨some 4, .mv (.c (.int .i64 0)), none⟩])
  (.seq (.reg [⟨some 5, .mv (.s 0), none⟩,
    ⟨some 6, .mv (.s 1), none⟩,
    ⟨some 7, .nd .ixb [(.s 5), (.s 6)], none⟩,
    ⟨some 4, .mv (.s 7), none⟩])
  .ret))⟩

/-- slices.rotateRight[sumpter/api.Entry] -/
def sf228 : SF :=
  ⟨2, 10, [],
  (.reg [⟨some 4, .mv (.s 0), none⟩,
    ⟨some 5, .mv (.s 0), none⟩,
    ⟨some 6, .len (.s 5), none⟩,
    ⟨some 7, .mv (.s 1), none⟩,
    ⟨some 8, .int .sub (.s 6) (.s 7), none⟩,
    ⟨some 9, .call 198 [(.s 4), (.s 8)], none⟩])⟩

/-- sumpter/sumpterlaw09.light -/
def sf233 : SF :=
  ⟨2, 11, [.t 4],
  (.seq (.reg [⟨some 4, .mv (.c (.bool false)), none⟩])
  (.seq (.reg [⟨some 5, .mv (.s 0), none⟩,
    ⟨some 6, .call 148 [(.s 5), (.c (.int .i64 66)), (.c (.int .i64 3000))], none⟩,
    ⟨some 7, .mv (.s 6), none⟩,
    ⟨some 8, .mv (.s 1), (some (7, true))⟩,
    ⟨some 9, .call 148 [(.s 8), (.c (.int .i64 66)), (.c (.int .i64 3000))], (some (7, true))⟩,
    ⟨some 10, .pick (.s 7) (.s 9) (.c (.bool false)), none⟩,
    ⟨some 4, .mv (.s 10), none⟩])
  .ret))⟩

/-- sumpter/sumpterlaw09.awake -/
def sf234 : SF :=
  ⟨0, 88, [.t 0],
  (.seq (.reg [⟨some 0, .mv (.c (.bool false)), none⟩])
  (.seq (.reg [⟨some 10, .call 243 [(.c (.string ⟨#[97]⟩)), (.c (.string ⟨#[110, 101, 119]⟩))], none⟩,
    ⟨some 11, .bslice 3 [(.s 10)], none⟩,
    ⟨some 12, .call 243 [(.c (.string ⟨#[97]⟩)), (.c (.string ⟨#[111, 108, 100]⟩))], none⟩,
    ⟨some 13, .call 243 [(.c (.string ⟨#[98]⟩)), (.c (.string ⟨#[120]⟩))], none⟩,
    ⟨some 14, .bslice 3 [(.s 12), (.s 13)], none⟩,
    ⟨some 1, .mv (.s 11), none⟩,
    ⟨some 2, .mv (.s 14), none⟩])
  (.seq (.reg [⟨some 15, .build [.v (.bool false), .v (.bool false)] [(0, 1, (.c (.bool true))), (1, 1, (.c (.bool true)))], none⟩,
    ⟨some 3, .alloc (some 0) [.v (.bool false), .v (.bool false)], none⟩,
    ⟨none, .store 2 (.s 3) (.s 15), none⟩])
  (.seq (.reg [⟨some 17, .mv (.s 1), none⟩,
    ⟨some 18, .mv (.s 2), none⟩,
    ⟨some 19, .load true 2 (.s 3), none⟩,
    ⟨some 20, .call 235 [(.s 17), (.s 18), (.s 19)], none⟩,
    ⟨some 16, .mv (.s 20), none⟩,
    ⟨some 21, .ext (.s 16) 0, none⟩,
    ⟨some 22, .ext (.s 16) 1, none⟩,
    ⟨some 4, .mv (.s 21), none⟩,
    ⟨some 5, .mv (.s 22), none⟩])
  (.seq (.reg [⟨some 24, .mv (.s 1), none⟩,
    ⟨some 25, .mv (.s 2), none⟩,
    ⟨some 26, .load true 2 (.s 3), none⟩,
    ⟨some 27, .call 237 [(.s 24), (.s 25), (.s 26)], none⟩,
    ⟨some 23, .mv (.s 27), none⟩,
    ⟨some 28, .ext (.s 23) 0, none⟩,
    ⟨some 29, .ext (.s 23) 1, none⟩,
    ⟨some 6, .mv (.s 28), none⟩,
    ⟨some 7, .mv (.s 29), none⟩])
  (.seq (.reg [⟨some 31, .mv (.s 2), none⟩,
    ⟨some 32, .build [.v (.int .u8 0), .v (.string ⟨#[]⟩), .v (.string ⟨#[]⟩)] [(0, 1, (.c (.int .u8 3))), (1, 1, (.c (.string ⟨#[97]⟩)))], none⟩,
    ⟨some 33, .mv (.s 1), none⟩,
    ⟨some 34, .call 240 [(.s 31), (.s 32), (.s 33)], none⟩,
    ⟨some 30, .mv (.s 34), none⟩,
    ⟨some 35, .ext (.s 30) 0, none⟩,
    ⟨some 36, .ext (.s 30) 1, none⟩,
    ⟨some 8, .mv (.s 35), none⟩,
    ⟨some 9, .mv (.s 36), none⟩])
  (.seq (.reg [⟨some 37, .mv (.s 5), none⟩,
    ⟨some 38, .int .eql (.s 37) (.c (.int .i64 0)), none⟩,
    ⟨some 39, .mv (.s 38), none⟩,
    ⟨some 40, .mv (.s 7), (some (39, true))⟩,
    ⟨some 41, .int .eql (.s 40) (.c (.int .i64 0)), (some (39, true))⟩,
    ⟨some 42, .pick (.s 39) (.s 41) (.c (.bool false)), none⟩,
    ⟨some 43, .mv (.s 42), none⟩,
    ⟨some 44, .mv (.s 9), (some (43, true))⟩,
    ⟨some 45, .int .eql (.s 44) (.c (.int .i64 0)), (some (43, true))⟩,
    ⟨some 46, .pick (.s 43) (.s 45) (.c (.bool false)), none⟩,
    ⟨some 47, .mv (.s 46), none⟩,
    ⟨some 48, .mv (.s 4), (some (47, true))⟩,
    ⟨some 49, .call 243 [(.c (.string ⟨#[97]⟩)), (.c (.string ⟨#[110, 101, 119]⟩))], (some (47, true))⟩,
    ⟨some 50, .call 243 [(.c (.string ⟨#[97, 126]⟩)), (.c (.string ⟨#[111, 108, 100]⟩))], (some (47, true))⟩,
    ⟨some 51, .call 243 [(.c (.string ⟨#[98, 126]⟩)), (.c (.string ⟨#[120]⟩))], (some (47, true))⟩,
    ⟨some 52, .bslice 3 [(.s 49), (.s 50), (.s 51)], (some (47, true))⟩,
    ⟨some 53, .call 160 [(.s 48), (.s 52)], (some (47, true))⟩,
    ⟨some 54, .pick (.s 47) (.s 53) (.c (.bool false)), none⟩,
    ⟨some 55, .mv (.s 54), none⟩,
    ⟨some 56, .mv (.s 6), (some (55, true))⟩,
    ⟨some 57, .len (.s 56), (some (55, true))⟩,
    ⟨some 58, .int .eql (.s 57) (.c (.int .i64 4)), (some (55, true))⟩,
    ⟨some 59, .pick (.s 55) (.s 58) (.c (.bool false)), none⟩,
    ⟨some 60, .mv (.s 59), none⟩,
    ⟨some 61, .mv (.s 6), (some (60, true))⟩,
    ⟨some 62, .idx 3 (.s 61) (.c (.int .i64 2)), (some (60, true))⟩,
    ⟨some 63, .load true 3 (.s 62), (some (60, true))⟩,
    ⟨some 64, .build [.v (.int .u8 0), .v (.string ⟨#[]⟩), .v (.string ⟨#[]⟩)] [(0, 1, (.c (.int .u8 1))), (1, 1, (.c (.string ⟨#[98]⟩)))], (some (60, true))⟩,
    ⟨some 65, .eq (.ag [.i, .s, .s]) false (.s 63) (.s 64), (some (60, true))⟩,
    ⟨some 66, .pick (.s 60) (.s 65) (.c (.bool false)), none⟩,
    ⟨some 67, .mv (.s 66), none⟩,
    ⟨some 68, .mv (.s 8), (some (67, true))⟩,
    ⟨some 69, .call 243 [(.c (.string ⟨#[97]⟩)), (.c (.string ⟨#[110, 101, 119]⟩))], (some (67, true))⟩,
    ⟨some 70, .call 243 [(.c (.string ⟨#[98]⟩)), (.c (.string ⟨#[120]⟩))], (some (67, true))⟩,
    ⟨some 71, .bslice 3 [(.s 69), (.s 70)], (some (67, true))⟩,
    ⟨some 72, .call 160 [(.s 68), (.s 71)], (some (67, true))⟩,
    ⟨some 73, .pick (.s 67) (.s 72) (.c (.bool false)), none⟩,
    ⟨some 74, .mv (.s 73), none⟩,
    ⟨some 75, .mv (.s 2), (some (74, true))⟩,
    ⟨some 76, .mv (.s 4), (some (74, true))⟩,
    ⟨some 77, .call 243 [(.c (.string ⟨#[97]⟩)), (.c (.string ⟨#[111, 108, 100]⟩))], (some (74, true))⟩,
    ⟨some 78, .call 244 [(.s 75), (.s 76), (.c (.string ⟨#[97]⟩)), (.s 77), (.c (.bool true))], (some (74, true))⟩,
    ⟨some 79, .pick (.s 74) (.s 78) (.c (.bool false)), none⟩,
    ⟨some 80, .mv (.s 79), none⟩,
    ⟨some 81, .pick (.s 80) (.c (.bool true)) (.c (.bool false)), none⟩,
    ⟨some 82, .mv (.s 81), none⟩,
    ⟨some 83, .pick (.s 82) (.c (.bool true)) (.c (.bool false)), none⟩,
    ⟨some 84, .mv (.s 83), none⟩,
    ⟨some 85, .pick (.s 84) (.c (.bool true)) (.c (.bool false)), none⟩,
    ⟨some 86, .mv (.s 85), none⟩,
    ⟨some 87, .pick (.s 86) (.c (.bool true)) (.c (.bool false)), none⟩,
    ⟨some 0, .mv (.s 87), none⟩])
  .ret)))))))⟩

/-- sumpter/merge.Want -/
def sf235 : SF :=
  ⟨3, 92, [.t 6, .t 7],
  (.seq (.reg [⟨some 5, .box (some 0) 2 (.s 2), none⟩,
    ⟨some 6, .mv (.c (.slice none 0 0)), none⟩,
    ⟨some 7, .mv (.c (.int .i64 0)), none⟩])
  (.seq (.reg [⟨some 23, .mv (.s 0), none⟩,
    ⟨some 24, .mv (.s 1), none⟩,
    ⟨some 25, .load true 2 (.s 5), none⟩,
    ⟨some 26, .call 245 [(.s 23), (.s 24), (.s 25)], none⟩,
    ⟨some 22, .mv (.s 26), none⟩,
    ⟨some 27, .ext (.s 22) 0, none⟩,
    ⟨some 28, .ext (.s 22) 1, none⟩,
    ⟨some 8, .alloc (some 1) [.v (.map none), .v (.map none), .v (.bool false), .v (.bool false)], none⟩,
    ⟨none, .store 4 (.s 8) (.s 27), none⟩,
    ⟨some 9, .mv (.s 28), none⟩])
  (.seq (.seq (.reg [⟨some 29, .mv (.s 9), none⟩,
    ⟨some 30, .int .neq (.s 29) (.c (.int .i64 0)), none⟩])
  (.cond (.s 30) (.seq (.reg [⟨some 31, .mv (.s 9), none⟩,
    ⟨some 6, .mv (.c (.slice none 0 0)), none⟩,
    ⟨some 7, .mv (.s 31), none⟩])
  .ret)
  .skip))
  (.seq (.reg [⟨some 32, .hop (.m .mk) [], none⟩,
    ⟨some 10, .alloc none [.v (.map none)], none⟩,
    ⟨none, .store 1 (.s 10) (.s 32), none⟩])
  (.seq (.reg [⟨some 33, .mkfn 246 [(.s 10)], none⟩,
    ⟨some 11, .mv (.s 33), none⟩])
  (.seq (.seq (.reg [⟨some 34, .mv (.s 1), none⟩,
    ⟨some 35, .len (.s 34), none⟩,
    ⟨some 36, .mv (.c (.int .i64 0)), none⟩])
  (.block 0 (.loop (.seq (.reg [⟨some 37, .int .lss (.s 36) (.s 35), none⟩])
  (.seq (.cond (.s 37) .skip
  (.exit 0))
  (.seq (.block 1 (.seq (.reg [⟨some 38, .idx 3 (.s 34) (.s 36), none⟩,
    ⟨some 39, .load true 3 (.s 38), none⟩,
    ⟨some 13, .alloc (some 3) [.v (.string ⟨#[]⟩), .v (.bool false), .v (.slice none 0 0)], none⟩,
    ⟨none, .store 3 (.s 13) (.s 39), none⟩])
  (.seq (.reg [⟨some 40, .load true 4 (.s 8), none⟩,
    ⟨some 41, .load true 3 (.s 13), none⟩,
    ⟨some 42, .call 247 [(.s 40), (.s 41)], none⟩])
  (.cond (.s 42) (.reg [⟨some 43, .mv (.s 11), none⟩,
    ⟨some 44, .load true 3 (.s 13), none⟩,
    ⟨some 45, .callv (.s 43) [(.s 44)], none⟩])
  .skip))))
  (.reg [⟨some 46, .int .add (.s 36) (.c (.int .i64 1)), none⟩,
    ⟨some 36, .mv (.s 46), none⟩])))))))
  (.seq (.seq (.reg [⟨some 47, .mv (.s 1), none⟩,
    ⟨some 48, .len (.s 47), none⟩,
    ⟨some 49, .mv (.c (.int .i64 0)), none⟩])
  (.block 2 (.loop (.seq (.reg [⟨some 50, .int .lss (.s 49) (.s 48), none⟩])
  (.seq (.cond (.s 50) .skip
  (.exit 2))
  (.seq (.block 3 (.seq (.reg [⟨some 51, .idx 3 (.s 47) (.s 49), none⟩,
    ⟨some 52, .load true 3 (.s 51), none⟩,
    ⟨some 15, .alloc (some 4) [.v (.string ⟨#[]⟩), .v (.bool false), .v (.slice none 0 0)], none⟩,
    ⟨none, .store 3 (.s 15) (.s 52), none⟩])
  (.seq (.reg [⟨some 53, .load true 4 (.s 8), none⟩,
    ⟨some 54, .load true 3 (.s 15), none⟩,
    ⟨some 55, .call 248 [(.s 53), (.s 54)], none⟩,
    ⟨some 16, .mv (.s 55), none⟩])
  (.seq (.reg [⟨some 56, .mv (.s 16), none⟩,
    ⟨some 57, .str .neq (.s 56) (.c (.string ⟨#[]⟩)), none⟩])
  (.cond (.s 57) (.reg [⟨some 58, .mv (.s 11), none⟩,
    ⟨some 59, .mv (.s 16), none⟩,
    ⟨some 60, .fld 2 (.s 15), none⟩,
    ⟨some 61, .load false 1 (.s 60), none⟩,
    ⟨some 62, .build [.v (.string ⟨#[]⟩), .v (.bool false), .v (.slice none 0 0)] [(0, 1, (.s 59)), (2, 1, (.s 61))], none⟩,
    ⟨some 63, .callv (.s 58) [(.s 62)], none⟩])
  .skip)))))
  (.reg [⟨some 64, .int .add (.s 49) (.c (.int .i64 1)), none⟩,
    ⟨some 49, .mv (.s 64), none⟩])))))))
  (.seq (.seq (.reg [⟨some 65, .mv (.s 0), none⟩,
    ⟨some 66, .len (.s 65), none⟩,
    ⟨some 67, .mv (.c (.int .i64 0)), none⟩])
  (.block 4 (.loop (.seq (.reg [⟨some 68, .int .lss (.s 67) (.s 66), none⟩])
  (.seq (.cond (.s 68) .skip
  (.exit 4))
  (.seq (.block 5 (.seq (.reg [⟨some 69, .idx 3 (.s 65) (.s 67), none⟩,
    ⟨some 70, .load true 3 (.s 69), none⟩,
    ⟨some 18, .alloc (some 5) [.v (.string ⟨#[]⟩), .v (.bool false), .v (.slice none 0 0)], none⟩,
    ⟨none, .store 3 (.s 18) (.s 70), none⟩])
  (.reg [⟨some 71, .mv (.s 11), none⟩,
    ⟨some 72, .load true 3 (.s 18), none⟩,
    ⟨some 73, .callv (.s 71) [(.s 72)], none⟩])))
  (.reg [⟨some 74, .int .add (.s 67) (.c (.int .i64 1)), none⟩,
    ⟨some 67, .mv (.s 74), none⟩])))))))
  (.seq (.seq (.reg [⟨some 75, .load false 1 (.s 10), none⟩,
    ⟨some 76, .hop (.m .len) [(.s 75)], none⟩,
    ⟨some 77, .int .gtr (.s 76) (.c (.int .i64 64)), none⟩])
  (.cond (.s 77) (.seq (.reg [⟨some 6, .mv (.c (.slice none 0 0)), none⟩,
    ⟨some 7, .mv (.c (.int .i64 10)), none⟩])
  .ret)
  .skip))
  (.seq (.reg [⟨some 19, .mv (.c (.slice none 0 0)), none⟩])
  (.seq (.seq (.reg [⟨some 78, .load false 1 (.s 10), none⟩,
    ⟨some 79, .hop (.m .rng) [(.s 78)], none⟩])
  (.block 6 (.loop (.seq (.reg [⟨some 80, .hop (.m .nxt) [(.s 79)], none⟩,
    ⟨some 81, .ext (.s 80) 0, none⟩])
  (.seq (.cond (.s 81) .skip
  (.exit 6))
  (.block 7 (.seq (.reg [⟨some 82, .hop (.m .ent) [(.s 79)], none⟩,
    ⟨some 83, .ext (.s 82) 1, none⟩,
    ⟨some 21, .alloc (some 6) [.v (.string ⟨#[]⟩), .v (.bool false), .v (.slice none 0 0)], none⟩,
    ⟨none, .store 3 (.s 21) (.s 83), none⟩])
  (.reg [⟨some 84, .mv (.s 19), none⟩,
    ⟨some 85, .load true 3 (.s 21), none⟩,
    ⟨some 86, .bslice 3 [(.s 85)], none⟩,
    ⟨some 87, .app 3 48 (.s 84) (.s 86), none⟩,
    ⟨some 19, .mv (.s 87), none⟩]))))))))
  (.seq (.reg [⟨some 88, .mv (.s 19), none⟩,
    ⟨some 89, .call 249 [(.s 88), (.f 250)], none⟩])
  (.seq (.reg [⟨some 90, .mv (.s 19), none⟩,
    ⟨some 91, .call 171 [(.s 90)], none⟩,
    ⟨some 6, .mv (.s 91), none⟩,
    ⟨some 7, .mv (.c (.int .i64 0)), none⟩])
  .ret)))))))))))))⟩

/-- sumpter/sumpterref09.Want -/
def sf236 : SF :=
  ⟨3, 85, [.t 6, .t 7],
  (.seq (.reg [⟨some 5, .box (some 0) 2 (.s 2), none⟩,
    ⟨some 6, .mv (.c (.slice none 0 0)), none⟩,
    ⟨some 7, .mv (.c (.int .i64 0)), none⟩])
  (.seq (.reg [⟨some 13, .mv (.s 0), none⟩,
    ⟨some 14, .call 175 [(.s 13)], none⟩,
    ⟨some 8, .mv (.s 14), none⟩])
  (.seq (.seq (.reg [⟨some 15, .mv (.s 8), none⟩,
    ⟨some 16, .int .eql (.s 15) (.c (.int .i64 0)), none⟩])
  (.cond (.s 16) (.reg [⟨some 17, .mv (.s 1), none⟩,
    ⟨some 18, .call 175 [(.s 17)], none⟩,
    ⟨some 8, .mv (.s 18), none⟩])
  .skip))
  (.seq (.seq (.reg [⟨some 19, .mv (.s 8), none⟩,
    ⟨some 20, .int .neq (.s 19) (.c (.int .i64 0)), none⟩])
  (.cond (.s 20) (.seq (.reg [⟨some 21, .mv (.s 8), none⟩,
    ⟨some 6, .mv (.c (.slice none 0 0)), none⟩,
    ⟨some 7, .mv (.s 21), none⟩])
  .ret)
  .skip))
  (.seq (.reg [⟨some 9, .mv (.c (.slice none 0 0)), none⟩])
  (.seq (.seq (.reg [⟨some 10, .mv (.c (.int .i64 0)), none⟩])
  (.block 0 (.loop (.seq (.seq (.reg [⟨some 22, .mv (.s 10), none⟩,
    ⟨some 23, .mv (.s 1), none⟩,
    ⟨some 24, .len (.s 23), none⟩,
    ⟨some 25, .int .lss (.s 22) (.s 24), none⟩])
  (.cond (.s 25) .skip
  (.exit 0)))
  (.seq (.block 1 (.seq (.dreg [0, 1, 2, 3, 4, 5, 6] [⟨⟨some 28, .mv (.s 0), none⟩, []⟩,
    ⟨⟨some 29, .mv (.s 1), none⟩, []⟩,
    ⟨⟨some 30, .mv (.s 10), none⟩, []⟩,
    ⟨⟨some 31, .idx 3 (.s 29) (.s 30), none⟩, []⟩,
    ⟨⟨some 32, .load true 3 (.s 31), none⟩, []⟩,
    ⟨⟨some 33, .load true 2 (.s 5), none⟩, []⟩,
    ⟨⟨some 34, .call 251 [(.s 28), (.s 32), (.s 33)], none⟩, []⟩])
  (.cond (.s 34) (.reg [⟨some 35, .mv (.s 9), none⟩,
    ⟨some 36, .mv (.s 1), none⟩,
    ⟨some 37, .mv (.s 10), none⟩,
    ⟨some 38, .idx 3 (.s 36) (.s 37), none⟩,
    ⟨some 39, .load true 3 (.s 38), none⟩,
    ⟨some 40, .call 252 [(.s 35), (.s 39)], none⟩,
    ⟨some 9, .mv (.s 40), none⟩])
  .skip)))
  (.reg [⟨some 26, .mv (.s 10), none⟩,
    ⟨some 27, .int .add (.s 26) (.c (.int .i64 1)), none⟩,
    ⟨some 10, .mv (.s 27), none⟩]))))))
  (.seq (.seq (.reg [⟨some 11, .mv (.c (.int .i64 0)), none⟩])
  (.block 2 (.loop (.seq (.seq (.reg [⟨some 41, .mv (.s 11), none⟩,
    ⟨some 42, .mv (.s 1), none⟩,
    ⟨some 43, .len (.s 42), none⟩,
    ⟨some 44, .int .lss (.s 41) (.s 43), none⟩])
  (.cond (.s 44) .skip
  (.exit 2)))
  (.seq (.block 3 (.seq (.dreg [0, 1, 2, 3, 4, 5, 6, 7] [⟨⟨some 47, .mv (.s 0), none⟩, []⟩,
    ⟨⟨some 48, .mv (.s 1), none⟩, []⟩,
    ⟨⟨some 49, .mv (.s 1), none⟩, []⟩,
    ⟨⟨some 50, .mv (.s 11), none⟩, []⟩,
    ⟨⟨some 51, .idx 3 (.s 49) (.s 50), none⟩, []⟩,
    ⟨⟨some 52, .load true 3 (.s 51), none⟩, []⟩,
    ⟨⟨some 53, .load true 2 (.s 5), none⟩, []⟩,
    ⟨⟨some 54, .call 253 [(.s 47), (.s 48), (.s 52), (.s 53)], none⟩, []⟩])
  (.cond (.s 54) (.dreg [0, 1, 2, 3, 4, 7, 8, 9, 10, 5, 11, 6, 12, 13, 14] [⟨⟨some 55, .mv (.s 9), none⟩, []⟩,
    ⟨⟨some 56, .mv (.s 1), none⟩, []⟩,
    ⟨⟨some 57, .mv (.s 11), none⟩, []⟩,
    ⟨⟨some 58, .idx 3 (.s 56) (.s 57), none⟩, []⟩,
    ⟨⟨some 59, .fld 0 (.s 58), none⟩, []⟩,
    ⟨⟨some 62, .mv (.s 1), none⟩, []⟩,
    ⟨⟨some 63, .mv (.s 11), none⟩, []⟩,
    ⟨⟨some 64, .idx 3 (.s 62) (.s 63), none⟩, []⟩,
    ⟨⟨some 65, .fld 2 (.s 64), none⟩, []⟩,
    ⟨⟨some 60, .load false 1 (.s 59), none⟩, []⟩,
    ⟨⟨some 66, .load false 1 (.s 65), none⟩, []⟩,
    ⟨⟨some 61, .call 254 [(.s 60)], none⟩, [10]⟩,
    ⟨⟨some 67, .build [.v (.string ⟨#[]⟩), .v (.bool false), .v (.slice none 0 0)] [(0, 1, (.s 61)), (2, 1, (.s 66))], none⟩, []⟩,
    ⟨⟨some 68, .call 252 [(.s 55), (.s 67)], none⟩, []⟩,
    ⟨⟨some 9, .mv (.s 68), none⟩, []⟩])
  .skip)))
  (.reg [⟨some 45, .mv (.s 11), none⟩,
    ⟨some 46, .int .add (.s 45) (.c (.int .i64 1)), none⟩,
    ⟨some 11, .mv (.s 46), none⟩]))))))
  (.seq (.seq (.reg [⟨some 12, .mv (.c (.int .i64 0)), none⟩])
  (.block 4 (.loop (.seq (.seq (.reg [⟨some 69, .mv (.s 12), none⟩,
    ⟨some 70, .mv (.s 0), none⟩,
    ⟨some 71, .len (.s 70), none⟩,
    ⟨some 72, .int .lss (.s 69) (.s 71), none⟩])
  (.cond (.s 72) .skip
  (.exit 4)))
  (.seq (.block 5 (.reg [⟨some 75, .mv (.s 9), none⟩,
    ⟨some 76, .mv (.s 0), none⟩,
    ⟨some 77, .mv (.s 12), none⟩,
    ⟨some 78, .idx 3 (.s 76) (.s 77), none⟩,
    ⟨some 79, .load true 3 (.s 78), none⟩,
    ⟨some 80, .call 252 [(.s 75), (.s 79)], none⟩,
    ⟨some 9, .mv (.s 80), none⟩]))
  (.reg [⟨some 73, .mv (.s 12), none⟩,
    ⟨some 74, .int .add (.s 73) (.c (.int .i64 1)), none⟩,
    ⟨some 12, .mv (.s 74), none⟩]))))))
  (.seq (.seq (.reg [⟨some 81, .mv (.s 9), none⟩,
    ⟨some 82, .len (.s 81), none⟩,
    ⟨some 83, .int .gtr (.s 82) (.c (.int .i64 64)), none⟩])
  (.cond (.s 83) (.seq (.reg [⟨some 6, .mv (.c (.slice none 0 0)), none⟩,
    ⟨some 7, .mv (.c (.int .i64 10)), none⟩])
  .ret)
  .skip))
  (.seq (.reg [⟨some 84, .mv (.s 9), none⟩,
    ⟨some 6, .mv (.s 84), none⟩,
    ⟨some 7, .mv (.c (.int .i64 0)), none⟩])
  .ret))))))))))⟩

/-- sumpter/merge.Plan -/
def sf237 : SF :=
  ⟨3, 65, [.t 6, .t 7],
  (.seq (.reg [⟨some 5, .box (some 0) 2 (.s 2), none⟩,
    ⟨some 6, .mv (.c (.slice none 0 0)), none⟩,
    ⟨some 7, .mv (.c (.int .i64 0)), none⟩])
  (.seq (.reg [⟨some 17, .mv (.s 0), none⟩,
    ⟨some 18, .mv (.s 1), none⟩,
    ⟨some 19, .load true 2 (.s 5), none⟩,
    ⟨some 20, .call 235 [(.s 17), (.s 18), (.s 19)], none⟩,
    ⟨some 16, .mv (.s 20), none⟩,
    ⟨some 21, .ext (.s 16) 0, none⟩,
    ⟨some 22, .ext (.s 16) 1, none⟩,
    ⟨some 8, .mv (.s 21), none⟩,
    ⟨some 9, .mv (.s 22), none⟩])
  (.seq (.seq (.reg [⟨some 23, .mv (.s 9), none⟩,
    ⟨some 24, .int .neq (.s 23) (.c (.int .i64 0)), none⟩])
  (.cond (.s 24) (.seq (.reg [⟨some 25, .mv (.s 9), none⟩,
    ⟨some 6, .mv (.c (.slice none 0 0)), none⟩,
    ⟨some 7, .mv (.s 25), none⟩])
  .ret)
  .skip))
  (.seq (.reg [⟨some 27, .mv (.s 0), none⟩,
    ⟨some 28, .mv (.s 1), none⟩,
    ⟨some 29, .load true 2 (.s 5), none⟩,
    ⟨some 30, .call 245 [(.s 27), (.s 28), (.s 29)], none⟩,
    ⟨some 26, .mv (.s 30), none⟩,
    ⟨some 31, .ext (.s 26) 0, none⟩,
    ⟨some 32, .ext (.s 26) 1, none⟩,
    ⟨some 10, .alloc none [.v (.map none), .v (.map none), .v (.bool false), .v (.bool false)], none⟩,
    ⟨none, .store 4 (.s 10) (.s 31), none⟩,
    ⟨some 9, .mv (.s 32), none⟩])
  (.seq (.seq (.reg [⟨some 33, .mv (.s 9), none⟩,
    ⟨some 34, .int .neq (.s 33) (.c (.int .i64 0)), none⟩])
  (.cond (.s 34) (.seq (.reg [⟨some 35, .mv (.s 9), none⟩,
    ⟨some 6, .mv (.c (.slice none 0 0)), none⟩,
    ⟨some 7, .mv (.s 35), none⟩])
  .ret)
  .skip))
  (.seq (.reg [⟨some 36, .mv (.s 8), none⟩,
    ⟨some 37, .call 255 [(.s 36)], none⟩,
    ⟨some 11, .alloc none [.v (.map none)], none⟩,
    ⟨none, .store 1 (.s 11) (.s 37), none⟩])
  (.seq (.reg [⟨some 12, .alloc none [.v (.slice none 0 0)], none⟩])
  (.seq (.reg [⟨some 38, .mkfn 256 [(.s 12)], none⟩,
    ⟨some 13, .mv (.s 38), none⟩])
  (.seq (.reg [⟨some 14, .mv (.f 257), none⟩])
  (.seq (.reg [⟨some 39, .mv (.s 13), none⟩,
    ⟨some 40, .mv (.s 1), none⟩,
    ⟨some 41, .mkfn 258 [(.s 10)], none⟩,
    ⟨some 42, .load true 4 (.s 10), none⟩,
    ⟨some 43, .hop (.m (.mkm 248)) [(.s 42)], none⟩,
    ⟨some 44, .callv (.s 39) [(.s 40), (.c (.int .u8 0)), (.s 41), (.s 43)], none⟩])
  (.seq (.reg [⟨some 45, .mv (.s 1), none⟩,
    ⟨some 46, .call 188 [(.s 45)], none⟩,
    ⟨some 15, .mv (.s 46), none⟩])
  (.seq (.reg [⟨some 47, .mv (.s 15), none⟩,
    ⟨some 48, .call 208 [(.s 47)], none⟩])
  (.seq (.reg [⟨some 49, .mv (.s 13), none⟩,
    ⟨some 50, .mv (.s 15), none⟩,
    ⟨some 51, .mkfn 259 [(.s 11)], none⟩,
    ⟨some 52, .mv (.s 14), none⟩,
    ⟨some 53, .callv (.s 49) [(.s 50), (.c (.int .u8 1)), (.s 51), (.s 52)], none⟩])
  (.seq (.reg [⟨some 54, .mv (.s 13), none⟩,
    ⟨some 55, .mv (.s 8), none⟩,
    ⟨some 56, .mkfn 260 [(.s 10)], none⟩,
    ⟨some 57, .mv (.s 14), none⟩,
    ⟨some 58, .callv (.s 54) [(.s 55), (.c (.int .u8 2)), (.s 56), (.s 57)], none⟩])
  (.seq (.reg [⟨some 59, .mv (.s 13), none⟩,
    ⟨some 60, .mv (.s 0), none⟩,
    ⟨some 61, .mkfn 261 [(.s 10)], none⟩,
    ⟨some 62, .mv (.s 14), none⟩,
    ⟨some 63, .callv (.s 59) [(.s 60), (.c (.int .u8 3)), (.s 61), (.s 62)], none⟩])
  (.seq (.reg [⟨some 64, .load false 1 (.s 12), none⟩,
    ⟨some 6, .mv (.s 64), none⟩,
    ⟨some 7, .mv (.c (.int .i64 0)), none⟩])
  .ret))))))))))))))))⟩

/-- sumpter/sumpterref09.Plan -/
def sf238 : SF :=
  ⟨3, 215, [.t 6, .t 7],
  (.seq (.reg [⟨some 5, .box (some 0) 2 (.s 2), none⟩,
    ⟨some 6, .mv (.c (.slice none 0 0)), none⟩,
    ⟨some 7, .mv (.c (.int .i64 0)), none⟩])
  (.seq (.reg [⟨some 25, .mv (.s 0), none⟩,
    ⟨some 26, .mv (.s 1), none⟩,
    ⟨some 27, .load true 2 (.s 5), none⟩,
    ⟨some 28, .call 236 [(.s 25), (.s 26), (.s 27)], none⟩,
    ⟨some 24, .mv (.s 28), none⟩,
    ⟨some 29, .ext (.s 24) 0, none⟩,
    ⟨some 30, .ext (.s 24) 1, none⟩,
    ⟨some 8, .mv (.s 29), none⟩,
    ⟨some 9, .mv (.s 30), none⟩])
  (.seq (.seq (.reg [⟨some 31, .mv (.s 9), none⟩,
    ⟨some 32, .int .neq (.s 31) (.c (.int .i64 0)), none⟩])
  (.cond (.s 32) (.seq (.reg [⟨some 33, .mv (.s 9), none⟩,
    ⟨some 6, .mv (.c (.slice none 0 0)), none⟩,
    ⟨some 7, .mv (.s 33), none⟩])
  .ret)
  .skip))
  (.seq (.reg [⟨some 10, .mv (.c (.slice none 0 0)), none⟩])
  (.seq (.seq (.reg [⟨some 11, .mv (.c (.int .i64 0)), none⟩])
  (.block 0 (.loop (.seq (.seq (.reg [⟨some 34, .mv (.s 11), none⟩,
    ⟨some 35, .mv (.s 1), none⟩,
    ⟨some 36, .len (.s 35), none⟩,
    ⟨some 37, .int .lss (.s 34) (.s 36), none⟩])
  (.cond (.s 37) .skip
  (.exit 0)))
  (.seq (.block 1 (.seq (.reg [⟨some 40, .mv (.s 1), none⟩,
    ⟨some 41, .mv (.s 11), none⟩,
    ⟨some 42, .idx 3 (.s 40) (.s 41), none⟩,
    ⟨some 43, .fld 0 (.s 42), none⟩,
    ⟨some 44, .load false 1 (.s 43), none⟩,
    ⟨some 45, .call 254 [(.s 44)], none⟩,
    ⟨some 12, .mv (.s 45), none⟩])
  (.seq (.reg [⟨some 47, .mv (.s 1), none⟩,
    ⟨some 48, .mv (.s 12), none⟩,
    ⟨some 49, .call 151 [(.s 47), (.s 48)], none⟩,
    ⟨some 46, .mv (.s 49), none⟩,
    ⟨some 50, .ext (.s 46) 0, none⟩,
    ⟨some 51, .ext (.s 46) 1, none⟩,
    ⟨some 13, .alloc (some 1) [.v (.string ⟨#[]⟩), .v (.bool false), .v (.slice none 0 0)], none⟩,
    ⟨none, .store 3 (.s 13) (.s 50), none⟩,
    ⟨some 14, .mv (.s 51), none⟩])
  (.seq (.dreg [0, 1, 2, 3, 4, 5, 6, 7, 8, 9, 10, 11, 14, 15, 16, 17, 12, 13, 18, 19, 20, 21, 22, 23] [⟨⟨some 52, .mv (.s 0), none⟩, []⟩,
    ⟨⟨some 53, .mv (.s 1), none⟩, []⟩,
    ⟨⟨some 54, .mv (.s 1), none⟩, []⟩,
    ⟨⟨some 55, .mv (.s 11), none⟩, []⟩,
    ⟨⟨some 56, .idx 3 (.s 54) (.s 55), none⟩, []⟩,
    ⟨⟨some 57, .load true 3 (.s 56), none⟩, []⟩,
    ⟨⟨some 58, .load true 2 (.s 5), none⟩, []⟩,
    ⟨⟨some 59, .call 253 [(.s 52), (.s 53), (.s 57), (.s 58)], none⟩, []⟩,
    ⟨⟨some 60, .mv (.s 59), none⟩, []⟩,
    ⟨⟨some 61, .mv (.s 14), (some (60, true))⟩, []⟩,
    ⟨⟨some 62, .mv (.s 61), (some (60, true))⟩, []⟩,
    ⟨⟨some 63, .fld 2 (.s 13), (some (62, true))⟩, []⟩,
    ⟨⟨some 66, .mv (.s 1), (some (62, true))⟩, []⟩,
    ⟨⟨some 67, .mv (.s 11), (some (62, true))⟩, []⟩,
    ⟨⟨some 68, .idx 3 (.s 66) (.s 67), (some (62, true))⟩, []⟩,
    ⟨⟨some 69, .fld 2 (.s 68), (some (62, true))⟩, []⟩,
    ⟨⟨some 64, .load false 1 (.s 63), (some (62, true))⟩, []⟩,
    ⟨⟨some 65, .b2c (.s 64), (some (62, true))⟩, []⟩,
    ⟨⟨some 70, .load false 1 (.s 69), (some (62, true))⟩, []⟩,
    ⟨⟨some 71, .b2c (.s 70), (some (62, true))⟩, []⟩,
    ⟨⟨some 72, .str .eql (.s 65) (.s 71), (some (62, true))⟩, []⟩,
    ⟨⟨some 73, .pick (.s 62) (.s 72) (.c (.bool false)), (some (60, true))⟩, []⟩,
    ⟨⟨some 74, .not (.s 73), (some (60, true))⟩, []⟩,
    ⟨⟨some 75, .pick (.s 60) (.s 74) (.c (.bool false)), none⟩, []⟩])
  (.cond (.s 75) (.reg [⟨some 76, .mv (.s 10), none⟩,
    ⟨some 77, .mv (.s 1), none⟩,
    ⟨some 78, .mv (.s 11), none⟩,
    ⟨some 79, .idx 3 (.s 77) (.s 78), none⟩,
    ⟨some 80, .fld 0 (.s 79), none⟩,
    ⟨some 81, .load false 1 (.s 80), none⟩,
    ⟨some 82, .mv (.s 12), none⟩,
    ⟨some 83, .build [.v (.int .u8 0), .v (.string ⟨#[]⟩), .v (.string ⟨#[]⟩)] [(0, 1, (.c (.int .u8 0))), (1, 1, (.s 81)), (2, 1, (.s 82))], none⟩,
    ⟨some 84, .bslice 3 [(.s 83)], none⟩,
    ⟨some 85, .app 3 40 (.s 76) (.s 84), none⟩,
    ⟨some 10, .mv (.s 85), none⟩])
  .skip)))))
  (.reg [⟨some 38, .mv (.s 11), none⟩,
    ⟨some 39, .int .add (.s 38) (.c (.int .i64 1)), none⟩,
    ⟨some 11, .mv (.s 39), none⟩]))))))
  (.seq (.seq (.reg [⟨some 86, .mv (.s 1), none⟩,
    ⟨some 87, .len (.s 86), none⟩,
    ⟨some 88, .int .sub (.s 87) (.c (.int .i64 1)), none⟩,
    ⟨some 15, .mv (.s 88), none⟩])
  (.block 2 (.loop (.seq (.seq (.reg [⟨some 89, .mv (.s 15), none⟩,
    ⟨some 90, .int .geq (.s 89) (.c (.int .i64 0)), none⟩])
  (.cond (.s 90) .skip
  (.exit 2)))
  (.seq (.block 3 (.seq (.reg [⟨some 94, .mv (.s 8), none⟩,
    ⟨some 95, .mv (.s 1), none⟩,
    ⟨some 96, .mv (.s 15), none⟩,
    ⟨some 97, .idx 3 (.s 95) (.s 96), none⟩,
    ⟨some 98, .fld 0 (.s 97), none⟩,
    ⟨some 99, .load false 1 (.s 98), none⟩,
    ⟨some 100, .call 151 [(.s 94), (.s 99)], none⟩,
    ⟨some 93, .mv (.s 100), none⟩,
    ⟨some 101, .ext (.s 93) 0, none⟩,
    ⟨some 102, .ext (.s 93) 1, none⟩,
    ⟨some 16, .alloc (some 2) [.v (.string ⟨#[]⟩), .v (.bool false), .v (.slice none 0 0)], none⟩,
    ⟨none, .store 3 (.s 16) (.s 101), none⟩,
    ⟨some 17, .mv (.s 102), none⟩])
  (.seq (.dreg [0, 1, 2, 3, 5, 6, 7, 8, 4, 9, 10, 11] [⟨⟨some 103, .mv (.s 17), none⟩, []⟩,
    ⟨⟨some 104, .not (.s 103), none⟩, []⟩,
    ⟨⟨some 105, .mv (.s 104), none⟩, []⟩,
    ⟨⟨some 106, .fld 1 (.s 16), (some (105, false))⟩, []⟩,
    ⟨⟨some 108, .mv (.s 1), (some (105, false))⟩, []⟩,
    ⟨⟨some 109, .mv (.s 15), (some (105, false))⟩, []⟩,
    ⟨⟨some 110, .idx 3 (.s 108) (.s 109), (some (105, false))⟩, []⟩,
    ⟨⟨some 111, .fld 1 (.s 110), (some (105, false))⟩, []⟩,
    ⟨⟨some 107, .load false 1 (.s 106), (some (105, false))⟩, []⟩,
    ⟨⟨some 112, .load false 1 (.s 111), (some (105, false))⟩, []⟩,
    ⟨⟨some 113, .eq .bool true (.s 107) (.s 112), (some (105, false))⟩, []⟩,
    ⟨⟨some 114, .pick (.s 105) (.c (.bool true)) (.s 113), none⟩, []⟩])
  (.cond (.s 114) (.reg [⟨some 115, .mv (.s 10), none⟩,
    ⟨some 116, .mv (.s 1), none⟩,
    ⟨some 117, .mv (.s 15), none⟩,
    ⟨some 118, .idx 3 (.s 116) (.s 117), none⟩,
    ⟨some 119, .fld 0 (.s 118), none⟩,
    ⟨some 120, .load false 1 (.s 119), none⟩,
    ⟨some 121, .build [.v (.int .u8 0), .v (.string ⟨#[]⟩), .v (.string ⟨#[]⟩)] [(0, 1, (.c (.int .u8 1))), (1, 1, (.s 120)), (2, 1, (.c (.string ⟨#[]⟩)))], none⟩,
    ⟨some 122, .bslice 3 [(.s 121)], none⟩,
    ⟨some 123, .app 3 40 (.s 115) (.s 122), none⟩,
    ⟨some 10, .mv (.s 123), none⟩])
  .skip))))
  (.reg [⟨some 91, .mv (.s 15), none⟩,
    ⟨some 92, .int .sub (.s 91) (.c (.int .i64 1)), none⟩,
    ⟨some 15, .mv (.s 92), none⟩]))))))
  (.seq (.seq (.reg [⟨some 18, .mv (.c (.int .i64 0)), none⟩])
  (.block 4 (.loop (.seq (.seq (.reg [⟨some 124, .mv (.s 18), none⟩,
    ⟨some 125, .mv (.s 8), none⟩,
    ⟨some 126, .len (.s 125), none⟩,
    ⟨some 127, .int .lss (.s 124) (.s 126), none⟩])
  (.cond (.s 127) .skip
  (.exit 4)))
  (.seq (.block 5 (.seq (.reg [⟨some 131, .mv (.s 1), none⟩,
    ⟨some 132, .mv (.s 8), none⟩,
    ⟨some 133, .mv (.s 18), none⟩,
    ⟨some 134, .idx 3 (.s 132) (.s 133), none⟩,
    ⟨some 135, .fld 0 (.s 134), none⟩,
    ⟨some 136, .load false 1 (.s 135), none⟩,
    ⟨some 137, .call 151 [(.s 131), (.s 136)], none⟩,
    ⟨some 130, .mv (.s 137), none⟩,
    ⟨some 138, .ext (.s 130) 0, none⟩,
    ⟨some 139, .ext (.s 130) 1, none⟩,
    ⟨some 19, .alloc (some 3) [.v (.string ⟨#[]⟩), .v (.bool false), .v (.slice none 0 0)], none⟩,
    ⟨none, .store 3 (.s 19) (.s 138), none⟩,
    ⟨some 20, .mv (.s 139), none⟩])
  (.seq (.reg [⟨some 140, .mv (.s 8), none⟩,
    ⟨some 141, .mv (.s 18), none⟩,
    ⟨some 142, .idx 3 (.s 140) (.s 141), none⟩,
    ⟨some 143, .fld 1 (.s 142), none⟩,
    ⟨some 144, .load false 1 (.s 143), none⟩,
    ⟨some 145, .mv (.s 144), none⟩,
    ⟨some 146, .mv (.s 20), (some (145, true))⟩,
    ⟨some 147, .mv (.s 146), (some (145, true))⟩,
    ⟨some 148, .fld 1 (.s 19), (some (147, true))⟩,
    ⟨some 149, .load false 1 (.s 148), (some (147, true))⟩,
    ⟨some 150, .pick (.s 147) (.s 149) (.c (.bool false)), (some (145, true))⟩,
    ⟨some 151, .not (.s 150), (some (145, true))⟩,
    ⟨some 152, .pick (.s 145) (.s 151) (.c (.bool false)), none⟩])
  (.cond (.s 152) (.reg [⟨some 153, .mv (.s 10), none⟩,
    ⟨some 154, .mv (.s 8), none⟩,
    ⟨some 155, .mv (.s 18), none⟩,
    ⟨some 156, .idx 3 (.s 154) (.s 155), none⟩,
    ⟨some 157, .fld 0 (.s 156), none⟩,
    ⟨some 158, .load false 1 (.s 157), none⟩,
    ⟨some 159, .build [.v (.int .u8 0), .v (.string ⟨#[]⟩), .v (.string ⟨#[]⟩)] [(0, 1, (.c (.int .u8 2))), (1, 1, (.s 158)), (2, 1, (.c (.string ⟨#[]⟩)))], none⟩,
    ⟨some 160, .bslice 3 [(.s 159)], none⟩,
    ⟨some 161, .app 3 40 (.s 153) (.s 160), none⟩,
    ⟨some 10, .mv (.s 161), none⟩])
  .skip))))
  (.reg [⟨some 128, .mv (.s 18), none⟩,
    ⟨some 129, .int .add (.s 128) (.c (.int .i64 1)), none⟩,
    ⟨some 18, .mv (.s 129), none⟩]))))))
  (.seq (.seq (.reg [⟨some 21, .mv (.c (.int .i64 0)), none⟩])
  (.block 6 (.loop (.seq (.seq (.reg [⟨some 162, .mv (.s 21), none⟩,
    ⟨some 163, .mv (.s 0), none⟩,
    ⟨some 164, .len (.s 163), none⟩,
    ⟨some 165, .int .lss (.s 162) (.s 164), none⟩])
  (.cond (.s 165) .skip
  (.exit 6)))
  (.seq (.block 7 (.seq (.reg [⟨some 169, .mv (.s 1), none⟩,
    ⟨some 170, .mv (.s 0), none⟩,
    ⟨some 171, .mv (.s 21), none⟩,
    ⟨some 172, .idx 3 (.s 170) (.s 171), none⟩,
    ⟨some 173, .fld 0 (.s 172), none⟩,
    ⟨some 174, .load false 1 (.s 173), none⟩,
    ⟨some 175, .call 151 [(.s 169), (.s 174)], none⟩,
    ⟨some 168, .mv (.s 175), none⟩,
    ⟨some 176, .ext (.s 168) 0, none⟩,
    ⟨some 177, .ext (.s 168) 1, none⟩,
    ⟨some 22, .alloc (some 4) [.v (.string ⟨#[]⟩), .v (.bool false), .v (.slice none 0 0)], none⟩,
    ⟨none, .store 3 (.s 22) (.s 176), none⟩,
    ⟨some 23, .mv (.s 177), none⟩])
  (.seq (.dreg [0, 1, 2, 3, 4, 5, 6, 7, 8, 9, 10, 11, 12, 13, 14, 17, 18, 19, 20, 15, 16, 21, 22, 23, 24, 25, 26] [⟨⟨some 178, .mv (.s 0), none⟩, []⟩,
    ⟨⟨some 179, .mv (.s 21), none⟩, []⟩,
    ⟨⟨some 180, .idx 3 (.s 178) (.s 179), none⟩, []⟩,
    ⟨⟨some 181, .fld 1 (.s 180), none⟩, []⟩,
    ⟨⟨some 182, .load false 1 (.s 181), none⟩, []⟩,
    ⟨⟨some 183, .not (.s 182), none⟩, []⟩,
    ⟨⟨some 184, .mv (.s 183), none⟩, []⟩,
    ⟨⟨some 185, .mv (.s 23), (some (184, true))⟩, []⟩,
    ⟨⟨some 186, .mv (.s 185), (some (184, true))⟩, []⟩,
    ⟨⟨some 187, .fld 1 (.s 22), (some (186, true))⟩, []⟩,
    ⟨⟨some 188, .load false 1 (.s 187), (some (186, true))⟩, []⟩,
    ⟨⟨some 189, .not (.s 188), (some (186, true))⟩, []⟩,
    ⟨⟨some 190, .pick (.s 186) (.s 189) (.c (.bool false)), (some (184, true))⟩, []⟩,
    ⟨⟨some 191, .mv (.s 190), (some (184, true))⟩, []⟩,
    ⟨⟨some 192, .fld 2 (.s 22), (some (191, true))⟩, []⟩,
    ⟨⟨some 195, .mv (.s 0), (some (191, true))⟩, []⟩,
    ⟨⟨some 196, .mv (.s 21), (some (191, true))⟩, []⟩,
    ⟨⟨some 197, .idx 3 (.s 195) (.s 196), (some (191, true))⟩, []⟩,
    ⟨⟨some 198, .fld 2 (.s 197), (some (191, true))⟩, []⟩,
    ⟨⟨some 193, .load false 1 (.s 192), (some (191, true))⟩, []⟩,
    ⟨⟨some 194, .b2c (.s 193), (some (191, true))⟩, []⟩,
    ⟨⟨some 199, .load false 1 (.s 198), (some (191, true))⟩, []⟩,
    ⟨⟨some 200, .b2c (.s 199), (some (191, true))⟩, []⟩,
    ⟨⟨some 201, .str .eql (.s 194) (.s 200), (some (191, true))⟩, []⟩,
    ⟨⟨some 202, .pick (.s 191) (.s 201) (.c (.bool false)), (some (184, true))⟩, []⟩,
    ⟨⟨some 203, .not (.s 202), (some (184, true))⟩, []⟩,
    ⟨⟨some 204, .pick (.s 184) (.s 203) (.c (.bool false)), none⟩, []⟩])
  (.cond (.s 204) (.reg [⟨some 205, .mv (.s 10), none⟩,
    ⟨some 206, .mv (.s 0), none⟩,
    ⟨some 207, .mv (.s 21), none⟩,
    ⟨some 208, .idx 3 (.s 206) (.s 207), none⟩,
    ⟨some 209, .fld 0 (.s 208), none⟩,
    ⟨some 210, .load false 1 (.s 209), none⟩,
    ⟨some 211, .build [.v (.int .u8 0), .v (.string ⟨#[]⟩), .v (.string ⟨#[]⟩)] [(0, 1, (.c (.int .u8 3))), (1, 1, (.s 210)), (2, 1, (.c (.string ⟨#[]⟩)))], none⟩,
    ⟨some 212, .bslice 3 [(.s 211)], none⟩,
    ⟨some 213, .app 3 40 (.s 205) (.s 212), none⟩,
    ⟨some 10, .mv (.s 213), none⟩])
  .skip))))
  (.reg [⟨some 166, .mv (.s 21), none⟩,
    ⟨some 167, .int .add (.s 166) (.c (.int .i64 1)), none⟩,
    ⟨some 21, .mv (.s 167), none⟩]))))))
  (.seq (.reg [⟨some 214, .mv (.s 10), none⟩,
    ⟨some 6, .mv (.s 214), none⟩,
    ⟨some 7, .mv (.c (.int .i64 0)), none⟩])
  .ret)))))))))⟩

/-- sumpter/sumpterlaw09.same -/
def sf239 : SF :=
  ⟨2, 54, [.t 4],
  (.seq (.reg [⟨some 4, .mv (.c (.bool false)), none⟩])
  (.seq (.seq (.reg [⟨some 6, .mv (.s 0), none⟩,
    ⟨some 7, .len (.s 6), none⟩,
    ⟨some 8, .mv (.s 1), none⟩,
    ⟨some 9, .len (.s 8), none⟩,
    ⟨some 10, .int .neq (.s 7) (.s 9), none⟩])
  (.cond (.s 10) (.seq (.reg [⟨some 4, .mv (.c (.bool false)), none⟩])
  .ret)
  .skip))
  (.seq (.seq (.reg [⟨some 5, .mv (.c (.int .i64 0)), none⟩])
  (.block 0 (.loop (.seq (.seq (.reg [⟨some 11, .mv (.s 5), none⟩,
    ⟨some 12, .mv (.s 0), none⟩,
    ⟨some 13, .len (.s 12), none⟩,
    ⟨some 14, .int .lss (.s 11) (.s 13), none⟩])
  (.cond (.s 14) .skip
  (.exit 0)))
  (.seq (.block 1 (.seq (.dreg [0, 1, 2, 3, 5, 6, 7, 8, 4, 9, 10, 11, 12, 13, 14, 15, 17, 18, 19, 20, 16, 21, 22, 23, 24, 25, 26, 27, 28, 30, 31, 32, 33, 29, 34, 35, 36] [⟨⟨some 17, .mv (.s 0), none⟩, []⟩,
    ⟨⟨some 18, .mv (.s 5), none⟩, []⟩,
    ⟨⟨some 19, .idx 3 (.s 17) (.s 18), none⟩, []⟩,
    ⟨⟨some 20, .fld 0 (.s 19), none⟩, []⟩,
    ⟨⟨some 22, .mv (.s 1), none⟩, []⟩,
    ⟨⟨some 23, .mv (.s 5), none⟩, []⟩,
    ⟨⟨some 24, .idx 3 (.s 22) (.s 23), none⟩, []⟩,
    ⟨⟨some 25, .fld 0 (.s 24), none⟩, []⟩,
    ⟨⟨some 21, .load false 1 (.s 20), none⟩, []⟩,
    ⟨⟨some 26, .load false 1 (.s 25), none⟩, []⟩,
    ⟨⟨some 27, .int .neq (.s 21) (.s 26), none⟩, []⟩,
    ⟨⟨some 28, .mv (.s 27), none⟩, []⟩,
    ⟨⟨some 29, .mv (.s 0), (some (28, false))⟩, []⟩,
    ⟨⟨some 30, .mv (.s 5), (some (28, false))⟩, []⟩,
    ⟨⟨some 31, .idx 3 (.s 29) (.s 30), (some (28, false))⟩, []⟩,
    ⟨⟨some 32, .fld 1 (.s 31), (some (28, false))⟩, []⟩,
    ⟨⟨some 34, .mv (.s 1), (some (28, false))⟩, []⟩,
    ⟨⟨some 35, .mv (.s 5), (some (28, false))⟩, []⟩,
    ⟨⟨some 36, .idx 3 (.s 34) (.s 35), (some (28, false))⟩, []⟩,
    ⟨⟨some 37, .fld 1 (.s 36), (some (28, false))⟩, []⟩,
    ⟨⟨some 33, .load false 1 (.s 32), (some (28, false))⟩, []⟩,
    ⟨⟨some 38, .load false 1 (.s 37), (some (28, false))⟩, []⟩,
    ⟨⟨some 39, .str .neq (.s 33) (.s 38), (some (28, false))⟩, []⟩,
    ⟨⟨some 40, .pick (.s 28) (.c (.bool true)) (.s 39), none⟩, []⟩,
    ⟨⟨some 41, .mv (.s 40), none⟩, []⟩,
    ⟨⟨some 42, .mv (.s 0), (some (41, false))⟩, []⟩,
    ⟨⟨some 43, .mv (.s 5), (some (41, false))⟩, []⟩,
    ⟨⟨some 44, .idx 3 (.s 42) (.s 43), (some (41, false))⟩, []⟩,
    ⟨⟨some 45, .fld 2 (.s 44), (some (41, false))⟩, []⟩,
    ⟨⟨some 47, .mv (.s 1), (some (41, false))⟩, []⟩,
    ⟨⟨some 48, .mv (.s 5), (some (41, false))⟩, []⟩,
    ⟨⟨some 49, .idx 3 (.s 47) (.s 48), (some (41, false))⟩, []⟩,
    ⟨⟨some 50, .fld 2 (.s 49), (some (41, false))⟩, []⟩,
    ⟨⟨some 46, .load false 1 (.s 45), (some (41, false))⟩, []⟩,
    ⟨⟨some 51, .load false 1 (.s 50), (some (41, false))⟩, []⟩,
    ⟨⟨some 52, .str .neq (.s 46) (.s 51), (some (41, false))⟩, []⟩,
    ⟨⟨some 53, .pick (.s 41) (.c (.bool true)) (.s 52), none⟩, []⟩])
  (.cond (.s 53) (.seq (.reg [⟨some 4, .mv (.c (.bool false)), none⟩])
  .ret)
  .skip)))
  (.reg [⟨some 15, .mv (.s 5), none⟩,
    ⟨some 16, .int .add (.s 15) (.c (.int .i64 1)), none⟩,
    ⟨some 5, .mv (.s 16), none⟩]))))))
  (.seq (.reg [⟨some 4, .mv (.c (.bool true)), none⟩])
  .ret))))⟩

/-- sumpter/merge.Apply -/
def sf240 : SF :=
  ⟨3, 67, [.t 6, .t 7],
  (.seq (.reg [⟨some 4, .box (some 0) 3 (.s 1), none⟩,
    ⟨some 6, .mv (.c (.slice none 0 0)), none⟩,
    ⟨some 7, .mv (.c (.int .i64 0)), none⟩])
  (.seq (.seq (.reg [⟨some 12, .fld 0 (.s 4), none⟩,
    ⟨some 13, .load false 1 (.s 12), none⟩])
  (.block 0 (.seq (.reg [⟨some 15, .int .eql (.s 13) (.c (.int .u8 0)), none⟩,
    ⟨some 14, .mv (.s 15), none⟩])
  (.cond (.s 14) (.seq (.reg [⟨some 17, .mv (.s 0), none⟩,
    ⟨some 18, .fld 1 (.s 4), none⟩,
    ⟨some 19, .load false 1 (.s 18), none⟩,
    ⟨some 20, .call 262 [(.s 17), (.s 19)], none⟩,
    ⟨some 16, .mv (.s 20), none⟩,
    ⟨some 21, .ext (.s 16) 0, none⟩,
    ⟨some 22, .ext (.s 16) 1, none⟩,
    ⟨some 8, .alloc (some 1) [.v (.string ⟨#[]⟩), .v (.bool false), .v (.slice none 0 0)], none⟩,
    ⟨none, .store 3 (.s 8) (.s 21), none⟩,
    ⟨some 9, .mv (.s 22), none⟩])
  (.seq (.seq (.reg [⟨some 23, .mv (.s 9), none⟩,
    ⟨some 24, .not (.s 23), none⟩])
  (.cond (.s 24) (.seq (.reg [⟨some 6, .mv (.c (.slice none 0 0)), none⟩,
    ⟨some 7, .mv (.c (.int .i64 8)), none⟩])
  .ret)
  .skip))
  (.seq (.reg [⟨some 25, .mv (.s 0), none⟩,
    ⟨some 26, .fld 2 (.s 4), none⟩,
    ⟨some 27, .load false 1 (.s 26), none⟩,
    ⟨some 28, .fld 2 (.s 8), none⟩,
    ⟨some 29, .load false 1 (.s 28), none⟩,
    ⟨some 30, .build [.v (.string ⟨#[]⟩), .v (.bool false), .v (.slice none 0 0)] [(0, 1, (.s 27)), (2, 1, (.s 29))], none⟩,
    ⟨some 31, .call 156 [(.s 25), (.s 30)], none⟩,
    ⟨some 32, .ext (.s 31) 0, none⟩,
    ⟨some 33, .ext (.s 31) 1, none⟩,
    ⟨some 6, .mv (.s 32), none⟩,
    ⟨some 7, .mv (.s 33), none⟩])
  .ret)))
  (.seq (.reg [⟨some 35, .int .eql (.s 13) (.c (.int .u8 1)), none⟩,
    ⟨some 34, .mv (.s 35), none⟩])
  (.cond (.s 34) (.seq (.reg [⟨some 36, .mv (.s 0), none⟩,
    ⟨some 37, .fld 1 (.s 4), none⟩,
    ⟨some 38, .load false 1 (.s 37), none⟩,
    ⟨some 39, .call 158 [(.s 36), (.s 38)], none⟩,
    ⟨some 40, .ext (.s 39) 0, none⟩,
    ⟨some 41, .ext (.s 39) 1, none⟩,
    ⟨some 6, .mv (.s 40), none⟩,
    ⟨some 7, .mv (.s 41), none⟩])
  .ret)
  (.seq (.reg [⟨some 43, .int .eql (.s 13) (.c (.int .u8 2)), none⟩,
    ⟨some 42, .mv (.s 43), none⟩])
  (.cond (.s 42) (.seq (.reg [⟨some 44, .mv (.s 0), none⟩,
    ⟨some 45, .fld 1 (.s 4), none⟩,
    ⟨some 46, .load false 1 (.s 45), none⟩,
    ⟨some 47, .build [.v (.string ⟨#[]⟩), .v (.bool false), .v (.slice none 0 0)] [(0, 1, (.s 46)), (1, 1, (.c (.bool true)))], none⟩,
    ⟨some 48, .call 156 [(.s 44), (.s 47)], none⟩,
    ⟨some 49, .ext (.s 48) 0, none⟩,
    ⟨some 50, .ext (.s 48) 1, none⟩,
    ⟨some 6, .mv (.s 49), none⟩,
    ⟨some 7, .mv (.s 50), none⟩])
  .ret)
  (.seq (.reg [⟨some 52, .int .eql (.s 13) (.c (.int .u8 3)), none⟩,
    ⟨some 51, .mv (.s 52), none⟩])
  (.cond (.s 51) (.seq (.reg [⟨some 54, .mv (.s 2), none⟩,
    ⟨some 55, .fld 1 (.s 4), none⟩,
    ⟨some 56, .load false 1 (.s 55), none⟩,
    ⟨some 57, .call 262 [(.s 54), (.s 56)], none⟩,
    ⟨some 53, .mv (.s 57), none⟩,
    ⟨some 58, .ext (.s 53) 0, none⟩,
    ⟨some 59, .ext (.s 53) 1, none⟩,
    ⟨some 10, .alloc (some 2) [.v (.string ⟨#[]⟩), .v (.bool false), .v (.slice none 0 0)], none⟩,
    ⟨none, .store 3 (.s 10) (.s 58), none⟩,
    ⟨some 11, .mv (.s 59), none⟩])
  (.seq (.seq (.reg [⟨some 60, .mv (.s 11), none⟩,
    ⟨some 61, .not (.s 60), none⟩])
  (.cond (.s 61) (.seq (.reg [⟨some 6, .mv (.c (.slice none 0 0)), none⟩,
    ⟨some 7, .mv (.c (.int .i64 8)), none⟩])
  .ret)
  .skip))
  (.seq (.reg [⟨some 62, .mv (.s 0), none⟩,
    ⟨some 63, .load true 3 (.s 10), none⟩,
    ⟨some 64, .call 156 [(.s 62), (.s 63)], none⟩,
    ⟨some 65, .ext (.s 64) 0, none⟩,
    ⟨some 66, .ext (.s 64) 1, none⟩,
    ⟨some 6, .mv (.s 65), none⟩,
    ⟨some 7, .mv (.s 66), none⟩])
  .ret)))
  .skip))))))))))
  (.seq (.reg [⟨some 6, .mv (.c (.slice none 0 0)), none⟩,
    ⟨some 7, .mv (.c (.int .i64 2)), none⟩])
  .ret)))⟩

/-- sumpter/sumpterlaw09.between -/
def sf241 : SF :=
  ⟨3, 57, [.t 6],
  (.seq (.reg [⟨some 6, .mv (.c (.bool false)), none⟩])
  (.seq (.seq (.reg [⟨some 7, .mv (.c (.int .i64 0)), none⟩])
  (.block 0 (.loop (.seq (.seq (.reg [⟨some 11, .mv (.s 7), none⟩,
    ⟨some 12, .mv (.s 0), none⟩,
    ⟨some 13, .len (.s 12), none⟩,
    ⟨some 14, .int .lss (.s 11) (.s 13), none⟩])
  (.cond (.s 14) .skip
  (.exit 0)))
  (.seq (.block 1 (.seq (.reg [⟨some 18, .mv (.s 2), none⟩,
    ⟨some 19, .mv (.s 0), none⟩,
    ⟨some 20, .mv (.s 7), none⟩,
    ⟨some 21, .idx 3 (.s 19) (.s 20), none⟩,
    ⟨some 22, .fld 0 (.s 21), none⟩,
    ⟨some 23, .load false 1 (.s 22), none⟩,
    ⟨some 24, .call 150 [(.s 18), (.s 23)], none⟩,
    ⟨some 17, .mv (.s 24), none⟩,
    ⟨some 25, .ext (.s 17) 0, none⟩,
    ⟨some 26, .ext (.s 17) 1, none⟩,
    ⟨some 8, .alloc (some 0) [.v (.string ⟨#[]⟩), .v (.bool false), .v (.slice none 0 0)], none⟩,
    ⟨none, .store 3 (.s 8) (.s 25), none⟩,
    ⟨some 9, .mv (.s 26), none⟩])
  (.seq (.dreg [0, 1, 2, 3, 4, 5, 8, 6, 7, 9, 10] [⟨⟨some 27, .mv (.s 0), none⟩, []⟩,
    ⟨⟨some 28, .mv (.s 1), none⟩, []⟩,
    ⟨⟨some 29, .mv (.s 0), none⟩, []⟩,
    ⟨⟨some 30, .mv (.s 7), none⟩, []⟩,
    ⟨⟨some 31, .idx 3 (.s 29) (.s 30), none⟩, []⟩,
    ⟨⟨some 32, .fld 0 (.s 31), none⟩, []⟩,
    ⟨⟨some 35, .mv (.s 9), none⟩, []⟩,
    ⟨⟨some 33, .load false 1 (.s 32), none⟩, []⟩,
    ⟨⟨some 34, .load true 3 (.s 8), none⟩, []⟩,
    ⟨⟨some 36, .call 244 [(.s 27), (.s 28), (.s 33), (.s 34), (.s 35)], none⟩, []⟩,
    ⟨⟨some 37, .not (.s 36), none⟩, []⟩])
  (.cond (.s 37) (.seq (.reg [⟨some 6, .mv (.c (.bool false)), none⟩])
  .ret)
  .skip))))
  (.reg [⟨some 15, .mv (.s 7), none⟩,
    ⟨some 16, .int .add (.s 15) (.c (.int .i64 1)), none⟩,
    ⟨some 7, .mv (.s 16), none⟩]))))))
  (.seq (.seq (.reg [⟨some 10, .mv (.c (.int .i64 0)), none⟩])
  (.block 2 (.loop (.seq (.seq (.reg [⟨some 38, .mv (.s 10), none⟩,
    ⟨some 39, .mv (.s 2), none⟩,
    ⟨some 40, .len (.s 39), none⟩,
    ⟨some 41, .int .lss (.s 38) (.s 40), none⟩])
  (.cond (.s 41) .skip
  (.exit 2)))
  (.seq (.block 3 (.seq (.dreg [0, 1, 2, 3, 4, 5, 7, 8, 9, 6, 10, 11, 12] [⟨⟨some 44, .mv (.s 0), none⟩, []⟩,
    ⟨⟨some 45, .mv (.s 1), none⟩, []⟩,
    ⟨⟨some 46, .mv (.s 2), none⟩, []⟩,
    ⟨⟨some 47, .mv (.s 10), none⟩, []⟩,
    ⟨⟨some 48, .idx 3 (.s 46) (.s 47), none⟩, []⟩,
    ⟨⟨some 49, .fld 0 (.s 48), none⟩, []⟩,
    ⟨⟨some 51, .mv (.s 2), none⟩, []⟩,
    ⟨⟨some 52, .mv (.s 10), none⟩, []⟩,
    ⟨⟨some 53, .idx 3 (.s 51) (.s 52), none⟩, []⟩,
    ⟨⟨some 50, .load false 1 (.s 49), none⟩, []⟩,
    ⟨⟨some 54, .load true 3 (.s 53), none⟩, []⟩,
    ⟨⟨some 55, .call 244 [(.s 44), (.s 45), (.s 50), (.s 54), (.c (.bool true))], none⟩, []⟩,
    ⟨⟨some 56, .not (.s 55), none⟩, []⟩])
  (.cond (.s 56) (.seq (.reg [⟨some 6, .mv (.c (.bool false)), none⟩])
  .ret)
  .skip)))
  (.reg [⟨some 42, .mv (.s 10), none⟩,
    ⟨some 43, .int .add (.s 42) (.c (.int .i64 1)), none⟩,
    ⟨some 10, .mv (.s 43), none⟩]))))))
  (.seq (.reg [⟨some 6, .mv (.c (.bool true)), none⟩])
  .ret))))⟩

/-- sumpter/path.Kept -/
def sf242 : SF :=
  ⟨1, 17, [.t 2],
  (.seq (.reg [⟨some 2, .mv (.c (.string ⟨#[]⟩)), none⟩])
  (.seq (.seq (.reg [⟨some 3, .mv (.s 0), none⟩,
    ⟨some 4, .call 263 [(.s 3), (.c (.string ⟨#[126]⟩))], none⟩,
    ⟨some 5, .mv (.s 4), none⟩,
    ⟨some 6, .mv (.s 0), (some (5, false))⟩,
    ⟨some 7, .str .add (.s 6) (.c (.string ⟨#[126]⟩)), (some (5, false))⟩,
    ⟨some 8, .call 192 [(.s 7)], (some (5, false))⟩,
    ⟨some 9, .int .neq (.s 8) (.c (.int .i64 0)), (some (5, false))⟩,
    ⟨some 10, .pick (.s 5) (.c (.bool true)) (.s 9), none⟩,
    ⟨some 11, .mv (.s 10), none⟩,
    ⟨some 12, .mv (.s 0), (some (11, false))⟩,
    ⟨some 13, .str .eql (.s 12) (.c (.string ⟨#[]⟩)), (some (11, false))⟩,
    ⟨some 14, .pick (.s 11) (.c (.bool true)) (.s 13), none⟩])
  (.cond (.s 14) (.seq (.reg [⟨some 2, .mv (.c (.string ⟨#[]⟩)), none⟩])
  .ret)
  .skip))
  (.seq (.reg [⟨some 15, .mv (.s 0), none⟩,
    ⟨some 16, .str .add (.s 15) (.c (.string ⟨#[126]⟩)), none⟩,
    ⟨some 2, .mv (.s 16), none⟩])
  .ret)))⟩

/-- sumpter/sumpterlaw09.file -/
def sf243 : SF :=
  ⟨2, 9, [.cell 4 true 3],
  (.seq (.reg [⟨some 4, .alloc (some 0) [.v (.string ⟨#[]⟩), .v (.bool false), .v (.slice none 0 0)], none⟩])
  (.seq (.reg [⟨some 5, .mv (.s 0), none⟩,
    ⟨some 6, .mv (.s 1), none⟩,
    ⟨some 7, .nd .s2b [(.s 6)], none⟩,
    ⟨some 8, .build [.v (.string ⟨#[]⟩), .v (.bool false), .v (.slice none 0 0)] [(0, 1, (.s 5)), (2, 1, (.s 7))], none⟩,
    ⟨none, .store 3 (.s 4) (.s 8), none⟩])
  .ret))⟩

/-- sumpter/merge.Path -/
def sf244 : SF :=
  ⟨5, 56, [.t 10],
  (.seq (.reg [⟨some 8, .box (some 0) 3 (.s 3), none⟩,
    ⟨some 10, .mv (.c (.bool false)), none⟩])
  (.seq (.reg [⟨some 16, .mv (.s 0), none⟩,
    ⟨some 17, .mv (.s 2), none⟩,
    ⟨some 18, .call 150 [(.s 16), (.s 17)], none⟩,
    ⟨some 15, .mv (.s 18), none⟩,
    ⟨some 19, .ext (.s 15) 0, none⟩,
    ⟨some 20, .ext (.s 15) 1, none⟩,
    ⟨some 11, .alloc (some 1) [.v (.string ⟨#[]⟩), .v (.bool false), .v (.slice none 0 0)], none⟩,
    ⟨none, .store 3 (.s 11) (.s 19), none⟩,
    ⟨some 12, .mv (.s 20), none⟩])
  (.seq (.reg [⟨some 22, .mv (.s 1), none⟩,
    ⟨some 23, .mv (.s 2), none⟩,
    ⟨some 24, .call 150 [(.s 22), (.s 23)], none⟩,
    ⟨some 21, .mv (.s 24), none⟩,
    ⟨some 25, .ext (.s 21) 0, none⟩,
    ⟨some 26, .ext (.s 21) 1, none⟩,
    ⟨some 13, .alloc (some 2) [.v (.string ⟨#[]⟩), .v (.bool false), .v (.slice none 0 0)], none⟩,
    ⟨none, .store 3 (.s 13) (.s 25), none⟩,
    ⟨some 14, .mv (.s 26), none⟩])
  (.seq (.seq (.reg [⟨some 27, .mv (.s 4), none⟩,
    ⟨some 28, .not (.s 27), none⟩])
  (.cond (.s 28) (.seq (.reg [⟨some 29, .mv (.s 12), none⟩,
    ⟨some 30, .not (.s 29), none⟩,
    ⟨some 31, .mv (.s 30), none⟩,
    ⟨some 32, .mv (.s 14), (some (31, false))⟩,
    ⟨some 33, .not (.s 32), (some (31, false))⟩,
    ⟨some 34, .pick (.s 31) (.c (.bool true)) (.s 33), none⟩,
    ⟨some 35, .mv (.s 34), none⟩,
    ⟨some 36, .fld 1 (.s 11), (some (35, false))⟩,
    ⟨some 37, .load false 1 (.s 36), (some (35, false))⟩,
    ⟨some 38, .fld 1 (.s 13), (some (35, false))⟩,
    ⟨some 39, .load false 1 (.s 38), (some (35, false))⟩,
    ⟨some 40, .eq .bool true (.s 37) (.s 39), (some (35, false))⟩,
    ⟨some 41, .pick (.s 35) (.c (.bool true)) (.s 40), none⟩,
    ⟨some 10, .mv (.s 41), none⟩])
  .ret)
  .skip))
  (.seq (.reg [⟨some 42, .mv (.s 12), none⟩,
    ⟨some 43, .mv (.s 42), none⟩,
    ⟨some 44, .load true 3 (.s 11), (some (43, true))⟩,
    ⟨some 45, .load true 3 (.s 8), (some (43, true))⟩,
    ⟨some 46, .call 264 [(.s 44), (.s 45)], (some (43, true))⟩,
    ⟨some 47, .pick (.s 43) (.s 46) (.c (.bool false)), none⟩,
    ⟨some 48, .mv (.s 47), none⟩,
    ⟨some 49, .mv (.s 14), (some (48, false))⟩,
    ⟨some 50, .mv (.s 49), (some (48, false))⟩,
    ⟨some 51, .load true 3 (.s 13), (some (50, true))⟩,
    ⟨some 52, .load true 3 (.s 8), (some (50, true))⟩,
    ⟨some 53, .call 264 [(.s 51), (.s 52)], (some (50, true))⟩,
    ⟨some 54, .pick (.s 50) (.s 53) (.c (.bool false)), (some (48, false))⟩,
    ⟨some 55, .pick (.s 48) (.c (.bool true)) (.s 54), none⟩,
    ⟨some 10, .mv (.s 55), none⟩])
  .ret)))))⟩

/-- sumpter/merge.look -/
def sf245 : SF :=
  ⟨3, 30, [.cell 6 true 4, .t 7],
  (.seq (.reg [⟨some 5, .box (some 0) 2 (.s 2), none⟩,
    ⟨some 6, .alloc (some 1) [.v (.map none), .v (.map none), .v (.bool false), .v (.bool false)], none⟩,
    ⟨some 7, .mv (.c (.int .i64 0)), none⟩])
  (.seq (.seq (.reg [⟨some 11, .mv (.s 0), none⟩,
    ⟨some 12, .mv (.s 1), none⟩,
    ⟨some 13, .hop (.m (.bldA 1)) [(.s 11), (.s 12)], none⟩,
    ⟨some 14, .mv (.c (.int .i64 0)), none⟩])
  (.block 0 (.loop (.seq (.reg [⟨some 15, .int .lss (.s 14) (.c (.int .i64 2)), none⟩])
  (.seq (.cond (.s 15) .skip
  (.exit 0))
  (.seq (.block 1 (.seq (.reg [⟨some 16, .hop (.m (.idxA 2 1 false)) [(.s 13), (.s 14)], none⟩,
    ⟨some 9, .mv (.s 16), none⟩])
  (.seq (.reg [⟨some 17, .mv (.s 9), none⟩,
    ⟨some 18, .call 161 [(.s 17)], none⟩,
    ⟨some 10, .mv (.s 18), none⟩])
  (.seq (.reg [⟨some 19, .mv (.s 10), none⟩,
    ⟨some 20, .int .neq (.s 19) (.c (.int .i64 0)), none⟩])
  (.cond (.s 20) (.seq (.reg [⟨some 21, .build [.v (.map none), .v (.map none), .v (.bool false), .v (.bool false)] [], none⟩,
    ⟨some 22, .mv (.s 10), none⟩,
    ⟨none, .store 4 (.s 6) (.s 21), none⟩,
    ⟨some 7, .mv (.s 22), none⟩])
  .ret)
  .skip)))))
  (.reg [⟨some 23, .int .add (.s 14) (.c (.int .i64 1)), none⟩,
    ⟨some 14, .mv (.s 23), none⟩])))))))
  (.seq (.dreg [0, 2, 4, 1, 3, 5, 6, 7] [⟨⟨some 24, .mv (.s 0), none⟩, []⟩,
    ⟨⟨some 26, .mv (.s 1), none⟩, []⟩,
    ⟨⟨some 28, .load true 2 (.s 5), none⟩, []⟩,
    ⟨⟨some 25, .call 255 [(.s 24)], none⟩, [2]⟩,
    ⟨⟨some 27, .call 255 [(.s 26)], none⟩, [2]⟩,
    ⟨⟨some 29, .build [.v (.map none), .v (.map none), .v (.bool false), .v (.bool false)] [(0, 1, (.s 25)), (1, 1, (.s 27)), (2, 2, (.s 28))], none⟩, []⟩,
    ⟨⟨none, .store 4 (.s 6) (.s 29), none⟩, []⟩,
    ⟨⟨some 7, .mv (.c (.int .i64 0)), none⟩, []⟩])
  .ret)))⟩

/-- sumpter/merge.Want$1 -/
def sf246 : SF :=
  ⟨2, 7, [],
  (.seq (.reg [⟨some 2, .box (some 0) 3 (.s 0), none⟩])
  (.reg [⟨some 3, .load false 1 (.s 1), none⟩,
    ⟨some 4, .fld 0 (.s 2), none⟩,
    ⟨some 5, .load false 1 (.s 4), none⟩,
    ⟨some 6, .load true 3 (.s 2), none⟩,
    ⟨none, .hop (.m (.upd true)) [(.s 3), (.s 5), (.s 6)], none⟩]))⟩

/-- (sumpter/merge.both).stays -/
def sf247 : SF :=
  ⟨2, 42, [.t 4],
  (.seq (.reg [⟨some 2, .box (some 0) 4 (.s 0), none⟩,
    ⟨some 3, .box (some 1) 3 (.s 1), none⟩,
    ⟨some 4, .mv (.c (.bool false)), none⟩])
  (.seq (.reg [⟨some 8, .fld 0 (.s 2), none⟩,
    ⟨some 9, .load false 1 (.s 8), none⟩,
    ⟨some 10, .fld 0 (.s 3), none⟩,
    ⟨some 11, .load false 1 (.s 10), none⟩,
    ⟨some 12, .hop (.m (.lkp true true true [.v (.string ⟨#[]⟩), .v (.bool false), .v (.slice none 0 0)])) [(.s 9), (.s 11)], none⟩,
    ⟨some 7, .mv (.s 12), none⟩,
    ⟨some 13, .ext (.s 7) 0, none⟩,
    ⟨some 14, .ext (.s 7) 1, none⟩,
    ⟨some 5, .alloc (some 2) [.v (.string ⟨#[]⟩), .v (.bool false), .v (.slice none 0 0)], none⟩,
    ⟨none, .store 3 (.s 5) (.s 13), none⟩,
    ⟨some 6, .mv (.s 14), none⟩])
  (.seq (.block 0 (.seq (.reg [⟨some 16, .mv (.s 6), none⟩,
    ⟨some 17, .not (.s 16), none⟩,
    ⟨some 15, .mv (.s 17), none⟩])
  (.cond (.s 15) (.seq (.reg [⟨some 18, .fld 2 (.s 2), none⟩,
    ⟨some 19, .fld 0 (.s 18), none⟩,
    ⟨some 20, .load false 1 (.s 19), none⟩,
    ⟨some 21, .not (.s 20), none⟩,
    ⟨some 22, .mv (.s 21), none⟩,
    ⟨some 23, .fld 0 (.s 2), (some (22, true))⟩,
    ⟨some 24, .load false 1 (.s 23), (some (22, true))⟩,
    ⟨some 25, .fld 0 (.s 3), (some (22, true))⟩,
    ⟨some 26, .load false 1 (.s 25), (some (22, true))⟩,
    ⟨some 27, .call 265 [(.s 24), (.s 26)], (some (22, true))⟩,
    ⟨some 28, .not (.s 27), (some (22, true))⟩,
    ⟨some 29, .pick (.s 22) (.s 28) (.c (.bool false)), none⟩,
    ⟨some 4, .mv (.s 29), none⟩])
  .ret)
  (.seq (.reg [⟨some 31, .fld 1 (.s 3), none⟩,
    ⟨some 32, .load false 1 (.s 31), none⟩,
    ⟨some 30, .mv (.s 32), none⟩])
  (.cond (.s 30) (.seq (.reg [⟨some 33, .fld 1 (.s 5), none⟩,
    ⟨some 34, .load false 1 (.s 33), none⟩,
    ⟨some 4, .mv (.s 34), none⟩])
  .ret)
  .skip)))))
  (.seq (.reg [⟨some 35, .fld 0 (.s 2), none⟩,
    ⟨some 36, .load false 1 (.s 35), none⟩,
    ⟨some 37, .fld 0 (.s 3), none⟩,
    ⟨some 38, .load false 1 (.s 37), none⟩,
    ⟨some 39, .fld 2 (.s 3), none⟩,
    ⟨some 40, .load false 1 (.s 39), none⟩,
    ⟨some 41, .call 266 [(.s 36), (.s 38), (.s 40)], none⟩,
    ⟨some 4, .mv (.s 41), none⟩])
  .ret))))⟩

/-- (sumpter/merge.both).kept -/
def sf248 : SF :=
  ⟨2, 71, [.t 4],
  (.seq (.reg [⟨some 2, .box (some 0) 4 (.s 0), none⟩,
    ⟨some 3, .box (some 1) 3 (.s 1), none⟩,
    ⟨some 4, .mv (.c (.string ⟨#[]⟩)), none⟩])
  (.seq (.reg [⟨some 11, .fld 0 (.s 3), none⟩,
    ⟨some 12, .load false 1 (.s 11), none⟩,
    ⟨some 13, .call 242 [(.s 12)], none⟩,
    ⟨some 5, .mv (.s 13), none⟩])
  (.seq (.seq (.reg [⟨some 14, .fld 1 (.s 3), none⟩,
    ⟨some 15, .load false 1 (.s 14), none⟩,
    ⟨some 16, .mv (.s 15), none⟩,
    ⟨some 17, .mv (.s 5), (some (16, false))⟩,
    ⟨some 18, .str .eql (.s 17) (.c (.string ⟨#[]⟩)), (some (16, false))⟩,
    ⟨some 19, .pick (.s 16) (.c (.bool true)) (.s 18), none⟩,
    ⟨some 20, .mv (.s 19), none⟩,
    ⟨some 21, .fld 2 (.s 2), (some (20, false))⟩,
    ⟨some 22, .fld 1 (.s 21), (some (20, false))⟩,
    ⟨some 23, .load false 1 (.s 22), (some (20, false))⟩,
    ⟨some 24, .not (.s 23), (some (20, false))⟩,
    ⟨some 25, .pick (.s 20) (.c (.bool true)) (.s 24), none⟩,
    ⟨some 26, .mv (.s 25), none⟩,
    ⟨some 27, .load true 4 (.s 2), (some (26, false))⟩,
    ⟨some 28, .load true 3 (.s 3), (some (26, false))⟩,
    ⟨some 29, .call 247 [(.s 27), (.s 28)], (some (26, false))⟩,
    ⟨some 30, .pick (.s 26) (.c (.bool true)) (.s 29), none⟩])
  (.cond (.s 30) (.seq (.reg [⟨some 4, .mv (.c (.string ⟨#[]⟩)), none⟩])
  .ret)
  .skip))
  (.seq (.seq (.reg [⟨some 32, .fld 0 (.s 2), none⟩,
    ⟨some 33, .load false 1 (.s 32), none⟩,
    ⟨some 34, .mv (.s 5), none⟩,
    ⟨some 35, .hop (.m (.lkp true true true [.v (.string ⟨#[]⟩), .v (.bool false), .v (.slice none 0 0)])) [(.s 33), (.s 34)], none⟩,
    ⟨some 31, .mv (.s 35), none⟩,
    ⟨some 36, .ext (.s 31) 0, none⟩,
    ⟨some 37, .ext (.s 31) 1, none⟩,
    ⟨some 6, .alloc (some 2) [.v (.string ⟨#[]⟩), .v (.bool false), .v (.slice none 0 0)], none⟩,
    ⟨none, .store 3 (.s 6) (.s 36), none⟩,
    ⟨some 7, .mv (.s 37), none⟩])
  (.seq (.reg [⟨some 38, .mv (.s 7), none⟩,
    ⟨some 39, .mv (.s 38), none⟩,
    ⟨some 40, .fld 1 (.s 2), (some (39, false))⟩,
    ⟨some 41, .load false 1 (.s 40), (some (39, false))⟩,
    ⟨some 42, .mv (.s 5), (some (39, false))⟩,
    ⟨some 43, .call 267 [(.s 41), (.s 42)], (some (39, false))⟩,
    ⟨some 44, .pick (.s 39) (.c (.bool true)) (.s 43), none⟩])
  (.cond (.s 44) (.seq (.reg [⟨some 4, .mv (.c (.string ⟨#[]⟩)), none⟩])
  .ret)
  .skip)))
  (.seq (.reg [⟨some 45, .mv (.s 5), none⟩,
    ⟨some 46, .call 164 [(.s 45)], none⟩,
    ⟨some 8, .mv (.s 46), none⟩])
  (.seq (.reg [⟨some 48, .fld 1 (.s 2), none⟩,
    ⟨some 49, .load false 1 (.s 48), none⟩,
    ⟨some 50, .mv (.s 8), none⟩,
    ⟨some 51, .hop (.m (.lkp true true true [.v (.string ⟨#[]⟩), .v (.bool false), .v (.slice none 0 0)])) [(.s 49), (.s 50)], none⟩,
    ⟨some 47, .mv (.s 51), none⟩,
    ⟨some 52, .ext (.s 47) 0, none⟩,
    ⟨some 53, .ext (.s 47) 1, none⟩,
    ⟨some 9, .alloc (some 3) [.v (.string ⟨#[]⟩), .v (.bool false), .v (.slice none 0 0)], none⟩,
    ⟨none, .store 3 (.s 9) (.s 52), none⟩,
    ⟨some 10, .mv (.s 53), none⟩])
  (.seq (.seq (.reg [⟨some 54, .fld 0 (.s 2), none⟩,
    ⟨some 55, .load false 1 (.s 54), none⟩,
    ⟨some 56, .mv (.s 8), none⟩,
    ⟨some 57, .call 267 [(.s 55), (.s 56)], none⟩,
    ⟨some 58, .mv (.s 57), none⟩,
    ⟨some 59, .mv (.s 10), (some (58, false))⟩,
    ⟨some 60, .mv (.s 59), (some (58, false))⟩,
    ⟨some 61, .fld 1 (.s 9), (some (60, true))⟩,
    ⟨some 62, .load false 1 (.s 61), (some (60, true))⟩,
    ⟨some 63, .pick (.s 60) (.s 62) (.c (.bool false)), (some (58, false))⟩,
    ⟨some 64, .mv (.s 63), (some (58, false))⟩,
    ⟨some 65, .load true 4 (.s 2), (some (64, true))⟩,
    ⟨some 66, .load true 3 (.s 9), (some (64, true))⟩,
    ⟨some 67, .call 247 [(.s 65), (.s 66)], (some (64, true))⟩,
    ⟨some 68, .pick (.s 64) (.s 67) (.c (.bool false)), (some (58, false))⟩,
    ⟨some 69, .pick (.s 58) (.c (.bool true)) (.s 68), none⟩])
  (.cond (.s 69) (.seq (.reg [⟨some 70, .mv (.s 5), none⟩,
    ⟨some 4, .mv (.s 70), none⟩])
  .ret)
  .skip))
  (.seq (.reg [⟨some 4, .mv (.c (.string ⟨#[]⟩)), none⟩])
  .ret))))))))⟩

/-- slices.SortFunc[[]sumpter/api.Entry,sumpter/api.Entry] -/
def sf249 : SF :=
  ⟨2, 14, [],
  (.seq (.reg [⟨some 5, .mv (.s 0), none⟩,
    ⟨some 6, .len (.s 5), none⟩,
    ⟨some 4, .mv (.s 6), none⟩])
  (.reg [⟨some 7, .mv (.s 0), none⟩,
    ⟨some 8, .mv (.s 4), none⟩,
    ⟨some 9, .mv (.s 4), none⟩,
    ⟨some 10, .conv .u64 (.s 9), none⟩,
    ⟨some 11, .dead, none⟩,
    ⟨some 12, .mv (.s 1), none⟩,
    ⟨some 13, .dead, none⟩]))⟩

/-- sumpter/merge.Want$2 -/
def sf250 : SF :=
  ⟨2, 10, [.t 4],
  (.seq (.reg [⟨some 2, .box (some 0) 3 (.s 0), none⟩,
    ⟨some 3, .box (some 1) 3 (.s 1), none⟩,
    ⟨some 4, .mv (.c (.int .i64 0)), none⟩])
  (.seq (.seq (.reg [⟨some 5, .fld 0 (.s 2), none⟩,
    ⟨some 6, .load false 1 (.s 5), none⟩,
    ⟨some 7, .fld 0 (.s 3), none⟩,
    ⟨some 8, .load false 1 (.s 7), none⟩,
    ⟨some 9, .call 163 [(.s 6), (.s 8)], none⟩])
  (.cond (.s 9) (.seq (.reg [⟨some 4, .mv (.c (.int .i64 (-1))), none⟩])
  .ret)
  .skip))
  (.seq (.reg [⟨some 4, .mv (.c (.int .i64 1)), none⟩])
  .ret)))⟩

/-- sumpter/sumpterref09.stays -/
def sf251 : SF :=
  ⟨3, 48, [.t 6],
  (.seq (.reg [⟨some 4, .box (some 0) 3 (.s 1), none⟩,
    ⟨some 5, .box (some 1) 2 (.s 2), none⟩,
    ⟨some 6, .mv (.c (.bool false)), none⟩])
  (.seq (.reg [⟨some 10, .mv (.s 0), none⟩,
    ⟨some 11, .fld 0 (.s 4), none⟩,
    ⟨some 12, .load false 1 (.s 11), none⟩,
    ⟨some 13, .call 151 [(.s 10), (.s 12)], none⟩,
    ⟨some 9, .mv (.s 13), none⟩,
    ⟨some 14, .ext (.s 9) 0, none⟩,
    ⟨some 15, .ext (.s 9) 1, none⟩,
    ⟨some 7, .alloc (some 2) [.v (.string ⟨#[]⟩), .v (.bool false), .v (.slice none 0 0)], none⟩,
    ⟨none, .store 3 (.s 7) (.s 14), none⟩,
    ⟨some 8, .mv (.s 15), none⟩])
  (.seq (.block 0 (.seq (.reg [⟨some 17, .mv (.s 8), none⟩,
    ⟨some 18, .mv (.s 17), none⟩,
    ⟨some 19, .fld 1 (.s 4), (some (18, true))⟩,
    ⟨some 20, .load false 1 (.s 19), (some (18, true))⟩,
    ⟨some 21, .pick (.s 18) (.s 20) (.c (.bool false)), none⟩,
    ⟨some 16, .mv (.s 21), none⟩])
  (.cond (.s 16) (.seq (.reg [⟨some 22, .fld 1 (.s 7), none⟩,
    ⟨some 23, .load false 1 (.s 22), none⟩,
    ⟨some 6, .mv (.s 23), none⟩])
  .ret)
  (.seq (.reg [⟨some 25, .mv (.s 8), none⟩,
    ⟨some 24, .mv (.s 25), none⟩])
  (.cond (.s 24) (.seq (.reg [⟨some 26, .fld 1 (.s 7), none⟩,
    ⟨some 27, .load false 1 (.s 26), none⟩,
    ⟨some 28, .not (.s 27), none⟩,
    ⟨some 29, .mv (.s 28), none⟩,
    ⟨some 30, .fld 2 (.s 4), (some (29, true))⟩,
    ⟨some 31, .load false 1 (.s 30), (some (29, true))⟩,
    ⟨some 32, .nd .b2s [(.s 31)], (some (29, true))⟩,
    ⟨some 33, .fld 2 (.s 7), (some (29, true))⟩,
    ⟨some 34, .load false 1 (.s 33), (some (29, true))⟩,
    ⟨some 35, .nd .b2s [(.s 34)], (some (29, true))⟩,
    ⟨some 36, .str .eql (.s 32) (.s 35), (some (29, true))⟩,
    ⟨some 37, .pick (.s 29) (.s 36) (.c (.bool false)), none⟩,
    ⟨some 6, .mv (.s 37), none⟩])
  .ret)
  .skip)))))
  (.seq (.reg [⟨some 38, .mv (.s 0), none⟩,
    ⟨some 39, .fld 0 (.s 4), none⟩,
    ⟨some 40, .load false 1 (.s 39), none⟩,
    ⟨some 41, .call 270 [(.s 38), (.s 40)], none⟩,
    ⟨some 42, .not (.s 41), none⟩,
    ⟨some 43, .mv (.s 42), none⟩,
    ⟨some 44, .fld 0 (.s 5), (some (43, true))⟩,
    ⟨some 45, .load false 1 (.s 44), (some (43, true))⟩,
    ⟨some 46, .not (.s 45), (some (43, true))⟩,
    ⟨some 47, .pick (.s 43) (.s 46) (.c (.bool false)), none⟩,
    ⟨some 6, .mv (.s 47), none⟩])
  .ret))))⟩

/-- sumpter/sumpterref09.laid -/
def sf252 : SF :=
  ⟨2, 53, [.t 4],
  (.seq (.reg [⟨some 3, .box (some 0) 3 (.s 1), none⟩,
    ⟨some 4, .mv (.c (.slice none 0 0)), none⟩])
  (.seq (.reg [⟨some 5, .mv (.c (.slice none 0 0)), none⟩])
  (.seq (.reg [⟨some 6, .mv (.c (.bool false)), none⟩])
  (.seq (.seq (.reg [⟨some 7, .mv (.c (.int .i64 0)), none⟩])
  (.block 0 (.loop (.seq (.seq (.reg [⟨some 8, .mv (.s 7), none⟩,
    ⟨some 9, .mv (.s 0), none⟩,
    ⟨some 10, .len (.s 9), none⟩,
    ⟨some 11, .int .lss (.s 8) (.s 10), none⟩])
  (.cond (.s 11) .skip
  (.exit 0)))
  (.seq (.block 1 (.seq (.seq (.dreg [0, 1, 2, 3, 4, 5, 6, 8, 7, 9, 10, 11, 12] [⟨⟨some 14, .mv (.s 6), none⟩, []⟩,
    ⟨⟨some 15, .not (.s 14), none⟩, []⟩,
    ⟨⟨some 16, .mv (.s 15), none⟩, []⟩,
    ⟨⟨some 17, .mv (.s 0), (some (16, true))⟩, []⟩,
    ⟨⟨some 18, .mv (.s 7), (some (16, true))⟩, []⟩,
    ⟨⟨some 19, .idx 3 (.s 17) (.s 18), (some (16, true))⟩, []⟩,
    ⟨⟨some 20, .fld 0 (.s 19), (some (16, true))⟩, []⟩,
    ⟨⟨some 22, .fld 0 (.s 3), (some (16, true))⟩, []⟩,
    ⟨⟨some 21, .load false 1 (.s 20), (some (16, true))⟩, []⟩,
    ⟨⟨some 23, .load false 1 (.s 22), (some (16, true))⟩, []⟩,
    ⟨⟨some 24, .call 176 [(.s 21), (.s 23)], (some (16, true))⟩, []⟩,
    ⟨⟨some 25, .not (.s 24), (some (16, true))⟩, []⟩,
    ⟨⟨some 26, .pick (.s 16) (.s 25) (.c (.bool false)), none⟩, []⟩])
  (.cond (.s 26) (.seq (.reg [⟨some 27, .mv (.s 5), none⟩,
    ⟨some 28, .load true 3 (.s 3), none⟩,
    ⟨some 29, .bslice 3 [(.s 28)], none⟩,
    ⟨some 30, .app 3 48 (.s 27) (.s 29), none⟩,
    ⟨some 5, .mv (.s 30), none⟩])
  (.reg [⟨some 6, .mv (.c (.bool true)), none⟩]))
  .skip))
  (.seq (.dreg [0, 1, 2, 3, 5, 4, 6, 7] [⟨⟨some 31, .mv (.s 0), none⟩, []⟩,
    ⟨⟨some 32, .mv (.s 7), none⟩, []⟩,
    ⟨⟨some 33, .idx 3 (.s 31) (.s 32), none⟩, []⟩,
    ⟨⟨some 34, .fld 0 (.s 33), none⟩, []⟩,
    ⟨⟨some 36, .fld 0 (.s 3), none⟩, []⟩,
    ⟨⟨some 35, .load false 1 (.s 34), none⟩, []⟩,
    ⟨⟨some 37, .load false 1 (.s 36), none⟩, []⟩,
    ⟨⟨some 38, .str .neq (.s 35) (.s 37), none⟩, []⟩])
  (.cond (.s 38) (.reg [⟨some 39, .mv (.s 5), none⟩,
    ⟨some 40, .mv (.s 0), none⟩,
    ⟨some 41, .mv (.s 7), none⟩,
    ⟨some 42, .idx 3 (.s 40) (.s 41), none⟩,
    ⟨some 43, .load true 3 (.s 42), none⟩,
    ⟨some 44, .bslice 3 [(.s 43)], none⟩,
    ⟨some 45, .app 3 48 (.s 39) (.s 44), none⟩,
    ⟨some 5, .mv (.s 45), none⟩])
  .skip))))
  (.reg [⟨some 12, .mv (.s 7), none⟩,
    ⟨some 13, .int .add (.s 12) (.c (.int .i64 1)), none⟩,
    ⟨some 7, .mv (.s 13), none⟩]))))))
  (.seq (.seq (.reg [⟨some 46, .mv (.s 6), none⟩,
    ⟨some 47, .not (.s 46), none⟩])
  (.cond (.s 47) (.reg [⟨some 48, .mv (.s 5), none⟩,
    ⟨some 49, .load true 3 (.s 3), none⟩,
    ⟨some 50, .bslice 3 [(.s 49)], none⟩,
    ⟨some 51, .app 3 48 (.s 48) (.s 50), none⟩,
    ⟨some 5, .mv (.s 51), none⟩])
  .skip))
  (.seq (.reg [⟨some 52, .mv (.s 5), none⟩,
    ⟨some 4, .mv (.s 52), none⟩])
  .ret))))))⟩

/-- sumpter/sumpterref09.kept -/
def sf253 : SF :=
  ⟨4, 93, [.t 8],
  (.seq (.reg [⟨some 6, .box (some 0) 3 (.s 2), none⟩,
    ⟨some 7, .box (some 1) 2 (.s 3), none⟩,
    ⟨some 8, .mv (.c (.bool false)), none⟩])
  (.seq (.reg [⟨some 19, .fld 0 (.s 6), none⟩,
    ⟨some 20, .load false 1 (.s 19), none⟩,
    ⟨some 21, .call 254 [(.s 20)], none⟩,
    ⟨some 9, .mv (.s 21), none⟩])
  (.seq (.seq (.reg [⟨some 22, .fld 1 (.s 6), none⟩,
    ⟨some 23, .load false 1 (.s 22), none⟩,
    ⟨some 24, .mv (.s 23), none⟩,
    ⟨some 25, .mv (.s 0), (some (24, false))⟩,
    ⟨some 26, .load true 3 (.s 6), (some (24, false))⟩,
    ⟨some 27, .load true 2 (.s 7), (some (24, false))⟩,
    ⟨some 28, .call 251 [(.s 25), (.s 26), (.s 27)], (some (24, false))⟩,
    ⟨some 29, .pick (.s 24) (.c (.bool true)) (.s 28), none⟩,
    ⟨some 30, .mv (.s 29), none⟩,
    ⟨some 31, .fld 1 (.s 7), (some (30, false))⟩,
    ⟨some 32, .load false 1 (.s 31), (some (30, false))⟩,
    ⟨some 33, .not (.s 32), (some (30, false))⟩,
    ⟨some 34, .pick (.s 30) (.c (.bool true)) (.s 33), none⟩,
    ⟨some 35, .mv (.s 34), none⟩,
    ⟨some 36, .mv (.s 9), (some (35, false))⟩,
    ⟨some 37, .str .eql (.s 36) (.c (.string ⟨#[]⟩)), (some (35, false))⟩,
    ⟨some 38, .pick (.s 35) (.c (.bool true)) (.s 37), none⟩])
  (.cond (.s 38) (.seq (.reg [⟨some 8, .mv (.c (.bool false)), none⟩])
  .ret)
  .skip))
  (.seq (.reg [⟨some 40, .mv (.s 0), none⟩,
    ⟨some 41, .mv (.s 9), none⟩,
    ⟨some 42, .call 151 [(.s 40), (.s 41)], none⟩,
    ⟨some 39, .mv (.s 42), none⟩,
    ⟨some 43, .ext (.s 39) 0, none⟩,
    ⟨some 44, .ext (.s 39) 1, none⟩,
    ⟨some 10, .alloc (some 2) [.v (.string ⟨#[]⟩), .v (.bool false), .v (.slice none 0 0)], none⟩,
    ⟨none, .store 3 (.s 10) (.s 43), none⟩,
    ⟨some 11, .mv (.s 44), none⟩])
  (.seq (.reg [⟨some 46, .mv (.s 1), none⟩,
    ⟨some 47, .mv (.s 9), none⟩,
    ⟨some 48, .call 151 [(.s 46), (.s 47)], none⟩,
    ⟨some 45, .mv (.s 48), none⟩,
    ⟨some 49, .ext (.s 45) 0, none⟩,
    ⟨some 50, .ext (.s 45) 1, none⟩,
    ⟨some 12, .alloc (some 3) [.v (.string ⟨#[]⟩), .v (.bool false), .v (.slice none 0 0)], none⟩,
    ⟨none, .store 3 (.s 12) (.s 49), none⟩,
    ⟨some 13, .mv (.s 50), none⟩])
  (.seq (.seq (.reg [⟨some 51, .mv (.s 11), none⟩,
    ⟨some 52, .mv (.s 51), none⟩,
    ⟨some 53, .mv (.s 13), (some (52, false))⟩,
    ⟨some 54, .mv (.s 53), (some (52, false))⟩,
    ⟨some 55, .fld 1 (.s 12), (some (54, true))⟩,
    ⟨some 56, .load false 1 (.s 55), (some (54, true))⟩,
    ⟨some 57, .pick (.s 54) (.s 56) (.c (.bool false)), (some (52, false))⟩,
    ⟨some 58, .pick (.s 52) (.c (.bool true)) (.s 57), none⟩])
  (.cond (.s 58) (.seq (.reg [⟨some 8, .mv (.c (.bool false)), none⟩])
  .ret)
  .skip))
  (.seq (.reg [⟨some 59, .mv (.s 9), none⟩,
    ⟨some 60, .call 170 [(.s 59)], none⟩,
    ⟨some 14, .mv (.s 60), none⟩])
  (.seq (.seq (.reg [⟨some 61, .mv (.s 14), none⟩,
    ⟨some 62, .str .eql (.s 61) (.c (.string ⟨#[]⟩)), none⟩])
  (.cond (.s 62) (.seq (.reg [⟨some 8, .mv (.c (.bool true)), none⟩])
  .ret)
  .skip))
  (.seq (.reg [⟨some 64, .mv (.s 0), none⟩,
    ⟨some 65, .mv (.s 14), none⟩,
    ⟨some 66, .call 151 [(.s 64), (.s 65)], none⟩,
    ⟨some 63, .mv (.s 66), none⟩,
    ⟨some 67, .ext (.s 63) 0, none⟩,
    ⟨some 68, .ext (.s 63) 1, none⟩,
    ⟨some 15, .alloc (some 4) [.v (.string ⟨#[]⟩), .v (.bool false), .v (.slice none 0 0)], none⟩,
    ⟨none, .store 3 (.s 15) (.s 67), none⟩,
    ⟨some 16, .mv (.s 68), none⟩])
  (.seq (.reg [⟨some 70, .mv (.s 1), none⟩,
    ⟨some 71, .mv (.s 14), none⟩,
    ⟨some 72, .call 151 [(.s 70), (.s 71)], none⟩,
    ⟨some 69, .mv (.s 72), none⟩,
    ⟨some 73, .ext (.s 69) 0, none⟩,
    ⟨some 74, .ext (.s 69) 1, none⟩,
    ⟨some 17, .alloc (some 5) [.v (.string ⟨#[]⟩), .v (.bool false), .v (.slice none 0 0)], none⟩,
    ⟨none, .store 3 (.s 17) (.s 73), none⟩,
    ⟨some 18, .mv (.s 74), none⟩])
  (.seq (.reg [⟨some 75, .mv (.s 16), none⟩,
    ⟨some 76, .mv (.s 75), none⟩,
    ⟨some 77, .fld 1 (.s 15), (some (76, true))⟩,
    ⟨some 78, .load false 1 (.s 77), (some (76, true))⟩,
    ⟨some 79, .pick (.s 76) (.s 78) (.c (.bool false)), none⟩,
    ⟨some 80, .mv (.s 79), none⟩,
    ⟨some 81, .mv (.s 18), (some (80, false))⟩,
    ⟨some 82, .mv (.s 81), (some (80, false))⟩,
    ⟨some 83, .fld 1 (.s 17), (some (82, true))⟩,
    ⟨some 84, .load false 1 (.s 83), (some (82, true))⟩,
    ⟨some 85, .pick (.s 82) (.s 84) (.c (.bool false)), (some (80, false))⟩,
    ⟨some 86, .mv (.s 85), (some (80, false))⟩,
    ⟨some 87, .mv (.s 0), (some (86, true))⟩,
    ⟨some 88, .load true 3 (.s 17), (some (86, true))⟩,
    ⟨some 89, .load true 2 (.s 7), (some (86, true))⟩,
    ⟨some 90, .call 251 [(.s 87), (.s 88), (.s 89)], (some (86, true))⟩,
    ⟨some 91, .pick (.s 86) (.s 90) (.c (.bool false)), (some (80, false))⟩,
    ⟨some 92, .pick (.s 80) (.c (.bool true)) (.s 91), none⟩,
    ⟨some 8, .mv (.s 92), none⟩])
  .ret)))))))))))⟩

/-- sumpter/sumpterref07.Kept -/
def sf254 : SF :=
  ⟨1, 21, [.t 2],
  (.seq (.reg [⟨some 2, .mv (.c (.string ⟨#[]⟩)), none⟩])
  (.seq (.seq (.reg [⟨some 3, .mv (.s 0), none⟩,
    ⟨some 4, .str .eql (.s 3) (.c (.string ⟨#[]⟩)), none⟩,
    ⟨some 5, .mv (.s 4), none⟩,
    ⟨some 6, .mv (.s 0), (some (5, false))⟩,
    ⟨some 7, .mv (.s 0), (some (5, false))⟩,
    ⟨some 8, .slen (.s 7), (some (5, false))⟩,
    ⟨some 9, .int .sub (.s 8) (.c (.int .i64 1)), (some (5, false))⟩,
    ⟨some 10, .sidx (.s 6) (.s 9), (some (5, false))⟩,
    ⟨some 11, .int .eql (.s 10) (.c (.int .u8 126)), (some (5, false))⟩,
    ⟨some 12, .pick (.s 5) (.c (.bool true)) (.s 11), none⟩,
    ⟨some 13, .mv (.s 12), none⟩,
    ⟨some 14, .mv (.s 0), (some (13, false))⟩,
    ⟨some 15, .str .add (.s 14) (.c (.string ⟨#[126]⟩)), (some (13, false))⟩,
    ⟨some 16, .call 199 [(.s 15)], (some (13, false))⟩,
    ⟨some 17, .int .neq (.s 16) (.c (.int .i64 0)), (some (13, false))⟩,
    ⟨some 18, .pick (.s 13) (.c (.bool true)) (.s 17), none⟩])
  (.cond (.s 18) (.seq (.reg [⟨some 2, .mv (.c (.string ⟨#[]⟩)), none⟩])
  .ret)
  .skip))
  (.seq (.reg [⟨some 19, .mv (.s 0), none⟩,
    ⟨some 20, .str .add (.s 19) (.c (.string ⟨#[126]⟩)), none⟩,
    ⟨some 2, .mv (.s 20), none⟩])
  .ret)))⟩

/-- sumpter/merge.index -/
def sf255 : SF :=
  ⟨1, 19, [.t 2],
  (.seq (.reg [⟨some 2, .mv (.c (.map none)), none⟩])
  (.seq (.reg [⟨some 6, .hop (.m .mk) [], none⟩,
    ⟨some 3, .mv (.s 6), none⟩])
  (.seq (.seq (.reg [⟨some 7, .mv (.s 0), none⟩,
    ⟨some 8, .len (.s 7), none⟩,
    ⟨some 9, .mv (.c (.int .i64 0)), none⟩])
  (.block 0 (.loop (.seq (.reg [⟨some 10, .int .lss (.s 9) (.s 8), none⟩])
  (.seq (.cond (.s 10) .skip
  (.exit 0))
  (.seq (.block 1 (.seq (.reg [⟨some 11, .idx 3 (.s 7) (.s 9), none⟩,
    ⟨some 12, .load true 3 (.s 11), none⟩,
    ⟨some 5, .alloc (some 0) [.v (.string ⟨#[]⟩), .v (.bool false), .v (.slice none 0 0)], none⟩,
    ⟨none, .store 3 (.s 5) (.s 12), none⟩])
  (.reg [⟨some 13, .mv (.s 3), none⟩,
    ⟨some 14, .fld 0 (.s 5), none⟩,
    ⟨some 15, .load false 1 (.s 14), none⟩,
    ⟨some 16, .load true 3 (.s 5), none⟩,
    ⟨none, .hop (.m (.upd true)) [(.s 13), (.s 15), (.s 16)], none⟩])))
  (.reg [⟨some 17, .int .add (.s 9) (.c (.int .i64 1)), none⟩,
    ⟨some 9, .mv (.s 17), none⟩])))))))
  (.seq (.reg [⟨some 18, .mv (.s 3), none⟩,
    ⟨some 2, .mv (.s 18), none⟩])
  .ret))))⟩

/-- sumpter/merge.Plan$1 -/
def sf256 : SF :=
  ⟨5, 31, [],
  (.seq (.reg [⟨some 11, .mv (.s 0), none⟩,
    ⟨some 12, .len (.s 11), none⟩,
    ⟨some 13, .mv (.c (.int .i64 0)), none⟩])
  (.block 0 (.loop (.seq (.reg [⟨some 14, .int .lss (.s 13) (.s 12), none⟩])
  (.seq (.cond (.s 14) .skip
  (.exit 0))
  (.seq (.block 1 (.seq (.reg [⟨some 15, .idx 3 (.s 11) (.s 13), none⟩,
    ⟨some 16, .load true 3 (.s 15), none⟩,
    ⟨some 10, .alloc (some 0) [.v (.string ⟨#[]⟩), .v (.bool false), .v (.slice none 0 0)], none⟩,
    ⟨none, .store 3 (.s 10) (.s 16), none⟩])
  (.seq (.reg [⟨some 17, .mv (.s 2), none⟩,
    ⟨some 18, .load true 3 (.s 10), none⟩,
    ⟨some 19, .callv (.s 17) [(.s 18)], none⟩])
  (.cond (.s 19) (.dreg [1, 2, 4, 0, 3, 5, 6, 7, 8, 9, 10] [⟨⟨some 21, .mv (.s 1), none⟩, []⟩,
    ⟨⟨some 22, .fld 0 (.s 10), none⟩, []⟩,
    ⟨⟨some 24, .mv (.s 3), none⟩, []⟩,
    ⟨⟨some 20, .load false 1 (.s 4), none⟩, []⟩,
    ⟨⟨some 23, .load false 1 (.s 22), none⟩, []⟩,
    ⟨⟨some 25, .load true 3 (.s 10), none⟩, []⟩,
    ⟨⟨some 26, .callv (.s 24) [(.s 25)], none⟩, [3, 4]⟩,
    ⟨⟨some 27, .build [.v (.int .u8 0), .v (.string ⟨#[]⟩), .v (.string ⟨#[]⟩)] [(0, 1, (.s 21)), (1, 1, (.s 23)), (2, 1, (.s 26))], none⟩, []⟩,
    ⟨⟨some 28, .bslice 3 [(.s 27)], none⟩, []⟩,
    ⟨⟨some 29, .app 3 40 (.s 20) (.s 28), none⟩, []⟩,
    ⟨⟨none, .store 1 (.s 4) (.s 29), none⟩, []⟩])
  .skip))))
  (.reg [⟨some 30, .int .add (.s 13) (.c (.int .i64 1)), none⟩,
    ⟨some 13, .mv (.s 30), none⟩])))))))⟩

/-- sumpter/merge.Plan$2 -/
def sf257 : SF :=
  ⟨1, 3, [.t 2],
  (.seq (.reg [⟨some 1, .box (some 0) 3 (.s 0), none⟩,
    ⟨some 2, .mv (.c (.string ⟨#[]⟩)), none⟩])
  (.seq (.reg [⟨some 2, .mv (.c (.string ⟨#[]⟩)), none⟩])
  .ret))⟩

/-- sumpter/merge.Plan$3 -/
def sf258 : SF :=
  ⟨2, 19, [.t 3],
  (.seq (.reg [⟨some 2, .box (some 0) 3 (.s 0), none⟩,
    ⟨some 3, .mv (.c (.bool false)), none⟩])
  (.seq (.reg [⟨some 5, .load true 4 (.s 1), none⟩,
    ⟨some 6, .load true 3 (.s 2), none⟩,
    ⟨some 7, .call 248 [(.s 5), (.s 6)], none⟩,
    ⟨some 4, .mv (.s 7), none⟩])
  (.seq (.reg [⟨some 8, .mv (.s 4), none⟩,
    ⟨some 9, .str .neq (.s 8) (.c (.string ⟨#[]⟩)), none⟩,
    ⟨some 10, .mv (.s 9), none⟩,
    ⟨some 11, .fld 1 (.s 1), (some (10, true))⟩,
    ⟨some 12, .load false 1 (.s 11), (some (10, true))⟩,
    ⟨some 13, .mv (.s 4), (some (10, true))⟩,
    ⟨some 14, .fld 2 (.s 2), (some (10, true))⟩,
    ⟨some 15, .load false 1 (.s 14), (some (10, true))⟩,
    ⟨some 16, .call 266 [(.s 12), (.s 13), (.s 15)], (some (10, true))⟩,
    ⟨some 17, .not (.s 16), (some (10, true))⟩,
    ⟨some 18, .pick (.s 10) (.s 17) (.c (.bool false)), none⟩,
    ⟨some 3, .mv (.s 18), none⟩])
  .ret)))⟩

/-- sumpter/merge.Plan$4 -/
def sf259 : SF :=
  ⟨2, 22, [.t 3],
  (.seq (.reg [⟨some 2, .box (some 0) 3 (.s 0), none⟩,
    ⟨some 3, .mv (.c (.bool false)), none⟩])
  (.seq (.reg [⟨some 7, .load false 1 (.s 1), none⟩,
    ⟨some 8, .fld 0 (.s 2), none⟩,
    ⟨some 9, .load false 1 (.s 8), none⟩,
    ⟨some 10, .hop (.m (.lkp true true true [.v (.string ⟨#[]⟩), .v (.bool false), .v (.slice none 0 0)])) [(.s 7), (.s 9)], none⟩,
    ⟨some 6, .mv (.s 10), none⟩,
    ⟨some 11, .ext (.s 6) 0, none⟩,
    ⟨some 12, .ext (.s 6) 1, none⟩,
    ⟨some 4, .alloc (some 1) [.v (.string ⟨#[]⟩), .v (.bool false), .v (.slice none 0 0)], none⟩,
    ⟨none, .store 3 (.s 4) (.s 11), none⟩,
    ⟨some 5, .mv (.s 12), none⟩])
  (.seq (.reg [⟨some 13, .mv (.s 5), none⟩,
    ⟨some 14, .not (.s 13), none⟩,
    ⟨some 15, .mv (.s 14), none⟩,
    ⟨some 16, .fld 1 (.s 4), (some (15, false))⟩,
    ⟨some 17, .load false 1 (.s 16), (some (15, false))⟩,
    ⟨some 18, .fld 1 (.s 2), (some (15, false))⟩,
    ⟨some 19, .load false 1 (.s 18), (some (15, false))⟩,
    ⟨some 20, .eq .bool true (.s 17) (.s 19), (some (15, false))⟩,
    ⟨some 21, .pick (.s 15) (.c (.bool true)) (.s 20), none⟩,
    ⟨some 3, .mv (.s 21), none⟩])
  .ret)))⟩

/-- sumpter/merge.Plan$5 -/
def sf260 : SF :=
  ⟨2, 14, [.t 3],
  (.seq (.reg [⟨some 2, .box (some 0) 3 (.s 0), none⟩,
    ⟨some 3, .mv (.c (.bool false)), none⟩])
  (.seq (.reg [⟨some 4, .fld 1 (.s 2), none⟩,
    ⟨some 5, .load false 1 (.s 4), none⟩,
    ⟨some 6, .mv (.s 5), none⟩,
    ⟨some 7, .fld 1 (.s 1), (some (6, true))⟩,
    ⟨some 8, .load false 1 (.s 7), (some (6, true))⟩,
    ⟨some 9, .fld 0 (.s 2), (some (6, true))⟩,
    ⟨some 10, .load false 1 (.s 9), (some (6, true))⟩,
    ⟨some 11, .call 267 [(.s 8), (.s 10)], (some (6, true))⟩,
    ⟨some 12, .not (.s 11), (some (6, true))⟩,
    ⟨some 13, .pick (.s 6) (.s 12) (.c (.bool false)), none⟩,
    ⟨some 3, .mv (.s 13), none⟩])
  .ret))⟩

/-- sumpter/merge.Plan$6 -/
def sf261 : SF :=
  ⟨2, 17, [.t 3],
  (.seq (.reg [⟨some 2, .box (some 0) 3 (.s 0), none⟩,
    ⟨some 3, .mv (.c (.bool false)), none⟩])
  (.seq (.reg [⟨some 4, .fld 1 (.s 2), none⟩,
    ⟨some 5, .load false 1 (.s 4), none⟩,
    ⟨some 6, .not (.s 5), none⟩,
    ⟨some 7, .mv (.s 6), none⟩,
    ⟨some 8, .fld 1 (.s 1), (some (7, true))⟩,
    ⟨some 9, .load false 1 (.s 8), (some (7, true))⟩,
    ⟨some 10, .fld 0 (.s 2), (some (7, true))⟩,
    ⟨some 11, .load false 1 (.s 10), (some (7, true))⟩,
    ⟨some 12, .fld 2 (.s 2), (some (7, true))⟩,
    ⟨some 13, .load false 1 (.s 12), (some (7, true))⟩,
    ⟨some 14, .call 266 [(.s 9), (.s 11), (.s 13)], (some (7, true))⟩,
    ⟨some 15, .not (.s 14), (some (7, true))⟩,
    ⟨some 16, .pick (.s 7) (.s 15) (.c (.bool false)), none⟩,
    ⟨some 3, .mv (.s 16), none⟩])
  .ret))⟩

/-- sumpter/merge.fileOf -/
def sf262 : SF :=
  ⟨2, 21, [.cell 4 true 3, .t 5],
  (.seq (.reg [⟨some 4, .alloc (some 0) [.v (.string ⟨#[]⟩), .v (.bool false), .v (.slice none 0 0)], none⟩,
    ⟨some 5, .mv (.c (.bool false)), none⟩])
  (.seq (.reg [⟨some 9, .mv (.s 0), none⟩,
    ⟨some 10, .mv (.s 1), none⟩,
    ⟨some 11, .call 150 [(.s 9), (.s 10)], none⟩,
    ⟨some 8, .mv (.s 11), none⟩,
    ⟨some 12, .ext (.s 8) 0, none⟩,
    ⟨some 13, .ext (.s 8) 1, none⟩,
    ⟨some 6, .alloc (some 1) [.v (.string ⟨#[]⟩), .v (.bool false), .v (.slice none 0 0)], none⟩,
    ⟨none, .store 3 (.s 6) (.s 12), none⟩,
    ⟨some 7, .mv (.s 13), none⟩])
  (.seq (.dreg [1, 2, 3, 0, 4, 5, 6, 7, 8] [⟨⟨some 15, .mv (.s 7), none⟩, []⟩,
    ⟨⟨some 16, .mv (.s 15), none⟩, []⟩,
    ⟨⟨some 17, .fld 1 (.s 6), (some (16, true))⟩, []⟩,
    ⟨⟨some 14, .load true 3 (.s 6), none⟩, []⟩,
    ⟨⟨some 18, .load false 1 (.s 17), (some (16, true))⟩, []⟩,
    ⟨⟨some 19, .not (.s 18), (some (16, true))⟩, []⟩,
    ⟨⟨some 20, .pick (.s 16) (.s 19) (.c (.bool false)), none⟩, []⟩,
    ⟨⟨none, .store 3 (.s 4) (.s 14), none⟩, [4]⟩,
    ⟨⟨some 5, .mv (.s 20), none⟩, []⟩])
  .ret)))⟩

/-- strings.HasSuffix -/
def sf263 : SF :=
  ⟨2, 8, [.t 4],
  (.seq (.reg [⟨some 4, .mv (.c (.bool false)), none⟩])
  (.seq (.reg [⟨some 5, .mv (.s 0), none⟩,
    ⟨some 6, .mv (.s 1), none⟩,
    ⟨some 7, .call 271 [(.s 5), (.s 6)], none⟩,
    ⟨some 4, .mv (.s 7), none⟩])
  .ret))⟩

/-- sumpter/merge.same -/
def sf264 : SF :=
  ⟨2, 10, [.t 4],
  (.seq (.reg [⟨some 2, .box (some 0) 3 (.s 0), none⟩,
    ⟨some 3, .box (some 1) 3 (.s 1), none⟩,
    ⟨some 4, .mv (.c (.bool false)), none⟩])
  (.seq (.reg [⟨some 5, .load true 3 (.s 2), none⟩,
    ⟨some 6, .bslice 3 [(.s 5)], none⟩,
    ⟨some 7, .load true 3 (.s 3), none⟩,
    ⟨some 8, .bslice 3 [(.s 7)], none⟩,
    ⟨some 9, .call 162 [(.s 6), (.s 8)], none⟩,
    ⟨some 4, .mv (.s 9), none⟩])
  .ret))⟩

/-- (sumpter/merge.known).blocked -/
def sf265 : SF :=
  ⟨2, 26, [.t 4],
  (.seq (.reg [⟨some 4, .mv (.c (.bool false)), none⟩])
  (.seq (.seq (.reg [⟨some 8, .mv (.s 1), none⟩,
    ⟨some 9, .call 164 [(.s 8)], none⟩,
    ⟨some 5, .mv (.s 9), none⟩])
  (.block 0 (.loop (.seq (.seq (.reg [⟨some 10, .mv (.s 5), none⟩,
    ⟨some 11, .str .neq (.s 10) (.c (.string ⟨#[]⟩)), none⟩])
  (.cond (.s 11) .skip
  (.exit 0)))
  (.seq (.block 1 (.seq (.reg [⟨some 15, .mv (.s 0), none⟩,
    ⟨some 16, .mv (.s 5), none⟩,
    ⟨some 17, .hop (.m (.lkp true true true [.v (.string ⟨#[]⟩), .v (.bool false), .v (.slice none 0 0)])) [(.s 15), (.s 16)], none⟩,
    ⟨some 14, .mv (.s 17), none⟩,
    ⟨some 18, .ext (.s 14) 0, none⟩,
    ⟨some 19, .ext (.s 14) 1, none⟩,
    ⟨some 6, .alloc (some 0) [.v (.string ⟨#[]⟩), .v (.bool false), .v (.slice none 0 0)], none⟩,
    ⟨none, .store 3 (.s 6) (.s 18), none⟩,
    ⟨some 7, .mv (.s 19), none⟩])
  (.seq (.reg [⟨some 20, .mv (.s 7), none⟩,
    ⟨some 21, .mv (.s 20), none⟩,
    ⟨some 22, .fld 1 (.s 6), (some (21, true))⟩,
    ⟨some 23, .load false 1 (.s 22), (some (21, true))⟩,
    ⟨some 24, .not (.s 23), (some (21, true))⟩,
    ⟨some 25, .pick (.s 21) (.s 24) (.c (.bool false)), none⟩])
  (.cond (.s 25) (.seq (.reg [⟨some 4, .mv (.c (.bool true)), none⟩])
  .ret)
  .skip))))
  (.reg [⟨some 12, .mv (.s 5), none⟩,
    ⟨some 13, .call 164 [(.s 12)], none⟩,
    ⟨some 5, .mv (.s 13), none⟩]))))))
  (.seq (.reg [⟨some 4, .mv (.c (.bool false)), none⟩])
  .ret)))⟩

/-- (sumpter/merge.known).file -/
def sf266 : SF :=
  ⟨3, 27, [.t 6],
  (.seq (.reg [⟨some 6, .mv (.c (.bool false)), none⟩])
  (.seq (.reg [⟨some 10, .mv (.s 0), none⟩,
    ⟨some 11, .mv (.s 1), none⟩,
    ⟨some 12, .hop (.m (.lkp true true true [.v (.string ⟨#[]⟩), .v (.bool false), .v (.slice none 0 0)])) [(.s 10), (.s 11)], none⟩,
    ⟨some 9, .mv (.s 12), none⟩,
    ⟨some 13, .ext (.s 9) 0, none⟩,
    ⟨some 14, .ext (.s 9) 1, none⟩,
    ⟨some 7, .alloc (some 0) [.v (.string ⟨#[]⟩), .v (.bool false), .v (.slice none 0 0)], none⟩,
    ⟨none, .store 3 (.s 7) (.s 13), none⟩,
    ⟨some 8, .mv (.s 14), none⟩])
  (.seq (.reg [⟨some 15, .mv (.s 8), none⟩,
    ⟨some 16, .mv (.s 15), none⟩,
    ⟨some 17, .fld 1 (.s 7), (some (16, true))⟩,
    ⟨some 18, .load false 1 (.s 17), (some (16, true))⟩,
    ⟨some 19, .not (.s 18), (some (16, true))⟩,
    ⟨some 20, .pick (.s 16) (.s 19) (.c (.bool false)), none⟩,
    ⟨some 21, .mv (.s 20), none⟩,
    ⟨some 22, .fld 2 (.s 7), (some (21, true))⟩,
    ⟨some 23, .load false 1 (.s 22), (some (21, true))⟩,
    ⟨some 24, .mv (.s 2), (some (21, true))⟩,
    ⟨some 25, .call 194 [(.s 23), (.s 24)], (some (21, true))⟩,
    ⟨some 26, .pick (.s 21) (.s 25) (.c (.bool false)), none⟩,
    ⟨some 6, .mv (.s 26), none⟩])
  .ret)))⟩

/-- (sumpter/merge.known).dir -/
def sf267 : SF :=
  ⟨2, 22, [.t 4],
  (.seq (.reg [⟨some 4, .mv (.c (.bool false)), none⟩])
  (.seq (.reg [⟨some 8, .mv (.s 0), none⟩,
    ⟨some 9, .mv (.s 1), none⟩,
    ⟨some 10, .hop (.m (.lkp true true true [.v (.string ⟨#[]⟩), .v (.bool false), .v (.slice none 0 0)])) [(.s 8), (.s 9)], none⟩,
    ⟨some 7, .mv (.s 10), none⟩,
    ⟨some 11, .ext (.s 7) 0, none⟩,
    ⟨some 12, .ext (.s 7) 1, none⟩,
    ⟨some 5, .alloc (some 0) [.v (.string ⟨#[]⟩), .v (.bool false), .v (.slice none 0 0)], none⟩,
    ⟨none, .store 3 (.s 5) (.s 11), none⟩,
    ⟨some 6, .mv (.s 12), none⟩])
  (.seq (.reg [⟨some 13, .mv (.s 1), none⟩,
    ⟨some 14, .str .eql (.s 13) (.c (.string ⟨#[]⟩)), none⟩,
    ⟨some 15, .mv (.s 14), none⟩,
    ⟨some 16, .mv (.s 6), (some (15, false))⟩,
    ⟨some 17, .mv (.s 16), (some (15, false))⟩,
    ⟨some 18, .fld 1 (.s 5), (some (17, true))⟩,
    ⟨some 19, .load false 1 (.s 18), (some (17, true))⟩,
    ⟨some 20, .pick (.s 17) (.s 19) (.c (.bool false)), (some (15, false))⟩,
    ⟨some 21, .pick (.s 15) (.c (.bool true)) (.s 20), none⟩,
    ⟨some 4, .mv (.s 21), none⟩])
  .ret)))⟩

/-- sumpter/sumpterref09.blocked -/
def sf270 : SF :=
  ⟨2, 26, [.t 4],
  (.seq (.reg [⟨some 4, .mv (.c (.bool false)), none⟩])
  (.seq (.seq (.reg [⟨some 5, .mv (.c (.int .i64 0)), none⟩])
  (.block 0 (.loop (.seq (.seq (.reg [⟨some 8, .mv (.s 5), none⟩,
    ⟨some 9, .int .lss (.s 8) (.c (.int .i64 8)), none⟩])
  (.cond (.s 9) .skip
  (.exit 0)))
  (.seq (.block 1 (.seq (.reg [⟨some 12, .mv (.s 1), none⟩,
    ⟨some 13, .call 170 [(.s 12)], none⟩,
    ⟨some 1, .mv (.s 13), none⟩])
  (.seq (.reg [⟨some 15, .mv (.s 0), none⟩,
    ⟨some 16, .mv (.s 1), none⟩,
    ⟨some 17, .call 151 [(.s 15), (.s 16)], none⟩,
    ⟨some 14, .mv (.s 17), none⟩,
    ⟨some 18, .ext (.s 14) 0, none⟩,
    ⟨some 19, .ext (.s 14) 1, none⟩,
    ⟨some 6, .alloc (some 0) [.v (.string ⟨#[]⟩), .v (.bool false), .v (.slice none 0 0)], none⟩,
    ⟨none, .store 3 (.s 6) (.s 18), none⟩,
    ⟨some 7, .mv (.s 19), none⟩])
  (.seq (.reg [⟨some 20, .mv (.s 7), none⟩,
    ⟨some 21, .mv (.s 20), none⟩,
    ⟨some 22, .fld 1 (.s 6), (some (21, true))⟩,
    ⟨some 23, .load false 1 (.s 22), (some (21, true))⟩,
    ⟨some 24, .not (.s 23), (some (21, true))⟩,
    ⟨some 25, .pick (.s 21) (.s 24) (.c (.bool false)), none⟩])
  (.cond (.s 25) (.seq (.reg [⟨some 4, .mv (.c (.bool true)), none⟩])
  .ret)
  .skip)))))
  (.reg [⟨some 10, .mv (.s 5), none⟩,
    ⟨some 11, .int .add (.s 10) (.c (.int .i64 1)), none⟩,
    ⟨some 5, .mv (.s 11), none⟩]))))))
  (.seq (.reg [⟨some 4, .mv (.c (.bool false)), none⟩])
  .ret)))⟩

/-- internal/stringslite.HasSuffix -/
def sf271 : SF :=
  ⟨2, 21, [.t 4],
  (.seq (.reg [⟨some 4, .mv (.c (.bool false)), none⟩])
  (.seq (.reg [⟨some 5, .mv (.s 0), none⟩,
    ⟨some 6, .slen (.s 5), none⟩,
    ⟨some 7, .mv (.s 1), none⟩,
    ⟨some 8, .slen (.s 7), none⟩,
    ⟨some 9, .int .geq (.s 6) (.s 8), none⟩,
    ⟨some 10, .mv (.s 9), none⟩,
    ⟨some 11, .mv (.s 0), (some (10, true))⟩,
    ⟨some 12, .mv (.s 0), (some (10, true))⟩,
    ⟨some 13, .slen (.s 12), (some (10, true))⟩,
    ⟨some 14, .mv (.s 1), (some (10, true))⟩,
    ⟨some 15, .slen (.s 14), (some (10, true))⟩,
    ⟨some 16, .int .sub (.s 13) (.s 15), (some (10, true))⟩,
    ⟨some 17, .ssl (.s 11) (some (.s 16)) none, (some (10, true))⟩,
    ⟨some 18, .mv (.s 1), (some (10, true))⟩,
    ⟨some 19, .str .eql (.s 17) (.s 18), (some (10, true))⟩,
    ⟨some 20, .pick (.s 10) (.s 19) (.c (.bool false)), none⟩,
    ⟨some 4, .mv (.s 20), none⟩])
  .ret))⟩

/-- sumpter/sumpterlaw09.MergeWants -/
def sf288 : SF :=
  ⟨3, 69, [.t 6],
  (.seq (.reg [⟨some 5, .box (some 0) 2 (.s 2), none⟩,
    ⟨some 6, .mv (.c (.bool false)), none⟩])
  (.seq (.seq (.reg [⟨some 15, .mv (.s 0), none⟩,
    ⟨some 16, .mv (.s 1), none⟩,
    ⟨some 17, .call 233 [(.s 15), (.s 16)], none⟩,
    ⟨some 18, .not (.s 17), none⟩])
  (.cond (.s 18) (.seq (.reg [⟨some 19, .call 234 [], none⟩,
    ⟨some 6, .mv (.s 19), none⟩])
  .ret)
  .skip))
  (.seq (.reg [⟨some 21, .mv (.s 0), none⟩,
    ⟨some 22, .mv (.s 1), none⟩,
    ⟨some 23, .load true 2 (.s 5), none⟩,
    ⟨some 24, .call 235 [(.s 21), (.s 22), (.s 23)], none⟩,
    ⟨some 20, .mv (.s 24), none⟩,
    ⟨some 25, .ext (.s 20) 0, none⟩,
    ⟨some 26, .ext (.s 20) 1, none⟩,
    ⟨some 7, .mv (.s 25), none⟩,
    ⟨some 8, .mv (.s 26), none⟩])
  (.seq (.reg [⟨some 28, .mv (.s 0), none⟩,
    ⟨some 29, .mv (.s 1), none⟩,
    ⟨some 30, .load true 2 (.s 5), none⟩,
    ⟨some 31, .call 236 [(.s 28), (.s 29), (.s 30)], none⟩,
    ⟨some 27, .mv (.s 31), none⟩,
    ⟨some 32, .ext (.s 27) 0, none⟩,
    ⟨some 33, .ext (.s 27) 1, none⟩,
    ⟨some 9, .mv (.s 32), none⟩,
    ⟨some 10, .mv (.s 33), none⟩])
  (.seq (.reg [⟨some 35, .mv (.s 0), none⟩,
    ⟨some 36, .mv (.s 1), none⟩,
    ⟨some 37, .load true 2 (.s 5), none⟩,
    ⟨some 38, .call 237 [(.s 35), (.s 36), (.s 37)], none⟩,
    ⟨some 34, .mv (.s 38), none⟩,
    ⟨some 39, .ext (.s 34) 0, none⟩,
    ⟨some 40, .ext (.s 34) 1, none⟩,
    ⟨some 11, .mv (.s 39), none⟩,
    ⟨some 12, .mv (.s 40), none⟩])
  (.seq (.reg [⟨some 42, .mv (.s 0), none⟩,
    ⟨some 43, .mv (.s 1), none⟩,
    ⟨some 44, .load true 2 (.s 5), none⟩,
    ⟨some 45, .call 238 [(.s 42), (.s 43), (.s 44)], none⟩,
    ⟨some 41, .mv (.s 45), none⟩,
    ⟨some 46, .ext (.s 41) 0, none⟩,
    ⟨some 47, .ext (.s 41) 1, none⟩,
    ⟨some 13, .mv (.s 46), none⟩,
    ⟨some 14, .mv (.s 47), none⟩])
  (.seq (.reg [⟨some 48, .mv (.s 7), none⟩,
    ⟨some 49, .mv (.s 9), none⟩,
    ⟨some 50, .call 160 [(.s 48), (.s 49)], none⟩,
    ⟨some 51, .mv (.s 50), none⟩,
    ⟨some 52, .mv (.s 8), (some (51, true))⟩,
    ⟨some 53, .mv (.s 10), (some (51, true))⟩,
    ⟨some 54, .int .eql (.s 52) (.s 53), (some (51, true))⟩,
    ⟨some 55, .pick (.s 51) (.s 54) (.c (.bool false)), none⟩,
    ⟨some 56, .mv (.s 55), none⟩,
    ⟨some 57, .mv (.s 11), (some (56, true))⟩,
    ⟨some 58, .mv (.s 13), (some (56, true))⟩,
    ⟨some 59, .call 239 [(.s 57), (.s 58)], (some (56, true))⟩,
    ⟨some 60, .pick (.s 56) (.s 59) (.c (.bool false)), none⟩,
    ⟨some 61, .mv (.s 60), none⟩,
    ⟨some 62, .mv (.s 12), (some (61, true))⟩,
    ⟨some 63, .mv (.s 14), (some (61, true))⟩,
    ⟨some 64, .int .eql (.s 62) (.s 63), (some (61, true))⟩,
    ⟨some 65, .pick (.s 61) (.s 64) (.c (.bool false)), none⟩,
    ⟨some 66, .mv (.s 65), none⟩,
    ⟨some 67, .call 234 [], (some (66, true))⟩,
    ⟨some 68, .pick (.s 66) (.s 67) (.c (.bool false)), none⟩,
    ⟨some 6, .mv (.s 68), none⟩])
  .ret)))))))⟩

/-- sumpter/sumpterlaw09.MergeReaches -/
def sf289 : SF :=
  ⟨3, 109, [.t 6],
  (.seq (.reg [⟨some 5, .box (some 0) 2 (.s 2), none⟩,
    ⟨some 6, .mv (.c (.bool false)), none⟩])
  (.seq (.seq (.reg [⟨some 15, .mv (.s 0), none⟩,
    ⟨some 16, .call 148 [(.s 15), (.c (.int .i64 40)), (.c (.int .i64 2000))], none⟩,
    ⟨some 17, .not (.s 16), none⟩,
    ⟨some 18, .mv (.s 17), none⟩,
    ⟨some 19, .mv (.s 1), (some (18, false))⟩,
    ⟨some 20, .call 148 [(.s 19), (.c (.int .i64 40)), (.c (.int .i64 2000))], (some (18, false))⟩,
    ⟨some 21, .not (.s 20), (some (18, false))⟩,
    ⟨some 22, .pick (.s 18) (.c (.bool true)) (.s 21), none⟩])
  (.cond (.s 22) (.seq (.reg [⟨some 23, .call 234 [], none⟩,
    ⟨some 6, .mv (.s 23), none⟩])
  .ret)
  .skip))
  (.seq (.reg [⟨some 25, .mv (.s 0), none⟩,
    ⟨some 26, .mv (.s 1), none⟩,
    ⟨some 27, .load true 2 (.s 5), none⟩,
    ⟨some 28, .call 235 [(.s 25), (.s 26), (.s 27)], none⟩,
    ⟨some 24, .mv (.s 28), none⟩,
    ⟨some 29, .ext (.s 24) 0, none⟩,
    ⟨some 30, .ext (.s 24) 1, none⟩,
    ⟨some 7, .mv (.s 29), none⟩,
    ⟨some 8, .mv (.s 30), none⟩])
  (.seq (.reg [⟨some 32, .mv (.s 0), none⟩,
    ⟨some 33, .mv (.s 1), none⟩,
    ⟨some 34, .load true 2 (.s 5), none⟩,
    ⟨some 35, .call 237 [(.s 32), (.s 33), (.s 34)], none⟩,
    ⟨some 31, .mv (.s 35), none⟩,
    ⟨some 36, .ext (.s 31) 0, none⟩,
    ⟨some 37, .ext (.s 31) 1, none⟩,
    ⟨some 9, .mv (.s 36), none⟩,
    ⟨some 10, .mv (.s 37), none⟩])
  (.seq (.seq (.reg [⟨some 38, .mv (.s 8), none⟩,
    ⟨some 39, .int .neq (.s 38) (.c (.int .i64 0)), none⟩])
  (.cond (.s 39) (.seq (.reg [⟨some 40, .mv (.s 8), none⟩,
    ⟨some 41, .mv (.s 10), none⟩,
    ⟨some 42, .int .eql (.s 40) (.s 41), none⟩,
    ⟨some 43, .mv (.s 42), none⟩,
    ⟨some 44, .mv (.s 7), (some (43, true))⟩,
    ⟨some 45, .len (.s 44), (some (43, true))⟩,
    ⟨some 46, .mv (.s 9), (some (43, true))⟩,
    ⟨some 47, .len (.s 46), (some (43, true))⟩,
    ⟨some 48, .int .add (.s 45) (.s 47), (some (43, true))⟩,
    ⟨some 49, .int .eql (.s 48) (.c (.int .i64 0)), (some (43, true))⟩,
    ⟨some 50, .pick (.s 43) (.s 49) (.c (.bool false)), none⟩,
    ⟨some 51, .mv (.s 50), none⟩,
    ⟨some 52, .call 234 [], (some (51, true))⟩,
    ⟨some 53, .pick (.s 51) (.s 52) (.c (.bool false)), none⟩,
    ⟨some 6, .mv (.s 53), none⟩])
  .ret)
  .skip))
  (.seq (.reg [⟨some 54, .mv (.s 1), none⟩,
    ⟨some 11, .mv (.s 54), none⟩])
  (.seq (.seq (.reg [⟨some 12, .mv (.c (.int .i64 0)), none⟩])
  (.block 0 (.loop (.seq (.seq (.reg [⟨some 55, .mv (.s 12), none⟩,
    ⟨some 56, .mv (.s 9), none⟩,
    ⟨some 57, .len (.s 56), none⟩,
    ⟨some 58, .int .lss (.s 55) (.s 57), none⟩])
  (.cond (.s 58) .skip
  (.exit 0)))
  (.seq (.block 1 (.seq (.reg [⟨some 62, .mv (.s 11), none⟩,
    ⟨some 63, .mv (.s 9), none⟩,
    ⟨some 64, .mv (.s 12), none⟩,
    ⟨some 65, .idx 3 (.s 63) (.s 64), none⟩,
    ⟨some 66, .load true 3 (.s 65), none⟩,
    ⟨some 67, .mv (.s 0), none⟩,
    ⟨some 68, .call 240 [(.s 62), (.s 66), (.s 67)], none⟩,
    ⟨some 61, .mv (.s 68), none⟩,
    ⟨some 69, .ext (.s 61) 0, none⟩,
    ⟨some 70, .ext (.s 61) 1, none⟩,
    ⟨some 13, .mv (.s 69), none⟩,
    ⟨some 14, .mv (.s 70), none⟩])
  (.seq (.seq (.reg [⟨some 71, .mv (.s 14), none⟩,
    ⟨some 72, .int .eql (.s 71) (.c (.int .i64 5)), none⟩,
    ⟨some 73, .mv (.s 72), none⟩,
    ⟨some 74, .mv (.s 11), (some (73, true))⟩,
    ⟨some 75, .len (.s 74), (some (73, true))⟩,
    ⟨some 76, .int .geq (.s 75) (.c (.int .i64 64)), (some (73, true))⟩,
    ⟨some 77, .pick (.s 73) (.s 76) (.c (.bool false)), none⟩])
  (.cond (.s 77) (.seq (.reg [⟨some 78, .call 234 [], none⟩,
    ⟨some 6, .mv (.s 78), none⟩])
  .ret)
  .skip))
  (.seq (.seq (.reg [⟨some 79, .mv (.s 14), none⟩,
    ⟨some 80, .int .neq (.s 79) (.c (.int .i64 0)), none⟩,
    ⟨some 81, .mv (.s 80), none⟩,
    ⟨some 82, .mv (.s 13), (some (81, false))⟩,
    ⟨some 83, .call 161 [(.s 82)], (some (81, false))⟩,
    ⟨some 84, .int .neq (.s 83) (.c (.int .i64 0)), (some (81, false))⟩,
    ⟨some 85, .pick (.s 81) (.c (.bool true)) (.s 84), none⟩])
  (.cond (.s 85) (.seq (.reg [⟨some 6, .mv (.c (.bool false)), none⟩])
  .ret)
  .skip))
  (.seq (.seq (.reg [⟨some 86, .mv (.s 1), none⟩,
    ⟨some 87, .mv (.s 7), none⟩,
    ⟨some 88, .mv (.s 13), none⟩,
    ⟨some 89, .call 241 [(.s 86), (.s 87), (.s 88)], none⟩,
    ⟨some 90, .not (.s 89), none⟩,
    ⟨some 91, .mv (.s 90), none⟩,
    ⟨some 92, .mv (.s 7), (some (91, false))⟩,
    ⟨some 93, .mv (.s 1), (some (91, false))⟩,
    ⟨some 94, .mv (.s 13), (some (91, false))⟩,
    ⟨some 95, .call 241 [(.s 92), (.s 93), (.s 94)], (some (91, false))⟩,
    ⟨some 96, .not (.s 95), (some (91, false))⟩,
    ⟨some 97, .pick (.s 91) (.c (.bool true)) (.s 96), none⟩])
  (.cond (.s 97) (.seq (.reg [⟨some 6, .mv (.c (.bool false)), none⟩])
  .ret)
  .skip))
  (.reg [⟨some 98, .mv (.s 13), none⟩,
    ⟨some 11, .mv (.s 98), none⟩]))))))
  (.reg [⟨some 59, .mv (.s 12), none⟩,
    ⟨some 60, .int .add (.s 59) (.c (.int .i64 1)), none⟩,
    ⟨some 12, .mv (.s 60), none⟩]))))))
  (.seq (.reg [⟨some 99, .mv (.s 10), none⟩,
    ⟨some 100, .int .eql (.s 99) (.c (.int .i64 0)), none⟩,
    ⟨some 101, .mv (.s 100), none⟩,
    ⟨some 102, .mv (.s 11), (some (101, true))⟩,
    ⟨some 103, .mv (.s 7), (some (101, true))⟩,
    ⟨some 104, .call 162 [(.s 102), (.s 103)], (some (101, true))⟩,
    ⟨some 105, .pick (.s 101) (.s 104) (.c (.bool false)), none⟩,
    ⟨some 106, .mv (.s 105), none⟩,
    ⟨some 107, .call 234 [], (some (106, true))⟩,
    ⟨some 108, .pick (.s 106) (.s 107) (.c (.bool false)), none⟩,
    ⟨some 6, .mv (.s 108), none⟩])
  .ret))))))))⟩

/-- sumpter/sumpterlaw09.MergeAgain -/
def sf290 : SF :=
  ⟨3, 100, [.t 6],
  (.seq (.reg [⟨some 5, .box (some 0) 2 (.s 2), none⟩,
    ⟨some 6, .mv (.c (.bool false)), none⟩])
  (.seq (.seq (.reg [⟨some 16, .mv (.s 0), none⟩,
    ⟨some 17, .call 148 [(.s 16), (.c (.int .i64 40)), (.c (.int .i64 2000))], none⟩,
    ⟨some 18, .not (.s 17), none⟩,
    ⟨some 19, .mv (.s 18), none⟩,
    ⟨some 20, .mv (.s 1), (some (19, false))⟩,
    ⟨some 21, .call 148 [(.s 20), (.c (.int .i64 40)), (.c (.int .i64 2000))], (some (19, false))⟩,
    ⟨some 22, .not (.s 21), (some (19, false))⟩,
    ⟨some 23, .pick (.s 19) (.c (.bool true)) (.s 22), none⟩])
  (.cond (.s 23) (.seq (.reg [⟨some 24, .call 234 [], none⟩,
    ⟨some 6, .mv (.s 24), none⟩])
  .ret)
  .skip))
  (.seq (.reg [⟨some 26, .mv (.s 0), none⟩,
    ⟨some 27, .mv (.s 1), none⟩,
    ⟨some 28, .load true 2 (.s 5), none⟩,
    ⟨some 29, .call 235 [(.s 26), (.s 27), (.s 28)], none⟩,
    ⟨some 25, .mv (.s 29), none⟩,
    ⟨some 30, .ext (.s 25) 0, none⟩,
    ⟨some 31, .ext (.s 25) 1, none⟩,
    ⟨some 7, .mv (.s 30), none⟩,
    ⟨some 8, .mv (.s 31), none⟩])
  (.seq (.seq (.reg [⟨some 32, .mv (.s 8), none⟩,
    ⟨some 33, .int .neq (.s 32) (.c (.int .i64 0)), none⟩])
  (.cond (.s 33) (.seq (.reg [⟨some 34, .call 234 [], none⟩,
    ⟨some 6, .mv (.s 34), none⟩])
  .ret)
  .skip))
  (.seq (.seq (.reg [⟨some 9, .mv (.c (.int .i64 0)), none⟩])
  (.block 0 (.loop (.seq (.seq (.reg [⟨some 35, .mv (.s 9), none⟩,
    ⟨some 36, .mv (.s 0), none⟩,
    ⟨some 37, .len (.s 36), none⟩,
    ⟨some 38, .int .lss (.s 35) (.s 37), none⟩])
  (.cond (.s 38) .skip
  (.exit 0)))
  (.seq (.block 1 (.seq (.reg [⟨some 42, .mv (.s 7), none⟩,
    ⟨some 43, .mv (.s 0), none⟩,
    ⟨some 44, .mv (.s 9), none⟩,
    ⟨some 45, .idx 3 (.s 43) (.s 44), none⟩,
    ⟨some 46, .fld 0 (.s 45), none⟩,
    ⟨some 47, .load false 1 (.s 46), none⟩,
    ⟨some 48, .call 150 [(.s 42), (.s 47)], none⟩,
    ⟨some 41, .mv (.s 48), none⟩,
    ⟨some 49, .ext (.s 41) 0, none⟩,
    ⟨some 50, .ext (.s 41) 1, none⟩,
    ⟨some 10, .alloc (some 1) [.v (.string ⟨#[]⟩), .v (.bool false), .v (.slice none 0 0)], none⟩,
    ⟨none, .store 3 (.s 10) (.s 49), none⟩,
    ⟨some 11, .mv (.s 50), none⟩])
  (.seq (.dreg [0, 1, 2, 4, 5, 6, 3, 7, 8, 9, 10] [⟨⟨some 51, .mv (.s 11), none⟩, []⟩,
    ⟨⟨some 52, .not (.s 51), none⟩, []⟩,
    ⟨⟨some 53, .mv (.s 52), none⟩, []⟩,
    ⟨⟨some 55, .mv (.s 0), (some (53, false))⟩, []⟩,
    ⟨⟨some 56, .mv (.s 9), (some (53, false))⟩, []⟩,
    ⟨⟨some 57, .idx 3 (.s 55) (.s 56), (some (53, false))⟩, []⟩,
    ⟨⟨some 54, .load true 3 (.s 10), (some (53, false))⟩, []⟩,
    ⟨⟨some 58, .load true 3 (.s 57), (some (53, false))⟩, []⟩,
    ⟨⟨some 59, .call 154 [(.s 54), (.s 58)], (some (53, false))⟩, []⟩,
    ⟨⟨some 60, .not (.s 59), (some (53, false))⟩, []⟩,
    ⟨⟨some 61, .pick (.s 53) (.c (.bool true)) (.s 60), none⟩, []⟩])
  (.cond (.s 61) (.seq (.reg [⟨some 6, .mv (.c (.bool false)), none⟩])
  .ret)
  .skip))))
  (.reg [⟨some 39, .mv (.s 9), none⟩,
    ⟨some 40, .int .add (.s 39) (.c (.int .i64 1)), none⟩,
    ⟨some 9, .mv (.s 40), none⟩]))))))
  (.seq (.reg [⟨some 63, .mv (.s 0), none⟩,
    ⟨some 64, .mv (.s 7), none⟩,
    ⟨some 65, .build [.v (.bool false), .v (.bool false)] [], none⟩,
    ⟨some 66, .call 235 [(.s 63), (.s 64), (.s 65)], none⟩,
    ⟨some 62, .mv (.s 66), none⟩,
    ⟨some 67, .ext (.s 62) 0, none⟩,
    ⟨some 68, .ext (.s 62) 1, none⟩,
    ⟨some 12, .mv (.s 67), none⟩,
    ⟨some 13, .mv (.s 68), none⟩])
  (.seq (.reg [⟨some 70, .mv (.s 0), none⟩,
    ⟨some 71, .mv (.s 7), none⟩,
    ⟨some 72, .build [.v (.bool false), .v (.bool false)] [], none⟩,
    ⟨some 73, .call 237 [(.s 70), (.s 71), (.s 72)], none⟩,
    ⟨some 69, .mv (.s 73), none⟩,
    ⟨some 74, .ext (.s 69) 0, none⟩,
    ⟨some 75, .ext (.s 69) 1, none⟩,
    ⟨some 14, .mv (.s 74), none⟩,
    ⟨some 15, .mv (.s 75), none⟩])
  (.seq (.reg [⟨some 76, .mv (.s 7), none⟩,
    ⟨some 77, .call 161 [(.s 76)], none⟩,
    ⟨some 78, .int .eql (.s 77) (.c (.int .i64 0)), none⟩,
    ⟨some 79, .mv (.s 78), none⟩,
    ⟨some 80, .mv (.s 13), (some (79, true))⟩,
    ⟨some 81, .int .eql (.s 80) (.c (.int .i64 0)), (some (79, true))⟩,
    ⟨some 82, .pick (.s 79) (.s 81) (.c (.bool false)), none⟩,
    ⟨some 83, .mv (.s 82), none⟩,
    ⟨some 84, .mv (.s 15), (some (83, true))⟩,
    ⟨some 85, .int .eql (.s 84) (.c (.int .i64 0)), (some (83, true))⟩,
    ⟨some 86, .pick (.s 83) (.s 85) (.c (.bool false)), none⟩,
    ⟨some 87, .mv (.s 86), none⟩,
    ⟨some 88, .mv (.s 12), (some (87, true))⟩,
    ⟨some 89, .mv (.s 7), (some (87, true))⟩,
    ⟨some 90, .call 162 [(.s 88), (.s 89)], (some (87, true))⟩,
    ⟨some 91, .pick (.s 87) (.s 90) (.c (.bool false)), none⟩,
    ⟨some 92, .mv (.s 91), none⟩,
    ⟨some 93, .mv (.s 14), (some (92, true))⟩,
    ⟨some 94, .len (.s 93), (some (92, true))⟩,
    ⟨some 95, .int .eql (.s 94) (.c (.int .i64 0)), (some (92, true))⟩,
    ⟨some 96, .pick (.s 92) (.s 95) (.c (.bool false)), none⟩,
    ⟨some 97, .mv (.s 96), none⟩,
    ⟨some 98, .call 234 [], (some (97, true))⟩,
    ⟨some 99, .pick (.s 97) (.s 98) (.c (.bool false)), none⟩,
    ⟨some 6, .mv (.s 99), none⟩])
  .ret))))))))⟩

/-- sumpter/sumpterlaw09.MergeDeletes -/
def sf291 : SF :=
  ⟨2, 136, [.t 4],
  (.seq (.reg [⟨some 4, .mv (.c (.bool false)), none⟩])
  (.seq (.seq (.reg [⟨some 15, .mv (.s 0), none⟩,
    ⟨some 16, .call 148 [(.s 15), (.c (.int .i64 40)), (.c (.int .i64 2000))], none⟩,
    ⟨some 17, .not (.s 16), none⟩,
    ⟨some 18, .mv (.s 17), none⟩,
    ⟨some 19, .mv (.s 1), (some (18, false))⟩,
    ⟨some 20, .call 148 [(.s 19), (.c (.int .i64 40)), (.c (.int .i64 2000))], (some (18, false))⟩,
    ⟨some 21, .not (.s 20), (some (18, false))⟩,
    ⟨some 22, .pick (.s 18) (.c (.bool true)) (.s 21), none⟩,
    ⟨some 23, .mv (.s 22), none⟩,
    ⟨some 24, .mv (.s 0), (some (23, false))⟩,
    ⟨some 25, .call 161 [(.s 24)], (some (23, false))⟩,
    ⟨some 26, .int .neq (.s 25) (.c (.int .i64 0)), (some (23, false))⟩,
    ⟨some 27, .pick (.s 23) (.c (.bool true)) (.s 26), none⟩,
    ⟨some 28, .mv (.s 27), none⟩,
    ⟨some 29, .mv (.s 1), (some (28, false))⟩,
    ⟨some 30, .call 161 [(.s 29)], (some (28, false))⟩,
    ⟨some 31, .int .neq (.s 30) (.c (.int .i64 0)), (some (28, false))⟩,
    ⟨some 32, .pick (.s 28) (.c (.bool true)) (.s 31), none⟩])
  (.cond (.s 32) (.seq (.reg [⟨some 33, .call 234 [], none⟩,
    ⟨some 4, .mv (.s 33), none⟩])
  .ret)
  .skip))
  (.seq (.reg [⟨some 35, .mv (.s 0), none⟩,
    ⟨some 36, .mv (.s 1), none⟩,
    ⟨some 37, .build [.v (.bool false), .v (.bool false)] [(0, 1, (.c (.bool true)))], none⟩,
    ⟨some 38, .call 235 [(.s 35), (.s 36), (.s 37)], none⟩,
    ⟨some 34, .mv (.s 38), none⟩,
    ⟨some 39, .ext (.s 34) 0, none⟩,
    ⟨some 40, .ext (.s 34) 1, none⟩,
    ⟨some 5, .mv (.s 39), none⟩,
    ⟨some 6, .mv (.s 40), none⟩])
  (.seq (.reg [⟨some 42, .mv (.s 0), none⟩,
    ⟨some 43, .mv (.s 1), none⟩,
    ⟨some 44, .build [.v (.bool false), .v (.bool false)] [(0, 1, (.c (.bool true))), (1, 1, (.c (.bool true)))], none⟩,
    ⟨some 45, .call 235 [(.s 42), (.s 43), (.s 44)], none⟩,
    ⟨some 41, .mv (.s 45), none⟩,
    ⟨some 46, .ext (.s 41) 0, none⟩,
    ⟨some 47, .ext (.s 41) 1, none⟩,
    ⟨some 7, .mv (.s 46), none⟩,
    ⟨some 8, .mv (.s 47), none⟩])
  (.seq (.seq (.reg [⟨some 48, .mv (.s 6), none⟩,
    ⟨some 49, .int .neq (.s 48) (.c (.int .i64 0)), none⟩,
    ⟨some 50, .mv (.s 49), none⟩,
    ⟨some 51, .mv (.s 5), (some (50, false))⟩,
    ⟨some 52, .mv (.s 0), (some (50, false))⟩,
    ⟨some 53, .call 162 [(.s 51), (.s 52)], (some (50, false))⟩,
    ⟨some 54, .not (.s 53), (some (50, false))⟩,
    ⟨some 55, .pick (.s 50) (.c (.bool true)) (.s 54), none⟩])
  (.cond (.s 55) (.seq (.reg [⟨some 4, .mv (.c (.bool false)), none⟩])
  .ret)
  .skip))
  (.seq (.seq (.reg [⟨some 56, .mv (.s 8), none⟩,
    ⟨some 57, .int .neq (.s 56) (.c (.int .i64 0)), none⟩])
  (.cond (.s 57) (.seq (.reg [⟨some 58, .mv (.s 8), none⟩,
    ⟨some 59, .int .eql (.s 58) (.c (.int .i64 10)), none⟩,
    ⟨some 60, .mv (.s 59), none⟩,
    ⟨some 61, .call 234 [], (some (60, true))⟩,
    ⟨some 62, .pick (.s 60) (.s 61) (.c (.bool false)), none⟩,
    ⟨some 4, .mv (.s 62), none⟩])
  .ret)
  .skip))
  (.seq (.seq (.reg [⟨some 9, .mv (.c (.int .i64 0)), none⟩])
  (.block 0 (.loop (.seq (.seq (.reg [⟨some 63, .mv (.s 9), none⟩,
    ⟨some 64, .mv (.s 7), none⟩,
    ⟨some 65, .len (.s 64), none⟩,
    ⟨some 66, .int .lss (.s 63) (.s 65), none⟩])
  (.cond (.s 66) .skip
  (.exit 0)))
  (.seq (.block 1 (.seq (.reg [⟨some 70, .mv (.s 0), none⟩,
    ⟨some 71, .mv (.s 7), none⟩,
    ⟨some 72, .mv (.s 9), none⟩,
    ⟨some 73, .idx 3 (.s 71) (.s 72), none⟩,
    ⟨some 74, .fld 0 (.s 73), none⟩,
    ⟨some 75, .load false 1 (.s 74), none⟩,
    ⟨some 76, .call 150 [(.s 70), (.s 75)], none⟩,
    ⟨some 69, .mv (.s 76), none⟩,
    ⟨some 77, .ext (.s 69) 0, none⟩,
    ⟨some 78, .ext (.s 69) 1, none⟩,
    ⟨some 10, .alloc (some 0) [.v (.string ⟨#[]⟩), .v (.bool false), .v (.slice none 0 0)], none⟩,
    ⟨none, .store 3 (.s 10) (.s 77), none⟩,
    ⟨some 11, .mv (.s 78), none⟩])
  (.seq (.seq (.reg [⟨some 79, .mv (.s 11), none⟩])
  (.cond (.s 79) (.exit 1)
  .skip))
  (.seq (.reg [⟨some 80, .mv (.s 7), none⟩,
    ⟨some 81, .mv (.s 9), none⟩,
    ⟨some 82, .idx 3 (.s 80) (.s 81), none⟩,
    ⟨some 83, .fld 0 (.s 82), none⟩,
    ⟨some 84, .load false 1 (.s 83), none⟩,
    ⟨some 85, .slen (.s 84), none⟩,
    ⟨some 86, .int .sub (.s 85) (.c (.int .i64 1)), none⟩,
    ⟨some 12, .mv (.s 86), none⟩])
  (.seq (.reg [⟨some 88, .mv (.s 1), none⟩,
    ⟨some 89, .mv (.s 7), none⟩,
    ⟨some 90, .mv (.s 9), none⟩,
    ⟨some 91, .idx 3 (.s 89) (.s 90), none⟩,
    ⟨some 92, .fld 0 (.s 91), none⟩,
    ⟨some 93, .load false 1 (.s 92), none⟩,
    ⟨some 94, .mv (.s 12), none⟩,
    ⟨some 95, .ssl (.s 93) none (some (.s 94)), none⟩,
    ⟨some 96, .call 150 [(.s 88), (.s 95)], none⟩,
    ⟨some 87, .mv (.s 96), none⟩,
    ⟨some 97, .ext (.s 87) 0, none⟩,
    ⟨some 98, .ext (.s 87) 1, none⟩,
    ⟨some 13, .alloc (some 1) [.v (.string ⟨#[]⟩), .v (.bool false), .v (.slice none 0 0)], none⟩,
    ⟨none, .store 3 (.s 13) (.s 97), none⟩,
    ⟨some 14, .mv (.s 98), none⟩])
  (.seq (.dreg [0, 1, 2, 3, 4, 5, 6, 7, 8, 9, 10, 11, 12, 13, 14, 17, 18, 19, 20, 15, 16, 21, 22, 23, 24, 25, 26, 29, 30, 31, 32, 27, 33, 28, 34, 35] [⟨⟨some 99, .mv (.s 7), none⟩, []⟩,
    ⟨⟨some 100, .mv (.s 9), none⟩, []⟩,
    ⟨⟨some 101, .idx 3 (.s 99) (.s 100), none⟩, []⟩,
    ⟨⟨some 102, .fld 1 (.s 101), none⟩, []⟩,
    ⟨⟨some 103, .load false 1 (.s 102), none⟩, []⟩,
    ⟨⟨some 104, .mv (.s 103), none⟩, []⟩,
    ⟨⟨some 105, .mv (.s 14), (some (104, false))⟩, []⟩,
    ⟨⟨some 106, .not (.s 105), (some (104, false))⟩, []⟩,
    ⟨⟨some 107, .pick (.s 104) (.c (.bool true)) (.s 106), none⟩, []⟩,
    ⟨⟨some 108, .mv (.s 107), none⟩, []⟩,
    ⟨⟨some 109, .fld 1 (.s 13), (some (108, false))⟩, []⟩,
    ⟨⟨some 110, .load false 1 (.s 109), (some (108, false))⟩, []⟩,
    ⟨⟨some 111, .pick (.s 108) (.c (.bool true)) (.s 110), none⟩, []⟩,
    ⟨⟨some 112, .mv (.s 111), none⟩, []⟩,
    ⟨⟨some 113, .fld 2 (.s 13), (some (112, false))⟩, []⟩,
    ⟨⟨some 116, .mv (.s 7), (some (112, false))⟩, []⟩,
    ⟨⟨some 117, .mv (.s 9), (some (112, false))⟩, []⟩,
    ⟨⟨some 118, .idx 3 (.s 116) (.s 117), (some (112, false))⟩, []⟩,
    ⟨⟨some 119, .fld 2 (.s 118), (some (112, false))⟩, []⟩,
    ⟨⟨some 114, .load false 1 (.s 113), (some (112, false))⟩, []⟩,
    ⟨⟨some 115, .b2c (.s 114), (some (112, false))⟩, []⟩,
    ⟨⟨some 120, .load false 1 (.s 119), (some (112, false))⟩, []⟩,
    ⟨⟨some 121, .b2c (.s 120), (some (112, false))⟩, []⟩,
    ⟨⟨some 122, .str .neq (.s 115) (.s 121), (some (112, false))⟩, []⟩,
    ⟨⟨some 123, .pick (.s 112) (.c (.bool true)) (.s 122), none⟩, []⟩,
    ⟨⟨some 124, .mv (.s 123), none⟩, []⟩,
    ⟨⟨some 125, .fld 0 (.s 13), (some (124, false))⟩, []⟩,
    ⟨⟨some 128, .mv (.s 7), (some (124, false))⟩, []⟩,
    ⟨⟨some 129, .mv (.s 9), (some (124, false))⟩, []⟩,
    ⟨⟨some 130, .idx 3 (.s 128) (.s 129), (some (124, false))⟩, []⟩,
    ⟨⟨some 131, .fld 0 (.s 130), (some (124, false))⟩, []⟩,
    ⟨⟨some 126, .load false 1 (.s 125), (some (124, false))⟩, []⟩,
    ⟨⟨some 132, .load false 1 (.s 131), (some (124, false))⟩, []⟩,
    ⟨⟨some 127, .call 242 [(.s 126)], (some (124, false))⟩, [32]⟩,
    ⟨⟨some 133, .str .neq (.s 127) (.s 132), (some (124, false))⟩, []⟩,
    ⟨⟨some 134, .pick (.s 124) (.c (.bool true)) (.s 133), none⟩, []⟩])
  (.cond (.s 134) (.seq (.reg [⟨some 4, .mv (.c (.bool false)), none⟩])
  .ret)
  .skip)))))))
  (.reg [⟨some 67, .mv (.s 9), none⟩,
    ⟨some 68, .int .add (.s 67) (.c (.int .i64 1)), none⟩,
    ⟨some 9, .mv (.s 68), none⟩]))))))
  (.seq (.reg [⟨some 135, .call 234 [], none⟩,
    ⟨some 4, .mv (.s 135), none⟩])
  .ret))))))))⟩

def sfTab : List (Nat × SF) := [(148, sf148), (150, sf150), (151, sf151), (152, sf152), (153, sf153), (154, sf154), (155, sf155), (156, sf156), (157, sf157), (158, sf158), (159, sf159), (160, sf160), (161, sf161), (162, sf162), (163, sf163), (164, sf164), (166, sf166), (167, sf167), (168, sf168), (169, sf169), (170, sf170), (171, sf171), (172, sf172), (173, sf173), (174, sf174), (175, sf175), (176, sf176), (177, sf177), (178, sf178), (179, sf179), (180, sf180), (181, sf181), (182, sf182), (183, sf183), (185, sf185), (186, sf186), (187, sf187), (188, sf188), (189, sf189), (190, sf190), (191, sf191), (192, sf192), (193, sf193), (194, sf194), (195, sf195), (196, sf196), (197, sf197), (198, sf198), (199, sf199), (200, sf200), (201, sf201), (202, sf202), (203, sf203), (204, sf204), (205, sf205), (206, sf206), (208, sf208), (209, sf209), (210, sf210), (211, sf211), (212, sf212), (214, sf214), (218, sf218), (219, sf219), (221, sf221), (228, sf228), (233, sf233), (234, sf234), (235, sf235), (236, sf236), (237, sf237), (238, sf238), (239, sf239), (240, sf240), (241, sf241), (242, sf242), (243, sf243), (244, sf244), (245, sf245), (246, sf246), (247, sf247), (248, sf248), (249, sf249), (250, sf250), (251, sf251), (252, sf252), (253, sf253), (254, sf254), (255, sf255), (256, sf256), (257, sf257), (258, sf258), (259, sf259), (260, sf260), (261, sf261), (262, sf262), (263, sf263), (264, sf264), (265, sf265), (266, sf266), (267, sf267), (270, sf270), (271, sf271), (288, sf288), (289, sf289), (290, sf290), (291, sf291)]
def code (g : Nat) : SF := (lk sfTab g).getD ⟨0, 0, [], .skip⟩

theorem code148 : code 148 = sf148 := rfl
theorem code150 : code 150 = sf150 := rfl
theorem code151 : code 151 = sf151 := rfl
theorem code152 : code 152 = sf152 := rfl
theorem code153 : code 153 = sf153 := rfl
theorem code154 : code 154 = sf154 := rfl
theorem code155 : code 155 = sf155 := rfl
theorem code156 : code 156 = sf156 := rfl
theorem code157 : code 157 = sf157 := rfl
theorem code158 : code 158 = sf158 := rfl
theorem code159 : code 159 = sf159 := rfl
theorem code160 : code 160 = sf160 := rfl
theorem code161 : code 161 = sf161 := rfl
theorem code162 : code 162 = sf162 := rfl
theorem code163 : code 163 = sf163 := rfl
theorem code164 : code 164 = sf164 := rfl
theorem code166 : code 166 = sf166 := rfl
theorem code167 : code 167 = sf167 := rfl
theorem code168 : code 168 = sf168 := rfl
theorem code169 : code 169 = sf169 := rfl
theorem code170 : code 170 = sf170 := rfl
theorem code171 : code 171 = sf171 := rfl
theorem code172 : code 172 = sf172 := rfl
theorem code173 : code 173 = sf173 := rfl
theorem code174 : code 174 = sf174 := rfl
theorem code175 : code 175 = sf175 := rfl
theorem code176 : code 176 = sf176 := rfl
theorem code177 : code 177 = sf177 := rfl
theorem code178 : code 178 = sf178 := rfl
theorem code179 : code 179 = sf179 := rfl
theorem code180 : code 180 = sf180 := rfl
theorem code181 : code 181 = sf181 := rfl
theorem code182 : code 182 = sf182 := rfl
theorem code183 : code 183 = sf183 := rfl
theorem code185 : code 185 = sf185 := rfl
theorem code186 : code 186 = sf186 := rfl
theorem code187 : code 187 = sf187 := rfl
theorem code188 : code 188 = sf188 := rfl
theorem code189 : code 189 = sf189 := rfl
theorem code190 : code 190 = sf190 := rfl
theorem code191 : code 191 = sf191 := rfl
theorem code192 : code 192 = sf192 := rfl
theorem code193 : code 193 = sf193 := rfl
theorem code194 : code 194 = sf194 := rfl
theorem code195 : code 195 = sf195 := rfl
theorem code196 : code 196 = sf196 := rfl
theorem code197 : code 197 = sf197 := rfl
theorem code198 : code 198 = sf198 := rfl
theorem code199 : code 199 = sf199 := rfl
theorem code200 : code 200 = sf200 := rfl
theorem code201 : code 201 = sf201 := rfl
theorem code202 : code 202 = sf202 := rfl
theorem code203 : code 203 = sf203 := rfl
theorem code204 : code 204 = sf204 := rfl
theorem code205 : code 205 = sf205 := rfl
theorem code206 : code 206 = sf206 := rfl
theorem code208 : code 208 = sf208 := rfl
theorem code209 : code 209 = sf209 := rfl
theorem code210 : code 210 = sf210 := rfl
theorem code211 : code 211 = sf211 := rfl
theorem code212 : code 212 = sf212 := rfl
theorem code214 : code 214 = sf214 := rfl
theorem code218 : code 218 = sf218 := rfl
theorem code219 : code 219 = sf219 := rfl
theorem code221 : code 221 = sf221 := rfl
theorem code228 : code 228 = sf228 := rfl
theorem code233 : code 233 = sf233 := rfl
theorem code234 : code 234 = sf234 := rfl
theorem code235 : code 235 = sf235 := rfl
theorem code236 : code 236 = sf236 := rfl
theorem code237 : code 237 = sf237 := rfl
theorem code238 : code 238 = sf238 := rfl
theorem code239 : code 239 = sf239 := rfl
theorem code240 : code 240 = sf240 := rfl
theorem code241 : code 241 = sf241 := rfl
theorem code242 : code 242 = sf242 := rfl
theorem code243 : code 243 = sf243 := rfl
theorem code244 : code 244 = sf244 := rfl
theorem code245 : code 245 = sf245 := rfl
theorem code246 : code 246 = sf246 := rfl
theorem code247 : code 247 = sf247 := rfl
theorem code248 : code 248 = sf248 := rfl
theorem code249 : code 249 = sf249 := rfl
theorem code250 : code 250 = sf250 := rfl
theorem code251 : code 251 = sf251 := rfl
theorem code252 : code 252 = sf252 := rfl
theorem code253 : code 253 = sf253 := rfl
theorem code254 : code 254 = sf254 := rfl
theorem code255 : code 255 = sf255 := rfl
theorem code256 : code 256 = sf256 := rfl
theorem code257 : code 257 = sf257 := rfl
theorem code258 : code 258 = sf258 := rfl
theorem code259 : code 259 = sf259 := rfl
theorem code260 : code 260 = sf260 := rfl
theorem code261 : code 261 = sf261 := rfl
theorem code262 : code 262 = sf262 := rfl
theorem code263 : code 263 = sf263 := rfl
theorem code264 : code 264 = sf264 := rfl
theorem code265 : code 265 = sf265 := rfl
theorem code266 : code 266 = sf266 := rfl
theorem code267 : code 267 = sf267 := rfl
theorem code270 : code 270 = sf270 := rfl
theorem code271 : code 271 = sf271 := rfl
theorem code288 : code 288 = sf288 := rfl
theorem code289 : code 289 = sf289 := rfl
theorem code290 : code 290 = sf290 := rfl
theorem code291 : code 291 = sf291 := rfl

end Sm
