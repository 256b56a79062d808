/-
  A layer of one's own: texts Sf.
-/
import Derived.Test.YtmdfajhlofhmcaaGreatDoorSmLfA
set_option linter.unusedVariables false
set_option maxRecDepth 100000
namespace Sm
open Go

/-- (*sumpter/disk.Disk).Cut -/
def sf301 : SF :=
  ⟨3, 12, [.t 6],
  (.seq (.reg [⟨some 5, .box none 1 (.s 2), none⟩,
    ⟨some 6, .mv (.c (.int .i64 0)), none⟩])
  (.seq (.reg [⟨some 7, .mv (.s 0), none⟩,
    ⟨some 8, .mv (.s 1), none⟩,
    ⟨some 9, .mkfn 337 [(.s 5)], none⟩,
    ⟨some 10, .mkfn 338 [(.s 5)], none⟩,
    ⟨some 11, .call 339 [(.s 7), (.s 8), (.s 9), (.s 10)], none⟩,
    ⟨some 6, .mv (.s 11), none⟩])
  .ret))⟩

/-- (*sumpter/disk.Disk).Append -/
def sf302 : SF :=
  ⟨3, 12, [.t 6],
  (.seq (.reg [⟨some 3, .box none 1 (.s 0), none⟩,
    ⟨some 5, .box none 1 (.s 2), none⟩,
    ⟨some 6, .mv (.c (.int .i64 0)), none⟩])
  (.seq (.reg [⟨some 7, .load false 1 (.s 3), none⟩,
    ⟨some 8, .mv (.s 1), none⟩,
    ⟨some 9, .mkfn 340 [(.s 5), (.s 3)], none⟩,
    ⟨some 10, .mkfn 341 [(.s 5)], none⟩,
    ⟨some 11, .call 339 [(.s 7), (.s 8), (.s 9), (.s 10)], none⟩,
    ⟨some 6, .mv (.s 11), none⟩])
  .ret))⟩

/-- (*sumpter/disk.Disk).Sync -/
def sf303 : SF :=
  ⟨2, 8, [.t 4],
  (.seq (.reg [⟨some 4, .mv (.c (.int .i64 0)), none⟩])
  (.seq (.reg [⟨some 5, .mv (.s 0), none⟩,
    ⟨some 6, .mv (.s 1), none⟩,
    ⟨some 7, .call 339 [(.s 5), (.s 6), (.f 342), (.f 343)], none⟩,
    ⟨some 4, .mv (.s 7), none⟩])
  .ret))⟩

/-- (*sumpter/disk.Disk).SyncDirs -/
def sf304 : SF :=
  ⟨1, 12, [.t 2],
  (.seq (.reg [⟨some 1, .box none 1 (.s 0), none⟩,
    ⟨some 2, .mv (.c (.int .i64 0)), none⟩])
  (.seq (.seq (.reg [⟨some 4, .load false 1 (.s 1), none⟩,
    ⟨some 5, .call 333 [(.s 4), (.c (.slice none 0 0))], none⟩,
    ⟨some 3, .mv (.s 5), none⟩])
  (.seq (.reg [⟨some 6, .mv (.s 3), none⟩,
    ⟨some 7, .int .neq (.s 6) (.c (.int .i64 0)), none⟩])
  (.cond (.s 7) (.seq (.reg [⟨some 8, .mv (.s 3), none⟩,
    ⟨some 2, .mv (.s 8), none⟩])
  .ret)
  .skip)))
  (.seq (.reg [⟨some 9, .load false 1 (.s 1), none⟩,
    ⟨some 10, .mkfn 344 [(.s 1)], none⟩,
    ⟨some 11, .call 335 [(.s 9), (.s 10)], none⟩,
    ⟨some 2, .mv (.s 11), none⟩])
  .ret)))⟩

/-- (*sumpter/disk.Disk).Safe -/
def sf305 : SF :=
  ⟨2, 21, [.t 4],
  (.seq (.reg [⟨some 4, .mv (.c (.int .i64 0)), none⟩])
  (.seq (.seq (.reg [⟨some 7, .mv (.s 0), none⟩,
    ⟨some 8, .eq .ptr false (.s 7) (.c (.pointer none)), none⟩])
  (.cond (.s 8) (.seq (.reg [⟨some 4, .mv (.c (.int .i64 0)), none⟩])
  .ret)
  .skip))
  (.seq (.reg [⟨some 10, .mv (.s 0), none⟩,
    ⟨some 11, .mv (.s 1), none⟩,
    ⟨some 12, .call 332 [(.s 10), (.s 11)], none⟩,
    ⟨some 9, .mv (.s 12), none⟩,
    ⟨some 13, .ext (.s 9) 0, none⟩,
    ⟨some 14, .ext (.s 9) 1, none⟩,
    ⟨some 5, .mv (.s 13), none⟩,
    ⟨some 6, .mv (.s 14), none⟩])
  (.seq (.seq (.reg [⟨some 15, .mv (.s 6), none⟩,
    ⟨some 16, .int .neq (.s 15) (.c (.int .i64 0)), none⟩])
  (.cond (.s 16) (.seq (.reg [⟨some 4, .mv (.c (.int .i64 0)), none⟩])
  .ret)
  .skip))
  (.seq (.reg [⟨some 17, .mv (.s 5), none⟩,
    ⟨some 18, .nilc (.s 17), none⟩,
    ⟨some 19, .fld 1 (.s 18), none⟩,
    ⟨some 20, .load false 1 (.s 19), none⟩,
    ⟨some 4, .mv (.s 20), none⟩])
  .ret)))))⟩

/-- sumpter/sumpterlaw14.same -/
def sf306 : SF :=
  ⟨3, 114, [.t 6],
  (.seq (.reg [⟨some 4, .box (some 0) 9 (.s 1), none⟩,
    ⟨some 6, .mv (.c (.bool false)), none⟩])
  (.seq (.reg [⟨some 17, .mv (.s 0), none⟩,
    ⟨some 18, .mv (.s 2), none⟩,
    ⟨some 19, .call 300 [(.s 17), (.s 18)], none⟩,
    ⟨some 16, .mv (.s 19), none⟩,
    ⟨some 20, .ext (.s 16) 0, none⟩,
    ⟨some 21, .ext (.s 16) 1, none⟩,
    ⟨some 7, .mv (.s 20), none⟩,
    ⟨some 8, .mv (.s 21), none⟩])
  (.seq (.reg [⟨some 23, .load true 9 (.s 4), none⟩,
    ⟨some 24, .mv (.s 2), none⟩,
    ⟨some 25, .call 345 [(.s 23), (.s 24)], none⟩,
    ⟨some 22, .mv (.s 25), none⟩,
    ⟨some 26, .ext (.s 22) 0, none⟩,
    ⟨some 27, .ext (.s 22) 1, none⟩,
    ⟨some 9, .mv (.s 26), none⟩,
    ⟨some 10, .mv (.s 27), none⟩])
  (.seq (.reg [⟨some 28, .mv (.s 0), none⟩,
    ⟨some 29, .call 312 [(.s 28)], none⟩,
    ⟨some 11, .mv (.s 29), none⟩])
  (.seq (.dreg [0, 2, 1, 3, 4, 5, 6, 7, 8, 9, 10, 11, 12, 13, 14, 15, 16, 18, 17, 19, 20, 21, 22, 23, 25, 26, 24, 27, 28, 29, 30, 32, 33, 31, 34, 35, 36, 37, 38, 41, 40, 39, 42, 43, 44, 45] [⟨⟨some 30, .mv (.s 7), none⟩, []⟩,
    ⟨⟨some 32, .mv (.s 9), none⟩, []⟩,
    ⟨⟨some 31, .nd .b2s [(.s 30)], none⟩, []⟩,
    ⟨⟨some 33, .str .eql (.s 31) (.s 32), none⟩, []⟩,
    ⟨⟨some 34, .mv (.s 33), none⟩, []⟩,
    ⟨⟨some 35, .mv (.s 8), (some (34, true))⟩, []⟩,
    ⟨⟨some 36, .mv (.s 10), (some (34, true))⟩, []⟩,
    ⟨⟨some 37, .int .eql (.s 35) (.s 36), (some (34, true))⟩, []⟩,
    ⟨⟨some 38, .pick (.s 34) (.s 37) (.c (.bool false)), none⟩, []⟩,
    ⟨⟨some 39, .mv (.s 38), none⟩, []⟩,
    ⟨⟨some 40, .mv (.s 11), (some (39, true))⟩, []⟩,
    ⟨⟨some 41, .load true 9 (.s 4), (some (39, true))⟩, []⟩,
    ⟨⟨some 42, .call 346 [(.s 41)], (some (39, true))⟩, []⟩,
    ⟨⟨some 43, .call 160 [(.s 40), (.s 42)], (some (39, true))⟩, []⟩,
    ⟨⟨some 44, .pick (.s 39) (.s 43) (.c (.bool false)), none⟩, []⟩,
    ⟨⟨some 45, .mv (.s 44), none⟩, []⟩,
    ⟨⟨some 46, .mv (.s 0), (some (45, true))⟩, []⟩,
    ⟨⟨some 48, .load true 9 (.s 4), (some (45, true))⟩, []⟩,
    ⟨⟨some 47, .call 313 [(.s 46)], (some (45, true))⟩, [17]⟩,
    ⟨⟨some 49, .call 347 [(.s 48)], (some (45, true))⟩, []⟩,
    ⟨⟨some 50, .int .eql (.s 47) (.s 49), (some (45, true))⟩, []⟩,
    ⟨⟨some 51, .pick (.s 45) (.s 50) (.c (.bool false)), none⟩, []⟩,
    ⟨⟨some 52, .mv (.s 51), none⟩, []⟩,
    ⟨⟨some 53, .mv (.s 0), (some (52, true))⟩, []⟩,
    ⟨⟨some 55, .fld 4 (.s 4), (some (52, true))⟩, []⟩,
    ⟨⟨some 56, .load false 1 (.s 55), (some (52, true))⟩, []⟩,
    ⟨⟨some 54, .call 314 [(.s 53)], (some (52, true))⟩, [25]⟩,
    ⟨⟨some 57, .eq .bool false (.s 54) (.s 56), (some (52, true))⟩, []⟩,
    ⟨⟨some 58, .pick (.s 52) (.s 57) (.c (.bool false)), none⟩, []⟩,
    ⟨⟨some 59, .mv (.s 58), none⟩, []⟩,
    ⟨⟨some 60, .mv (.s 0), (some (59, true))⟩, []⟩,
    ⟨⟨some 62, .fld 5 (.s 4), (some (59, true))⟩, []⟩,
    ⟨⟨some 63, .load false 1 (.s 62), (some (59, true))⟩, []⟩,
    ⟨⟨some 61, .call 315 [(.s 60)], (some (59, true))⟩, [32]⟩,
    ⟨⟨some 64, .int .eql (.s 61) (.s 63), (some (59, true))⟩, []⟩,
    ⟨⟨some 65, .pick (.s 59) (.s 64) (.c (.bool false)), none⟩, []⟩,
    ⟨⟨some 66, .mv (.s 65), none⟩, []⟩,
    ⟨⟨some 67, .mv (.s 0), (some (66, true))⟩, []⟩,
    ⟨⟨some 68, .mv (.s 2), (some (66, true))⟩, []⟩,
    ⟨⟨some 71, .mv (.s 2), (some (66, true))⟩, []⟩,
    ⟨⟨some 70, .load true 9 (.s 4), (some (66, true))⟩, []⟩,
    ⟨⟨some 69, .call 305 [(.s 67), (.s 68)], (some (66, true))⟩, [40]⟩,
    ⟨⟨some 72, .call 348 [(.s 70), (.s 71)], (some (66, true))⟩, []⟩,
    ⟨⟨some 73, .int .eql (.s 69) (.s 72), (some (66, true))⟩, []⟩,
    ⟨⟨some 74, .pick (.s 66) (.s 73) (.c (.bool false)), none⟩, []⟩,
    ⟨⟨some 12, .mv (.s 74), none⟩, []⟩])
  (.seq (.seq (.reg [⟨some 13, .mv (.c (.int .i64 0)), none⟩])
  (.block 0 (.loop (.seq (.seq (.reg [⟨some 75, .mv (.s 13), none⟩,
    ⟨some 76, .mv (.s 7), none⟩,
    ⟨some 77, .len (.s 76), none⟩,
    ⟨some 78, .int .lss (.s 75) (.s 77), none⟩])
  (.cond (.s 78) .skip
  (.exit 0)))
  (.seq (.block 1 (.reg [⟨some 81, .mv (.s 7), none⟩,
    ⟨some 82, .mv (.s 13), none⟩,
    ⟨some 83, .idx 1 (.s 81) (.s 82), none⟩,
    ⟨some 84, .load false 1 (.s 83), none⟩,
    ⟨some 85, .int .add (.s 84) (.c (.int .u8 1)), none⟩,
    ⟨some 86, .idx 1 (.s 81) (.s 82), none⟩,
    ⟨none, .store 1 (.s 86) (.s 85), none⟩]))
  (.reg [⟨some 79, .mv (.s 13), none⟩,
    ⟨some 80, .int .add (.s 79) (.c (.int .i64 1)), none⟩,
    ⟨some 13, .mv (.s 80), none⟩]))))))
  (.seq (.seq (.reg [⟨some 14, .mv (.c (.int .i64 0)), none⟩])
  (.block 2 (.loop (.seq (.seq (.reg [⟨some 87, .mv (.s 14), none⟩,
    ⟨some 88, .mv (.s 11), none⟩,
    ⟨some 89, .len (.s 88), none⟩,
    ⟨some 90, .int .lss (.s 87) (.s 89), none⟩])
  (.cond (.s 90) .skip
  (.exit 2)))
  (.seq (.block 3 (.seq (.reg [⟨some 15, .mv (.c (.int .i64 0)), none⟩])
  (.block 4 (.loop (.seq (.seq (.reg [⟨some 93, .mv (.s 15), none⟩,
    ⟨some 94, .mv (.s 11), none⟩,
    ⟨some 95, .mv (.s 14), none⟩,
    ⟨some 96, .idx 3 (.s 94) (.s 95), none⟩,
    ⟨some 97, .fld 2 (.s 96), none⟩,
    ⟨some 98, .load false 1 (.s 97), none⟩,
    ⟨some 99, .len (.s 98), none⟩,
    ⟨some 100, .int .lss (.s 93) (.s 99), none⟩])
  (.cond (.s 100) .skip
  (.exit 4)))
  (.seq (.block 5 (.reg [⟨some 103, .mv (.s 11), none⟩,
    ⟨some 104, .mv (.s 14), none⟩,
    ⟨some 105, .idx 3 (.s 103) (.s 104), none⟩,
    ⟨some 106, .fld 2 (.s 105), none⟩,
    ⟨some 107, .load false 1 (.s 106), none⟩,
    ⟨some 108, .mv (.s 15), none⟩,
    ⟨some 109, .idx 1 (.s 107) (.s 108), none⟩,
    ⟨some 110, .load false 1 (.s 109), none⟩,
    ⟨some 111, .int .add (.s 110) (.c (.int .u8 1)), none⟩,
    ⟨some 112, .idx 1 (.s 107) (.s 108), none⟩,
    ⟨none, .store 1 (.s 112) (.s 111), none⟩]))
  (.reg [⟨some 101, .mv (.s 15), none⟩,
    ⟨some 102, .int .add (.s 101) (.c (.int .i64 1)), none⟩,
    ⟨some 15, .mv (.s 102), none⟩])))))))
  (.reg [⟨some 91, .mv (.s 14), none⟩,
    ⟨some 92, .int .add (.s 91) (.c (.int .i64 1)), none⟩,
    ⟨some 14, .mv (.s 92), none⟩]))))))
  (.seq (.reg [⟨some 113, .mv (.s 12), none⟩,
    ⟨some 6, .mv (.s 113), none⟩])
  .ret))))))))⟩

/-- (*sumpter/disk.Disk).Fork -/
def sf307 : SF :=
  ⟨1, 41, [.t 2],
  (.seq (.reg [⟨some 2, .mv (.c (.pointer none)), none⟩])
  (.seq (.seq (.reg [⟨some 4, .mv (.s 0), none⟩,
    ⟨some 5, .eq .ptr false (.s 4) (.c (.pointer none)), none⟩])
  (.cond (.s 5) (.seq (.reg [⟨some 2, .mv (.c (.pointer none)), none⟩])
  .ret)
  .skip))
  (.seq (.reg [⟨some 6, .mv (.s 0), none⟩,
    ⟨some 7, .nilc (.s 6), none⟩,
    ⟨some 8, .load true 10 (.s 7), none⟩,
    ⟨some 3, .alloc none [.v (.int .i64 0), .v (.map none), .v (.map none), .v (.slice none 0 0), .v (.slice none 0 0), .v (.bool false), .v (.int .i64 0), .v (.int .i64 0), .v (.bool false), .v (.int .i64 0)], none⟩,
    ⟨none, .store 10 (.s 3) (.s 8), none⟩])
  (.seq (.dreg [0, 1, 2, 5, 6, 7, 10, 11, 12, 3, 8, 13, 4, 9, 14, 15, 16, 17, 18, 19, 20] [⟨⟨some 9, .mv (.s 0), none⟩, []⟩,
    ⟨⟨some 10, .nilc (.s 9), none⟩, []⟩,
    ⟨⟨some 11, .fld 1 (.s 10), none⟩, []⟩,
    ⟨⟨some 14, .mv (.s 0), none⟩, []⟩,
    ⟨⟨some 15, .nilc (.s 14), none⟩, []⟩,
    ⟨⟨some 16, .fld 2 (.s 15), none⟩, []⟩,
    ⟨⟨some 19, .mv (.s 0), none⟩, []⟩,
    ⟨⟨some 20, .nilc (.s 19), none⟩, []⟩,
    ⟨⟨some 21, .fld 3 (.s 20), none⟩, []⟩,
    ⟨⟨some 12, .load false 1 (.s 11), none⟩, []⟩,
    ⟨⟨some 17, .load false 1 (.s 16), none⟩, []⟩,
    ⟨⟨some 22, .load false 1 (.s 21), none⟩, []⟩,
    ⟨⟨some 13, .call 329 [(.s 12)], none⟩, [10, 11]⟩,
    ⟨⟨some 18, .call 329 [(.s 17)], none⟩, [11]⟩,
    ⟨⟨some 23, .call 349 [(.s 22)], none⟩, []⟩,
    ⟨⟨some 24, .fld 1 (.s 3), none⟩, []⟩,
    ⟨⟨none, .store 1 (.s 24) (.s 13), none⟩, []⟩,
    ⟨⟨some 25, .fld 2 (.s 3), none⟩, []⟩,
    ⟨⟨none, .store 1 (.s 25) (.s 18), none⟩, []⟩,
    ⟨⟨some 26, .fld 3 (.s 3), none⟩, []⟩,
    ⟨⟨none, .store 1 (.s 26) (.s 23), none⟩, []⟩])
  (.seq (.reg [⟨some 27, .mv (.s 0), none⟩,
    ⟨some 28, .nilc (.s 27), none⟩,
    ⟨some 29, .fld 4 (.s 28), none⟩,
    ⟨some 30, .load false 1 (.s 29), none⟩,
    ⟨some 31, .len (.s 30), none⟩,
    ⟨some 32, .hop (.mks 2 32 [.v (.slice none 0 0), .v (.int .i64 0)]) [(.s 31), (.s 31)], none⟩,
    ⟨some 33, .fld 4 (.s 3), none⟩,
    ⟨none, .store 1 (.s 33) (.s 32), none⟩])
  (.seq (.dreg [0, 2, 3, 4, 1, 5, 6] [⟨⟨some 34, .fld 4 (.s 3), none⟩, []⟩,
    ⟨⟨some 36, .mv (.s 0), none⟩, []⟩,
    ⟨⟨some 37, .nilc (.s 36), none⟩, []⟩,
    ⟨⟨some 38, .fld 4 (.s 37), none⟩, []⟩,
    ⟨⟨some 35, .load false 1 (.s 34), none⟩, []⟩,
    ⟨⟨some 39, .load false 1 (.s 38), none⟩, []⟩,
    ⟨⟨some 40, .hop (.copy 2) [(.s 35), (.s 39)], none⟩, []⟩])
  (.seq (.reg [⟨some 2, .mv (.s 3), none⟩])
  .ret)))))))⟩

/-- (*sumpter/disk.Disk).Mkdir -/
def sf308 : SF :=
  ⟨2, 8, [.t 4],
  (.seq (.reg [⟨some 4, .mv (.c (.int .i64 0)), none⟩])
  (.seq (.reg [⟨some 5, .mv (.s 0), none⟩,
    ⟨some 6, .mv (.s 1), none⟩,
    ⟨some 7, .call 336 [(.s 5), (.s 6), (.c (.bool true))], none⟩,
    ⟨some 4, .mv (.s 7), none⟩])
  .ret))⟩

/-- (*sumpter/disk.Disk).Rename -/
def sf309 : SF :=
  ⟨3, 60, [.t 6],
  (.seq (.reg [⟨some 3, .box none 1 (.s 0), none⟩,
    ⟨some 4, .box none 1 (.s 1), none⟩,
    ⟨some 5, .box none 1 (.s 2), none⟩,
    ⟨some 6, .mv (.c (.int .i64 0)), none⟩])
  (.seq (.seq (.reg [⟨some 14, .load false 1 (.s 3), none⟩,
    ⟨some 15, .load false 1 (.s 4), none⟩,
    ⟨some 16, .load false 1 (.s 5), none⟩,
    ⟨some 17, .bslice 1 [(.s 15), (.s 16)], none⟩,
    ⟨some 18, .call 333 [(.s 14), (.s 17)], none⟩,
    ⟨some 7, .mv (.s 18), none⟩])
  (.seq (.reg [⟨some 19, .mv (.s 7), none⟩,
    ⟨some 20, .int .neq (.s 19) (.c (.int .i64 0)), none⟩])
  (.cond (.s 20) (.seq (.reg [⟨some 21, .mv (.s 7), none⟩,
    ⟨some 6, .mv (.s 21), none⟩])
  .ret)
  .skip)))
  (.seq (.seq (.reg [⟨some 23, .load false 1 (.s 3), none⟩,
    ⟨some 24, .load false 1 (.s 4), none⟩,
    ⟨some 25, .call 332 [(.s 23), (.s 24)], none⟩,
    ⟨some 22, .mv (.s 25), none⟩,
    ⟨some 26, .ext (.s 22) 0, none⟩,
    ⟨some 27, .ext (.s 22) 1, none⟩,
    ⟨some 8, .mv (.s 26), none⟩,
    ⟨some 9, .mv (.s 27), none⟩])
  (.seq (.reg [⟨some 28, .mv (.s 9), none⟩,
    ⟨some 29, .int .neq (.s 28) (.c (.int .i64 0)), none⟩])
  (.cond (.s 29) (.seq (.reg [⟨some 30, .mv (.s 9), none⟩,
    ⟨some 6, .mv (.s 30), none⟩])
  .ret)
  .skip)))
  (.seq (.seq (.reg [⟨some 31, .load false 1 (.s 3), none⟩,
    ⟨some 32, .load false 1 (.s 5), none⟩,
    ⟨some 33, .call 350 [(.s 31), (.s 32)], none⟩,
    ⟨some 10, .mv (.s 33), none⟩])
  (.seq (.reg [⟨some 34, .mv (.s 10), none⟩,
    ⟨some 35, .int .neq (.s 34) (.c (.int .i64 0)), none⟩])
  (.cond (.s 35) (.seq (.reg [⟨some 36, .mv (.s 10), none⟩,
    ⟨some 6, .mv (.s 36), none⟩])
  .ret)
  .skip)))
  (.seq (.seq (.dreg [0, 1, 2, 3, 4, 9, 5, 6, 7, 8, 10, 11] [⟨⟨some 38, .load false 1 (.s 3), none⟩, []⟩,
    ⟨⟨some 39, .nilc (.s 38), none⟩, []⟩,
    ⟨⟨some 40, .fld 2 (.s 39), none⟩, []⟩,
    ⟨⟨some 41, .load false 1 (.s 40), none⟩, []⟩,
    ⟨⟨some 42, .load false 1 (.s 5), none⟩, []⟩,
    ⟨⟨some 11, .alloc (some 3) [.v (.bool false), .v (.int .i64 0)], none⟩, []⟩,
    ⟨⟨some 43, .hop (.m (.lkp true true true [.v (.bool false), .v (.int .i64 0)])) [(.s 41), (.s 42)], none⟩, []⟩,
    ⟨⟨some 37, .mv (.s 43), none⟩, []⟩,
    ⟨⟨some 44, .ext (.s 37) 0, none⟩, []⟩,
    ⟨⟨some 45, .ext (.s 37) 1, none⟩, []⟩,
    ⟨⟨none, .store 2 (.s 11) (.s 44), none⟩, []⟩,
    ⟨⟨some 12, .mv (.s 45), none⟩, []⟩])
  (.seq (.reg [⟨some 46, .mv (.s 12), none⟩,
    ⟨some 47, .mv (.s 46), none⟩,
    ⟨some 48, .fld 0 (.s 11), (some (47, true))⟩,
    ⟨some 49, .load false 1 (.s 48), (some (47, true))⟩,
    ⟨some 50, .pick (.s 47) (.s 49) (.c (.bool false)), none⟩])
  (.cond (.s 50) (.seq (.reg [⟨some 6, .mv (.c (.int .i64 9)), none⟩])
  .ret)
  .skip)))
  (.seq (.dreg [0, 1, 2, 3, 4, 5, 6, 7] [⟨⟨some 51, .load false 1 (.s 3), none⟩, []⟩,
    ⟨⟨some 52, .nilc (.s 51), none⟩, []⟩,
    ⟨⟨some 53, .fld 2 (.s 52), none⟩, []⟩,
    ⟨⟨some 54, .load false 1 (.s 53), none⟩, []⟩,
    ⟨⟨some 55, .load false 1 (.s 4), none⟩, []⟩,
    ⟨⟨some 56, .lkc true false true [.v (.bool false), .v (.int .i64 0)] (.s 54) (.s 55), none⟩, []⟩,
    ⟨⟨some 13, .alloc none [.v (.bool false), .v (.int .i64 0)], none⟩, []⟩,
    ⟨⟨none, .store 2 (.s 13) (.s 56), none⟩, []⟩])
  (.seq (.reg [⟨some 57, .load false 1 (.s 3), none⟩,
    ⟨some 58, .mkfn 351 [(.s 3), (.s 4), (.s 5), (.s 13)], none⟩,
    ⟨some 59, .call 335 [(.s 57), (.s 58)], none⟩,
    ⟨some 6, .mv (.s 59), none⟩])
  .ret)))))))⟩

/-- (*sumpter/disk.Disk).Fail -/
def sf310 : SF :=
  ⟨3, 23, [.t 6],
  (.seq (.reg [⟨some 6, .mv (.c (.int .i64 0)), none⟩])
  (.seq (.seq (.reg [⟨some 8, .mv (.s 0), none⟩,
    ⟨some 9, .call 333 [(.s 8), (.c (.slice none 0 0))], none⟩,
    ⟨some 7, .mv (.s 9), none⟩])
  (.seq (.reg [⟨some 10, .mv (.s 7), none⟩,
    ⟨some 11, .int .neq (.s 10) (.c (.int .i64 0)), none⟩])
  (.cond (.s 11) (.seq (.reg [⟨some 12, .mv (.s 7), none⟩,
    ⟨some 6, .mv (.s 12), none⟩])
  .ret)
  .skip)))
  (.seq (.seq (.reg [⟨some 13, .mv (.s 1), none⟩,
    ⟨some 14, .int .lss (.s 13) (.c (.int .i64 0)), none⟩])
  (.cond (.s 14) (.seq (.reg [⟨some 6, .mv (.c (.int .i64 2)), none⟩])
  .ret)
  .skip))
  (.seq (.reg [⟨some 15, .mv (.s 0), none⟩,
    ⟨some 16, .mv (.s 0), none⟩,
    ⟨some 17, .mv (.s 1), none⟩,
    ⟨some 18, .mv (.s 2), none⟩,
    ⟨some 19, .nilc (.s 15), none⟩,
    ⟨some 20, .fld 7 (.s 19), none⟩,
    ⟨none, .store 1 (.s 20) (.s 17), none⟩,
    ⟨some 21, .nilc (.s 16), none⟩,
    ⟨some 22, .fld 8 (.s 21), none⟩,
    ⟨none, .store 1 (.s 22) (.s 18), none⟩])
  (.seq (.reg [⟨some 6, .mv (.c (.int .i64 0)), none⟩])
  .ret)))))⟩

/-- (*sumpter/disk.Disk).Fault -/
def sf311 : SF :=
  ⟨2, 17, [.t 4],
  (.seq (.reg [⟨some 4, .mv (.c (.int .i64 0)), none⟩])
  (.seq (.seq (.reg [⟨some 6, .mv (.s 0), none⟩,
    ⟨some 7, .call 333 [(.s 6), (.c (.slice none 0 0))], none⟩,
    ⟨some 5, .mv (.s 7), none⟩])
  (.seq (.reg [⟨some 8, .mv (.s 5), none⟩,
    ⟨some 9, .int .neq (.s 8) (.c (.int .i64 0)), none⟩])
  (.cond (.s 9) (.seq (.reg [⟨some 10, .mv (.s 5), none⟩,
    ⟨some 4, .mv (.s 10), none⟩])
  .ret)
  .skip)))
  (.seq (.seq (.reg [⟨some 11, .mv (.s 1), none⟩,
    ⟨some 12, .int .lss (.s 11) (.c (.int .i64 0)), none⟩])
  (.cond (.s 12) (.seq (.reg [⟨some 4, .mv (.c (.int .i64 2)), none⟩])
  .ret)
  .skip))
  (.seq (.reg [⟨some 13, .mv (.s 0), none⟩,
    ⟨some 14, .mv (.s 1), none⟩,
    ⟨some 15, .nilc (.s 13), none⟩,
    ⟨some 16, .fld 9 (.s 15), none⟩,
    ⟨none, .store 1 (.s 16) (.s 14), none⟩])
  (.seq (.reg [⟨some 4, .mv (.c (.int .i64 0)), none⟩])
  .ret)))))⟩

/-- (*sumpter/disk.Disk).List -/
def sf312 : SF :=
  ⟨1, 48, [.t 2],
  (.seq (.reg [⟨some 2, .mv (.c (.slice none 0 0)), none⟩])
  (.seq (.seq (.reg [⟨some 9, .mv (.s 0), none⟩,
    ⟨some 10, .call 333 [(.s 9), (.c (.slice none 0 0))], none⟩,
    ⟨some 11, .int .neq (.s 10) (.c (.int .i64 0)), none⟩])
  (.cond (.s 11) (.seq (.reg [⟨some 2, .mv (.c (.slice none 0 0)), none⟩])
  .ret)
  .skip))
  (.seq (.reg [⟨some 3, .mv (.c (.slice none 0 0)), none⟩])
  (.seq (.seq (.reg [⟨some 12, .mv (.s 0), none⟩,
    ⟨some 13, .call 331 [(.s 12)], none⟩,
    ⟨some 14, .len (.s 13), none⟩,
    ⟨some 15, .mv (.c (.int .i64 0)), none⟩])
  (.block 0 (.loop (.seq (.reg [⟨some 16, .int .lss (.s 15) (.s 14), none⟩])
  (.seq (.cond (.s 16) .skip
  (.exit 0))
  (.seq (.block 1 (.seq (.reg [⟨some 17, .idx 1 (.s 13) (.s 15), none⟩,
    ⟨some 18, .load false 1 (.s 17), none⟩,
    ⟨some 5, .mv (.s 18), none⟩])
  (.seq (.reg [⟨some 19, .mv (.s 5), none⟩,
    ⟨some 20, .mv (.s 0), none⟩,
    ⟨some 21, .nilc (.s 20), none⟩,
    ⟨some 22, .fld 2 (.s 21), none⟩,
    ⟨some 23, .load false 1 (.s 22), none⟩,
    ⟨some 24, .mv (.s 5), none⟩,
    ⟨some 25, .hop (.m (.lkp true false true [.v (.bool false), .v (.int .i64 0)])) [(.s 23), (.s 24)], none⟩,
    ⟨some 26, .field false 0 1 (.s 25), none⟩,
    ⟨some 27, .build [.v (.string ⟨#[]⟩), .v (.bool false), .v (.slice none 0 0)] [(0, 1, (.s 19)), (1, 1, (.s 26))], none⟩,
    ⟨some 6, .alloc (some 0) [.v (.string ⟨#[]⟩), .v (.bool false), .v (.slice none 0 0)], none⟩,
    ⟨none, .store 3 (.s 6) (.s 27), none⟩])
  (.seq (.seq (.reg [⟨some 29, .mv (.s 0), none⟩,
    ⟨some 30, .mv (.s 5), none⟩,
    ⟨some 31, .call 332 [(.s 29), (.s 30)], none⟩,
    ⟨some 28, .mv (.s 31), none⟩,
    ⟨some 32, .ext (.s 28) 0, none⟩,
    ⟨some 33, .ext (.s 28) 1, none⟩,
    ⟨some 7, .mv (.s 32), none⟩,
    ⟨some 8, .mv (.s 33), none⟩])
  (.seq (.reg [⟨some 34, .mv (.s 8), none⟩,
    ⟨some 35, .int .eql (.s 34) (.c (.int .i64 0)), none⟩])
  (.cond (.s 35) (.reg [⟨some 36, .mv (.s 7), none⟩,
    ⟨some 37, .nilc (.s 36), none⟩,
    ⟨some 38, .fld 0 (.s 37), none⟩,
    ⟨some 39, .load false 1 (.s 38), none⟩,
    ⟨some 40, .call 186 [(.s 39)], none⟩,
    ⟨some 41, .fld 2 (.s 6), none⟩,
    ⟨none, .store 1 (.s 41) (.s 40), none⟩])
  .skip)))
  (.reg [⟨some 42, .mv (.s 3), none⟩,
    ⟨some 43, .load true 3 (.s 6), none⟩,
    ⟨some 44, .bslice 3 [(.s 43)], none⟩,
    ⟨some 45, .app 3 48 (.s 42) (.s 44), none⟩,
    ⟨some 3, .mv (.s 45), none⟩])))))
  (.reg [⟨some 46, .int .add (.s 15) (.c (.int .i64 1)), none⟩,
    ⟨some 15, .mv (.s 46), none⟩])))))))
  (.seq (.reg [⟨some 47, .mv (.s 3), none⟩,
    ⟨some 2, .mv (.s 47), none⟩])
  .ret)))))⟩

/-- (*sumpter/disk.Disk).Used -/
def sf313 : SF :=
  ⟨1, 33, [.t 2],
  (.seq (.reg [⟨some 2, .mv (.c (.int .i64 0)), none⟩])
  (.seq (.seq (.reg [⟨some 6, .mv (.s 0), none⟩,
    ⟨some 7, .eq .ptr false (.s 6) (.c (.pointer none)), none⟩])
  (.cond (.s 7) (.seq (.reg [⟨some 2, .mv (.c (.int .i64 0)), none⟩])
  .ret)
  .skip))
  (.seq (.reg [⟨some 3, .mv (.c (.int .i64 0)), none⟩])
  (.seq (.seq (.reg [⟨some 8, .mv (.s 0), none⟩,
    ⟨some 9, .nilc (.s 8), none⟩,
    ⟨some 10, .fld 2 (.s 9), none⟩,
    ⟨some 11, .load false 1 (.s 10), none⟩,
    ⟨some 12, .hop (.m .rng) [(.s 11)], none⟩])
  (.block 0 (.loop (.seq (.reg [⟨some 13, .hop (.m .nxt) [(.s 12)], none⟩,
    ⟨some 14, .ext (.s 13) 0, none⟩])
  (.seq (.cond (.s 14) .skip
  (.exit 0))
  (.block 1 (.seq (.reg [⟨some 15, .hop (.m .ent) [(.s 12)], none⟩,
    ⟨some 16, .ext (.s 15) 1, none⟩,
    ⟨some 5, .alloc (some 0) [.v (.bool false), .v (.int .i64 0)], none⟩,
    ⟨none, .store 2 (.s 5) (.s 16), none⟩])
  (.seq (.reg [⟨some 17, .fld 0 (.s 5), none⟩,
    ⟨some 18, .load false 1 (.s 17), none⟩,
    ⟨some 19, .not (.s 18), none⟩])
  (.cond (.s 19) (.dreg [0, 1, 2, 3, 5, 4, 6, 7, 8, 9, 10, 11, 12] [⟨⟨some 20, .mv (.s 3), none⟩, []⟩,
    ⟨⟨some 21, .mv (.s 0), none⟩, []⟩,
    ⟨⟨some 22, .nilc (.s 21), none⟩, []⟩,
    ⟨⟨some 23, .fld 4 (.s 22), none⟩, []⟩,
    ⟨⟨some 25, .fld 1 (.s 5), none⟩, []⟩,
    ⟨⟨some 24, .load false 1 (.s 23), none⟩, []⟩,
    ⟨⟨some 26, .load false 1 (.s 25), none⟩, []⟩,
    ⟨⟨some 27, .idx 2 (.s 24) (.s 26), none⟩, []⟩,
    ⟨⟨some 28, .fld 0 (.s 27), none⟩, []⟩,
    ⟨⟨some 29, .load false 1 (.s 28), none⟩, []⟩,
    ⟨⟨some 30, .len (.s 29), none⟩, []⟩,
    ⟨⟨some 31, .int .add (.s 20) (.s 30), none⟩, []⟩,
    ⟨⟨some 3, .mv (.s 31), none⟩, []⟩])
  .skip)))))))))
  (.seq (.reg [⟨some 32, .mv (.s 3), none⟩,
    ⟨some 2, .mv (.s 32), none⟩])
  .ret)))))⟩

/-- (*sumpter/disk.Disk).Down -/
def sf314 : SF :=
  ⟨1, 11, [.t 2],
  (.seq (.reg [⟨some 2, .mv (.c (.bool false)), none⟩])
  (.seq (.reg [⟨some 3, .mv (.s 0), none⟩,
    ⟨some 4, .eq .ptr true (.s 3) (.c (.pointer none)), none⟩,
    ⟨some 5, .mv (.s 4), none⟩,
    ⟨some 6, .mv (.s 0), (some (5, true))⟩,
    ⟨some 7, .nilc (.s 6), (some (5, true))⟩,
    ⟨some 8, .fld 5 (.s 7), (some (5, true))⟩,
    ⟨some 9, .load false 1 (.s 8), (some (5, true))⟩,
    ⟨some 10, .pick (.s 5) (.s 9) (.c (.bool false)), none⟩,
    ⟨some 2, .mv (.s 10), none⟩])
  .ret))⟩

/-- (*sumpter/disk.Disk).Ops -/
def sf315 : SF :=
  ⟨1, 9, [.t 2],
  (.seq (.reg [⟨some 2, .mv (.c (.int .i64 0)), none⟩])
  (.seq (.seq (.reg [⟨some 3, .mv (.s 0), none⟩,
    ⟨some 4, .eq .ptr false (.s 3) (.c (.pointer none)), none⟩])
  (.cond (.s 4) (.seq (.reg [⟨some 2, .mv (.c (.int .i64 0)), none⟩])
  .ret)
  .skip))
  (.seq (.reg [⟨some 5, .mv (.s 0), none⟩,
    ⟨some 6, .nilc (.s 5), none⟩,
    ⟨some 7, .fld 6 (.s 6), none⟩,
    ⟨some 8, .load false 1 (.s 7), none⟩,
    ⟨some 2, .mv (.s 8), none⟩])
  .ret)))⟩

/-- sumpter/tree.Size -/
def sf316 : SF :=
  ⟨1, 19, [.t 2],
  (.seq (.reg [⟨some 2, .mv (.c (.int .i64 0)), none⟩])
  (.seq (.reg [⟨some 3, .mv (.c (.int .i64 0)), none⟩])
  (.seq (.seq (.reg [⟨some 6, .mv (.s 0), none⟩,
    ⟨some 7, .len (.s 6), none⟩,
    ⟨some 8, .mv (.c (.int .i64 0)), none⟩])
  (.block 0 (.loop (.seq (.reg [⟨some 9, .int .lss (.s 8) (.s 7), none⟩])
  (.seq (.cond (.s 9) .skip
  (.exit 0))
  (.seq (.block 1 (.seq (.reg [⟨some 10, .idx 3 (.s 6) (.s 8), none⟩,
    ⟨some 11, .load true 3 (.s 10), none⟩,
    ⟨some 5, .alloc (some 0) [.v (.string ⟨#[]⟩), .v (.bool false), .v (.slice none 0 0)], none⟩,
    ⟨none, .store 3 (.s 5) (.s 11), none⟩])
  (.reg [⟨some 12, .mv (.s 3), none⟩,
    ⟨some 13, .fld 2 (.s 5), none⟩,
    ⟨some 14, .load false 1 (.s 13), none⟩,
    ⟨some 15, .len (.s 14), none⟩,
    ⟨some 16, .int .add (.s 12) (.s 15), none⟩,
    ⟨some 3, .mv (.s 16), none⟩])))
  (.reg [⟨some 17, .int .add (.s 8) (.c (.int .i64 1)), none⟩,
    ⟨some 8, .mv (.s 17), none⟩])))))))
  (.seq (.reg [⟨some 18, .mv (.s 3), none⟩,
    ⟨some 2, .mv (.s 18), none⟩])
  .ret))))⟩

/-- sumpter/sumpterlaw14.crashed -/
def sf317 : SF :=
  ⟨1, 17, [.t 2],
  (.seq (.reg [⟨some 2, .mv (.c (.bool false)), none⟩])
  (.seq (.seq (.reg [⟨some 3, .mv (.c (.int .i64 0)), none⟩])
  (.block 0 (.loop (.seq (.seq (.reg [⟨some 4, .mv (.s 3), none⟩,
    ⟨some 5, .mv (.s 0), none⟩,
    ⟨some 6, .len (.s 5), none⟩,
    ⟨some 7, .int .lss (.s 4) (.s 6), none⟩])
  (.cond (.s 7) .skip
  (.exit 0)))
  (.seq (.block 1 (.seq (.reg [⟨some 10, .mv (.s 0), none⟩,
    ⟨some 11, .mv (.s 3), none⟩,
    ⟨some 12, .idx 6 (.s 10) (.s 11), none⟩,
    ⟨some 13, .fld 0 (.s 12), none⟩,
    ⟨some 14, .load false 1 (.s 13), none⟩,
    ⟨some 15, .int .rem (.s 14) (.c (.int .u8 12)), none⟩,
    ⟨some 16, .int .geq (.s 15) (.c (.int .u8 10)), none⟩])
  (.cond (.s 16) (.seq (.reg [⟨some 2, .mv (.c (.bool true)), none⟩])
  .ret)
  .skip)))
  (.reg [⟨some 8, .mv (.s 3), none⟩,
    ⟨some 9, .int .add (.s 8) (.c (.int .i64 1)), none⟩,
    ⟨some 3, .mv (.s 9), none⟩]))))))
  (.seq (.reg [⟨some 2, .mv (.c (.bool false)), none⟩])
  .ret)))⟩

/-- (sumpter/sumpterref14.Disk).Crash -/
def sf318 : SF :=
  ⟨3, 99, [.cell 6 true 9],
  (.seq (.reg [⟨some 3, .box (some 0) 9 (.s 0), none⟩,
    ⟨some 6, .alloc (some 1) [.v (.int .i64 0), .v (.slice none 0 0), .v (.slice none 0 0), .v (.slice none 0 0), .v (.bool false), .v (.int .i64 0), .v (.int .i64 0), .v (.bool false), .v (.int .i64 0)], none⟩])
  (.seq (.reg [⟨some 11, .fld 2 (.s 3), none⟩,
    ⟨some 12, .load false 1 (.s 11), none⟩,
    ⟨some 13, .mv (.s 1), none⟩,
    ⟨some 14, .fld 2 (.s 3), none⟩,
    ⟨some 15, .load false 1 (.s 14), none⟩,
    ⟨some 16, .len (.s 15), none⟩,
    ⟨some 17, .mm false (.s 13) (.s 16), none⟩,
    ⟨some 18, .mm true (.c (.int .i64 0)) (.s 17), none⟩,
    ⟨some 19, .slc 2 (.s 12) none (some (.s 18)) none, none⟩,
    ⟨some 20, .fld 2 (.s 3), none⟩,
    ⟨none, .store 1 (.s 20) (.s 19), none⟩])
  (.seq (.reg [⟨some 21, .load true 9 (.s 3), none⟩,
    ⟨some 22, .call 352 [(.s 21)], none⟩,
    ⟨some 23, .fld 1 (.s 3), none⟩,
    ⟨none, .store 1 (.s 23) (.s 22), none⟩,
    ⟨some 24, .fld 2 (.s 3), none⟩,
    ⟨none, .store 1 (.s 24) (.c (.slice none 0 0)), none⟩])
  (.seq (.reg [⟨some 25, .bslice 2 [], none⟩,
    ⟨some 26, .fld 3 (.s 3), none⟩,
    ⟨some 27, .load false 1 (.s 26), none⟩,
    ⟨some 28, .app 2 24 (.s 25) (.s 27), none⟩,
    ⟨some 29, .fld 3 (.s 3), none⟩,
    ⟨none, .store 1 (.s 29) (.s 28), none⟩])
  (.seq (.seq (.reg [⟨some 7, .mv (.c (.int .i64 0)), none⟩])
  (.block 0 (.loop (.seq (.seq (.reg [⟨some 30, .mv (.s 7), none⟩,
    ⟨some 31, .fld 1 (.s 3), none⟩,
    ⟨some 32, .load false 1 (.s 31), none⟩,
    ⟨some 33, .len (.s 32), none⟩,
    ⟨some 34, .int .lss (.s 30) (.s 33), none⟩])
  (.cond (.s 34) .skip
  (.exit 0)))
  (.seq (.block 1 (.seq (.seq (.reg [⟨some 37, .fld 1 (.s 3), none⟩,
    ⟨some 38, .load false 1 (.s 37), none⟩,
    ⟨some 39, .mv (.s 7), none⟩,
    ⟨some 40, .idx 3 (.s 38) (.s 39), none⟩,
    ⟨some 41, .fld 1 (.s 40), none⟩,
    ⟨some 42, .load false 1 (.s 41), none⟩])
  (.cond (.s 42) (.exit 1)
  .skip))
  (.seq (.dreg [0, 2, 4, 1, 3, 5, 6, 7, 8, 9, 10, 11] [⟨⟨some 43, .fld 3 (.s 3), none⟩, []⟩,
    ⟨⟨some 45, .fld 1 (.s 3), none⟩, []⟩,
    ⟨⟨some 47, .mv (.s 7), none⟩, []⟩,
    ⟨⟨some 44, .load false 1 (.s 43), none⟩, []⟩,
    ⟨⟨some 46, .load false 1 (.s 45), none⟩, []⟩,
    ⟨⟨some 48, .idx 3 (.s 46) (.s 47), none⟩, []⟩,
    ⟨⟨some 49, .fld 2 (.s 48), none⟩, []⟩,
    ⟨⟨some 50, .load false 1 (.s 49), none⟩, []⟩,
    ⟨⟨some 51, .idx 2 (.s 44) (.s 50), none⟩, []⟩,
    ⟨⟨some 52, .load true 2 (.s 51), none⟩, []⟩,
    ⟨⟨some 8, .alloc (some 2) [.v (.string ⟨#[]⟩), .v (.int .i64 0)], none⟩, []⟩,
    ⟨⟨none, .store 2 (.s 8) (.s 52), none⟩, []⟩])
  (.seq (.reg [⟨some 53, .fld 0 (.s 8), none⟩,
    ⟨some 54, .load false 1 (.s 53), none⟩,
    ⟨some 55, .slen (.s 54), none⟩,
    ⟨some 56, .fld 1 (.s 8), none⟩,
    ⟨some 57, .load false 1 (.s 56), none⟩,
    ⟨some 58, .int .sub (.s 55) (.s 57), none⟩,
    ⟨some 9, .mv (.s 58), none⟩])
  (.seq (.reg [⟨some 59, .fld 1 (.s 8), none⟩,
    ⟨some 60, .load false 1 (.s 59), none⟩,
    ⟨some 10, .mv (.s 60), none⟩])
  (.seq (.seq (.reg [⟨some 61, .mv (.s 9), none⟩,
    ⟨some 62, .int .gtr (.s 61) (.c (.int .i64 0)), none⟩,
    ⟨some 63, .mv (.s 62), none⟩,
    ⟨some 64, .mv (.s 2), (some (63, true))⟩,
    ⟨some 65, .len (.s 64), (some (63, true))⟩,
    ⟨some 66, .int .gtr (.s 65) (.c (.int .i64 0)), (some (63, true))⟩,
    ⟨some 67, .pick (.s 63) (.s 66) (.c (.bool false)), none⟩])
  (.cond (.s 67) (.seq (.reg [⟨some 68, .mv (.s 10), none⟩,
    ⟨some 69, .mv (.s 2), none⟩,
    ⟨some 70, .idx 1 (.s 69) (.c (.int .i64 0)), none⟩,
    ⟨some 71, .load false 1 (.s 70), none⟩,
    ⟨some 72, .conv .i64 (.s 71), none⟩,
    ⟨some 73, .mv (.s 9), none⟩,
    ⟨some 74, .int .add (.s 73) (.c (.int .i64 1)), none⟩,
    ⟨some 75, .int .rem (.s 72) (.s 74), none⟩,
    ⟨some 76, .int .add (.s 68) (.s 75), none⟩,
    ⟨some 10, .mv (.s 76), none⟩])
  (.reg [⟨some 77, .mv (.s 2), none⟩,
    ⟨some 78, .slc 1 (.s 77) (some (.c (.int .i64 1))) none none, none⟩,
    ⟨some 2, .mv (.s 78), none⟩]))
  .skip))
  (.dreg [0, 2, 4, 8, 10, 12, 1, 3, 5, 6, 7, 9, 11, 13, 14, 15] [⟨⟨some 79, .fld 3 (.s 3), none⟩, []⟩,
    ⟨⟨some 81, .fld 1 (.s 3), none⟩, []⟩,
    ⟨⟨some 83, .mv (.s 7), none⟩, []⟩,
    ⟨⟨some 87, .fld 0 (.s 8), none⟩, []⟩,
    ⟨⟨some 89, .mv (.s 10), none⟩, []⟩,
    ⟨⟨some 91, .mv (.s 10), none⟩, []⟩,
    ⟨⟨some 80, .load false 1 (.s 79), none⟩, []⟩,
    ⟨⟨some 82, .load false 1 (.s 81), none⟩, []⟩,
    ⟨⟨some 84, .idx 3 (.s 82) (.s 83), none⟩, []⟩,
    ⟨⟨some 85, .fld 2 (.s 84), none⟩, []⟩,
    ⟨⟨some 86, .load false 1 (.s 85), none⟩, []⟩,
    ⟨⟨some 88, .load false 1 (.s 87), none⟩, []⟩,
    ⟨⟨some 90, .ssl (.s 88) none (some (.s 89)), none⟩, []⟩,
    ⟨⟨some 92, .build [.v (.string ⟨#[]⟩), .v (.int .i64 0)] [(0, 1, (.s 90)), (1, 1, (.s 91))], none⟩, []⟩,
    ⟨⟨some 93, .idx 2 (.s 80) (.s 86), none⟩, []⟩,
    ⟨⟨none, .store 2 (.s 93) (.s 92), none⟩, []⟩])))))))
  (.reg [⟨some 35, .mv (.s 7), none⟩,
    ⟨some 36, .int .add (.s 35) (.c (.int .i64 1)), none⟩,
    ⟨some 7, .mv (.s 36), none⟩]))))))
  (.seq (.reg [⟨some 94, .fld 4 (.s 3), none⟩,
    ⟨none, .store 1 (.s 94) (.c (.bool false)), none⟩,
    ⟨some 95, .fld 6 (.s 3), none⟩,
    ⟨none, .store 1 (.s 95) (.c (.int .i64 (-1))), none⟩,
    ⟨some 96, .fld 8 (.s 3), none⟩,
    ⟨none, .store 1 (.s 96) (.c (.int .i64 (-1))), none⟩,
    ⟨some 97, .fld 7 (.s 3), none⟩,
    ⟨none, .store 1 (.s 97) (.c (.bool false)), none⟩])
  (.seq (.reg [⟨some 98, .load true 9 (.s 3), none⟩,
    ⟨none, .store 9 (.s 6) (.s 98), none⟩])
  .ret)))))))⟩

/-- (sumpter/sumpterref14.Disk).Fault -/
def sf319 : SF :=
  ⟨2, 17, [.cell 4 true 9, .t 5],
  (.seq (.reg [⟨some 2, .box (some 0) 9 (.s 0), none⟩,
    ⟨some 4, .alloc (some 1) [.v (.int .i64 0), .v (.slice none 0 0), .v (.slice none 0 0), .v (.slice none 0 0), .v (.bool false), .v (.int .i64 0), .v (.int .i64 0), .v (.bool false), .v (.int .i64 0)], none⟩,
    ⟨some 5, .mv (.c (.int .i64 0)), none⟩])
  (.seq (.block 0 (.seq (.reg [⟨some 7, .fld 4 (.s 2), none⟩,
    ⟨some 8, .load false 1 (.s 7), none⟩,
    ⟨some 6, .mv (.s 8), none⟩])
  (.cond (.s 6) (.seq (.reg [⟨some 9, .load true 9 (.s 2), none⟩,
    ⟨none, .store 9 (.s 4) (.s 9), none⟩,
    ⟨some 5, .mv (.c (.int .i64 11)), none⟩])
  .ret)
  (.seq (.reg [⟨some 11, .mv (.s 1), none⟩,
    ⟨some 12, .int .lss (.s 11) (.c (.int .i64 0)), none⟩,
    ⟨some 10, .mv (.s 12), none⟩])
  (.cond (.s 10) (.seq (.reg [⟨some 13, .load true 9 (.s 2), none⟩,
    ⟨none, .store 9 (.s 4) (.s 13), none⟩,
    ⟨some 5, .mv (.c (.int .i64 2)), none⟩])
  .ret)
  .skip)))))
  (.seq (.reg [⟨some 14, .mv (.s 1), none⟩,
    ⟨some 15, .fld 8 (.s 2), none⟩,
    ⟨none, .store 1 (.s 15) (.s 14), none⟩])
  (.seq (.reg [⟨some 16, .load true 9 (.s 2), none⟩,
    ⟨none, .store 9 (.s 4) (.s 16), none⟩,
    ⟨some 5, .mv (.c (.int .i64 0)), none⟩])
  .ret))))⟩

/-- (sumpter/sumpterref14.Disk).Create -/
def sf320 : SF :=
  ⟨2, 11, [.cell 4 true 9, .t 5],
  (.seq (.reg [⟨some 2, .box (some 0) 9 (.s 0), none⟩,
    ⟨some 4, .alloc (some 1) [.v (.int .i64 0), .v (.slice none 0 0), .v (.slice none 0 0), .v (.slice none 0 0), .v (.bool false), .v (.int .i64 0), .v (.int .i64 0), .v (.bool false), .v (.int .i64 0)], none⟩,
    ⟨some 5, .mv (.c (.int .i64 0)), none⟩])
  (.seq (.reg [⟨some 6, .load true 9 (.s 2), none⟩,
    ⟨some 7, .mv (.s 1), none⟩,
    ⟨some 8, .call 353 [(.s 6), (.s 7), (.c (.bool false))], none⟩,
    ⟨some 9, .ext (.s 8) 0, none⟩,
    ⟨some 10, .ext (.s 8) 1, none⟩,
    ⟨none, .store 9 (.s 4) (.s 9), none⟩,
    ⟨some 5, .mv (.s 10), none⟩])
  .ret))⟩

/-- (sumpter/sumpterref14.Disk).Append -/
def sf321 : SF :=
  ⟨3, 61, [.cell 6 true 9, .t 7],
  (.seq (.reg [⟨some 3, .box (some 0) 9 (.s 0), none⟩,
    ⟨some 6, .alloc (some 1) [.v (.int .i64 0), .v (.slice none 0 0), .v (.slice none 0 0), .v (.slice none 0 0), .v (.bool false), .v (.int .i64 0), .v (.int .i64 0), .v (.bool false), .v (.int .i64 0)], none⟩,
    ⟨some 7, .mv (.c (.int .i64 0)), none⟩])
  (.seq (.reg [⟨some 11, .load true 9 (.s 3), none⟩,
    ⟨some 12, .mv (.s 1), none⟩,
    ⟨some 13, .call 354 [(.s 11), (.s 12)], none⟩,
    ⟨some 8, .mv (.s 13), none⟩])
  (.seq (.seq (.reg [⟨some 14, .mv (.s 8), none⟩,
    ⟨some 15, .int .neq (.s 14) (.c (.int .i64 0)), none⟩])
  (.cond (.s 15) (.seq (.reg [⟨some 16, .load true 9 (.s 3), none⟩,
    ⟨some 17, .mv (.s 8), none⟩,
    ⟨none, .store 9 (.s 6) (.s 16), none⟩,
    ⟨some 7, .mv (.s 17), none⟩])
  .ret)
  .skip))
  (.seq (.reg [⟨some 19, .load true 9 (.s 3), none⟩,
    ⟨some 20, .mv (.s 1), none⟩,
    ⟨some 21, .call 355 [(.s 19), (.s 20)], none⟩,
    ⟨some 18, .mv (.s 21), none⟩,
    ⟨some 22, .ext (.s 18) 0, none⟩,
    ⟨some 23, .ext (.s 18) 1, none⟩,
    ⟨some 9, .alloc (some 2) [.v (.string ⟨#[]⟩), .v (.bool false), .v (.int .i64 0)], none⟩,
    ⟨none, .store 3 (.s 9) (.s 22), none⟩,
    ⟨some 8, .mv (.s 23), none⟩])
  (.seq (.block 0 (.seq (.reg [⟨some 25, .mv (.s 8), none⟩,
    ⟨some 26, .int .neq (.s 25) (.c (.int .i64 0)), none⟩,
    ⟨some 24, .mv (.s 26), none⟩])
  (.cond (.s 24) (.seq (.reg [⟨some 27, .load true 9 (.s 3), none⟩,
    ⟨some 28, .mv (.s 8), none⟩,
    ⟨none, .store 9 (.s 6) (.s 27), none⟩,
    ⟨some 7, .mv (.s 28), none⟩])
  .ret)
  (.seq (.dreg [0, 1, 2, 3, 4, 5, 6, 7, 8] [⟨⟨some 30, .mv (.s 2), none⟩, []⟩,
    ⟨⟨some 31, .len (.s 30), none⟩, []⟩,
    ⟨⟨some 32, .fld 0 (.s 3), none⟩, []⟩,
    ⟨⟨some 33, .load false 1 (.s 32), none⟩, []⟩,
    ⟨⟨some 34, .load true 9 (.s 3), none⟩, []⟩,
    ⟨⟨some 35, .call 347 [(.s 34)], none⟩, [3]⟩,
    ⟨⟨some 36, .int .sub (.s 33) (.s 35), none⟩, []⟩,
    ⟨⟨some 37, .int .gtr (.s 31) (.s 36), none⟩, []⟩,
    ⟨⟨some 29, .mv (.s 37), none⟩, []⟩])
  (.cond (.s 29) (.seq (.reg [⟨some 38, .load true 9 (.s 3), none⟩,
    ⟨none, .store 9 (.s 6) (.s 38), none⟩,
    ⟨some 7, .mv (.c (.int .i64 10)), none⟩])
  .ret)
  .skip)))))
  (.seq (.reg [⟨some 39, .fld 3 (.s 3), none⟩,
    ⟨some 40, .load false 1 (.s 39), none⟩,
    ⟨some 41, .fld 2 (.s 9), none⟩,
    ⟨some 42, .load false 1 (.s 41), none⟩,
    ⟨some 43, .idx 2 (.s 40) (.s 42), none⟩,
    ⟨some 44, .load true 2 (.s 43), none⟩,
    ⟨some 10, .alloc (some 3) [.v (.string ⟨#[]⟩), .v (.int .i64 0)], none⟩,
    ⟨none, .store 2 (.s 10) (.s 44), none⟩])
  (.seq (.dreg [2, 4, 6, 9, 0, 1, 3, 5, 10, 7, 8, 11, 12, 13, 14, 15, 16, 17] [⟨⟨some 47, .fld 2 (.s 9), none⟩, []⟩,
    ⟨⟨some 49, .fld 0 (.s 10), none⟩, []⟩,
    ⟨⟨some 51, .mv (.s 2), none⟩, []⟩,
    ⟨⟨some 54, .fld 1 (.s 10), none⟩, []⟩,
    ⟨⟨some 45, .load true 9 (.s 3), none⟩, []⟩,
    ⟨⟨some 46, .load true 9 (.s 3), none⟩, []⟩,
    ⟨⟨some 48, .load false 1 (.s 47), none⟩, []⟩,
    ⟨⟨some 50, .load false 1 (.s 49), none⟩, []⟩,
    ⟨⟨some 55, .load false 1 (.s 54), none⟩, []⟩,
    ⟨⟨some 52, .nd .b2s [(.s 51)], none⟩, []⟩,
    ⟨⟨some 53, .str .add (.s 50) (.s 52), none⟩, []⟩,
    ⟨⟨some 56, .build [.v (.string ⟨#[]⟩), .v (.int .i64 0)] [(0, 1, (.s 53)), (1, 1, (.s 55))], none⟩, []⟩,
    ⟨⟨some 57, .call 356 [(.s 46), (.s 48), (.s 56)], none⟩, [4]⟩,
    ⟨⟨some 58, .call 357 [(.s 45), (.s 57)], none⟩, []⟩,
    ⟨⟨some 59, .ext (.s 58) 0, none⟩, []⟩,
    ⟨⟨some 60, .ext (.s 58) 1, none⟩, []⟩,
    ⟨⟨none, .store 9 (.s 6) (.s 59), none⟩, []⟩,
    ⟨⟨some 7, .mv (.s 60), none⟩, []⟩])
  .ret)))))))⟩

/-- (sumpter/sumpterref14.Disk).Cut -/
def sf322 : SF :=
  ⟨3, 68, [.cell 6 true 9, .t 7],
  (.seq (.reg [⟨some 3, .box (some 0) 9 (.s 0), none⟩,
    ⟨some 6, .alloc (some 1) [.v (.int .i64 0), .v (.slice none 0 0), .v (.slice none 0 0), .v (.slice none 0 0), .v (.bool false), .v (.int .i64 0), .v (.int .i64 0), .v (.bool false), .v (.int .i64 0)], none⟩,
    ⟨some 7, .mv (.c (.int .i64 0)), none⟩])
  (.seq (.reg [⟨some 11, .load true 9 (.s 3), none⟩,
    ⟨some 12, .mv (.s 1), none⟩,
    ⟨some 13, .call 354 [(.s 11), (.s 12)], none⟩,
    ⟨some 8, .mv (.s 13), none⟩])
  (.seq (.seq (.reg [⟨some 14, .mv (.s 8), none⟩,
    ⟨some 15, .int .neq (.s 14) (.c (.int .i64 0)), none⟩])
  (.cond (.s 15) (.seq (.reg [⟨some 16, .load true 9 (.s 3), none⟩,
    ⟨some 17, .mv (.s 8), none⟩,
    ⟨none, .store 9 (.s 6) (.s 16), none⟩,
    ⟨some 7, .mv (.s 17), none⟩])
  .ret)
  .skip))
  (.seq (.reg [⟨some 19, .load true 9 (.s 3), none⟩,
    ⟨some 20, .mv (.s 1), none⟩,
    ⟨some 21, .call 355 [(.s 19), (.s 20)], none⟩,
    ⟨some 18, .mv (.s 21), none⟩,
    ⟨some 22, .ext (.s 18) 0, none⟩,
    ⟨some 23, .ext (.s 18) 1, none⟩,
    ⟨some 9, .alloc (some 2) [.v (.string ⟨#[]⟩), .v (.bool false), .v (.int .i64 0)], none⟩,
    ⟨none, .store 3 (.s 9) (.s 22), none⟩,
    ⟨some 8, .mv (.s 23), none⟩])
  (.seq (.block 0 (.seq (.reg [⟨some 25, .mv (.s 8), none⟩,
    ⟨some 26, .int .neq (.s 25) (.c (.int .i64 0)), none⟩,
    ⟨some 24, .mv (.s 26), none⟩])
  (.cond (.s 24) (.seq (.reg [⟨some 27, .load true 9 (.s 3), none⟩,
    ⟨some 28, .mv (.s 8), none⟩,
    ⟨none, .store 9 (.s 6) (.s 27), none⟩,
    ⟨some 7, .mv (.s 28), none⟩])
  .ret)
  (.seq (.reg [⟨some 30, .mv (.s 2), none⟩,
    ⟨some 31, .int .lss (.s 30) (.c (.int .i64 0)), none⟩,
    ⟨some 32, .mv (.s 31), none⟩,
    ⟨some 33, .mv (.s 2), (some (32, false))⟩,
    ⟨some 34, .fld 3 (.s 3), (some (32, false))⟩,
    ⟨some 35, .load false 1 (.s 34), (some (32, false))⟩,
    ⟨some 36, .fld 2 (.s 9), (some (32, false))⟩,
    ⟨some 37, .load false 1 (.s 36), (some (32, false))⟩,
    ⟨some 38, .idx 2 (.s 35) (.s 37), (some (32, false))⟩,
    ⟨some 39, .fld 0 (.s 38), (some (32, false))⟩,
    ⟨some 40, .load false 1 (.s 39), (some (32, false))⟩,
    ⟨some 41, .slen (.s 40), (some (32, false))⟩,
    ⟨some 42, .int .gtr (.s 33) (.s 41), (some (32, false))⟩,
    ⟨some 43, .pick (.s 32) (.c (.bool true)) (.s 42), none⟩,
    ⟨some 29, .mv (.s 43), none⟩])
  (.cond (.s 29) (.seq (.reg [⟨some 44, .load true 9 (.s 3), none⟩,
    ⟨none, .store 9 (.s 6) (.s 44), none⟩,
    ⟨some 7, .mv (.c (.int .i64 13)), none⟩])
  .ret)
  .skip)))))
  (.seq (.reg [⟨some 45, .fld 3 (.s 3), none⟩,
    ⟨some 46, .load false 1 (.s 45), none⟩,
    ⟨some 47, .fld 2 (.s 9), none⟩,
    ⟨some 48, .load false 1 (.s 47), none⟩,
    ⟨some 49, .idx 2 (.s 46) (.s 48), none⟩,
    ⟨some 50, .load true 2 (.s 49), none⟩,
    ⟨some 10, .alloc (some 3) [.v (.string ⟨#[]⟩), .v (.int .i64 0)], none⟩,
    ⟨none, .store 2 (.s 10) (.s 50), none⟩])
  (.seq (.dreg [2, 4, 6, 8, 9, 0, 1, 3, 5, 7, 10, 11, 12, 13, 14, 15, 16, 17, 18] [⟨⟨some 53, .fld 2 (.s 9), none⟩, []⟩,
    ⟨⟨some 55, .fld 0 (.s 10), none⟩, []⟩,
    ⟨⟨some 57, .mv (.s 2), none⟩, []⟩,
    ⟨⟨some 59, .mv (.s 2), none⟩, []⟩,
    ⟨⟨some 60, .fld 1 (.s 10), none⟩, []⟩,
    ⟨⟨some 51, .load true 9 (.s 3), none⟩, []⟩,
    ⟨⟨some 52, .load true 9 (.s 3), none⟩, []⟩,
    ⟨⟨some 54, .load false 1 (.s 53), none⟩, []⟩,
    ⟨⟨some 56, .load false 1 (.s 55), none⟩, []⟩,
    ⟨⟨some 58, .ssl (.s 56) none (some (.s 57)), none⟩, []⟩,
    ⟨⟨some 61, .load false 1 (.s 60), none⟩, []⟩,
    ⟨⟨some 62, .mm false (.s 59) (.s 61), none⟩, []⟩,
    ⟨⟨some 63, .build [.v (.string ⟨#[]⟩), .v (.int .i64 0)] [(0, 1, (.s 58)), (1, 1, (.s 62))], none⟩, []⟩,
    ⟨⟨some 64, .call 356 [(.s 52), (.s 54), (.s 63)], none⟩, [5]⟩,
    ⟨⟨some 65, .call 357 [(.s 51), (.s 64)], none⟩, []⟩,
    ⟨⟨some 66, .ext (.s 65) 0, none⟩, []⟩,
    ⟨⟨some 67, .ext (.s 65) 1, none⟩, []⟩,
    ⟨⟨none, .store 9 (.s 6) (.s 66), none⟩, []⟩,
    ⟨⟨some 7, .mv (.s 67), none⟩, []⟩])
  .ret)))))))⟩

/-- (sumpter/sumpterref14.Disk).Sync -/
def sf323 : SF :=
  ⟨2, 46, [.cell 4 true 9, .t 5],
  (.seq (.reg [⟨some 2, .box (some 0) 9 (.s 0), none⟩,
    ⟨some 4, .alloc (some 1) [.v (.int .i64 0), .v (.slice none 0 0), .v (.slice none 0 0), .v (.slice none 0 0), .v (.bool false), .v (.int .i64 0), .v (.int .i64 0), .v (.bool false), .v (.int .i64 0)], none⟩,
    ⟨some 5, .mv (.c (.int .i64 0)), none⟩])
  (.seq (.reg [⟨some 9, .load true 9 (.s 2), none⟩,
    ⟨some 10, .mv (.s 1), none⟩,
    ⟨some 11, .call 354 [(.s 9), (.s 10)], none⟩,
    ⟨some 6, .mv (.s 11), none⟩])
  (.seq (.seq (.reg [⟨some 12, .mv (.s 6), none⟩,
    ⟨some 13, .int .neq (.s 12) (.c (.int .i64 0)), none⟩])
  (.cond (.s 13) (.seq (.reg [⟨some 14, .load true 9 (.s 2), none⟩,
    ⟨some 15, .mv (.s 6), none⟩,
    ⟨none, .store 9 (.s 4) (.s 14), none⟩,
    ⟨some 5, .mv (.s 15), none⟩])
  .ret)
  .skip))
  (.seq (.reg [⟨some 17, .load true 9 (.s 2), none⟩,
    ⟨some 18, .mv (.s 1), none⟩,
    ⟨some 19, .call 355 [(.s 17), (.s 18)], none⟩,
    ⟨some 16, .mv (.s 19), none⟩,
    ⟨some 20, .ext (.s 16) 0, none⟩,
    ⟨some 21, .ext (.s 16) 1, none⟩,
    ⟨some 7, .alloc (some 2) [.v (.string ⟨#[]⟩), .v (.bool false), .v (.int .i64 0)], none⟩,
    ⟨none, .store 3 (.s 7) (.s 20), none⟩,
    ⟨some 6, .mv (.s 21), none⟩])
  (.seq (.seq (.reg [⟨some 22, .mv (.s 6), none⟩,
    ⟨some 23, .int .neq (.s 22) (.c (.int .i64 0)), none⟩])
  (.cond (.s 23) (.seq (.reg [⟨some 24, .load true 9 (.s 2), none⟩,
    ⟨some 25, .mv (.s 6), none⟩,
    ⟨none, .store 9 (.s 4) (.s 24), none⟩,
    ⟨some 5, .mv (.s 25), none⟩])
  .ret)
  .skip))
  (.seq (.reg [⟨some 26, .fld 3 (.s 2), none⟩,
    ⟨some 27, .load false 1 (.s 26), none⟩,
    ⟨some 28, .fld 2 (.s 7), none⟩,
    ⟨some 29, .load false 1 (.s 28), none⟩,
    ⟨some 30, .idx 2 (.s 27) (.s 29), none⟩,
    ⟨some 31, .load true 2 (.s 30), none⟩,
    ⟨some 8, .alloc (some 3) [.v (.string ⟨#[]⟩), .v (.int .i64 0)], none⟩,
    ⟨none, .store 2 (.s 8) (.s 31), none⟩])
  (.seq (.dreg [2, 4, 6, 0, 1, 3, 5, 7, 8, 9, 10, 11, 12, 13, 14, 15] [⟨⟨some 34, .fld 2 (.s 7), none⟩, []⟩,
    ⟨⟨some 36, .fld 0 (.s 8), none⟩, []⟩,
    ⟨⟨some 38, .fld 0 (.s 8), none⟩, []⟩,
    ⟨⟨some 32, .load true 9 (.s 2), none⟩, []⟩,
    ⟨⟨some 33, .load true 9 (.s 2), none⟩, []⟩,
    ⟨⟨some 35, .load false 1 (.s 34), none⟩, []⟩,
    ⟨⟨some 37, .load false 1 (.s 36), none⟩, []⟩,
    ⟨⟨some 39, .load false 1 (.s 38), none⟩, []⟩,
    ⟨⟨some 40, .slen (.s 39), none⟩, []⟩,
    ⟨⟨some 41, .build [.v (.string ⟨#[]⟩), .v (.int .i64 0)] [(0, 1, (.s 37)), (1, 1, (.s 40))], none⟩, []⟩,
    ⟨⟨some 42, .call 356 [(.s 33), (.s 35), (.s 41)], none⟩, [3]⟩,
    ⟨⟨some 43, .call 357 [(.s 32), (.s 42)], none⟩, []⟩,
    ⟨⟨some 44, .ext (.s 43) 0, none⟩, []⟩,
    ⟨⟨some 45, .ext (.s 43) 1, none⟩, []⟩,
    ⟨⟨none, .store 9 (.s 4) (.s 44), none⟩, []⟩,
    ⟨⟨some 5, .mv (.s 45), none⟩, []⟩])
  .ret)))))))⟩

/-- (sumpter/sumpterref14.Disk).Mkdir -/
def sf324 : SF :=
  ⟨2, 11, [.cell 4 true 9, .t 5],
  (.seq (.reg [⟨some 2, .box (some 0) 9 (.s 0), none⟩,
    ⟨some 4, .alloc (some 1) [.v (.int .i64 0), .v (.slice none 0 0), .v (.slice none 0 0), .v (.slice none 0 0), .v (.bool false), .v (.int .i64 0), .v (.int .i64 0), .v (.bool false), .v (.int .i64 0)], none⟩,
    ⟨some 5, .mv (.c (.int .i64 0)), none⟩])
  (.seq (.reg [⟨some 6, .load true 9 (.s 2), none⟩,
    ⟨some 7, .mv (.s 1), none⟩,
    ⟨some 8, .call 353 [(.s 6), (.s 7), (.c (.bool true))], none⟩,
    ⟨some 9, .ext (.s 8) 0, none⟩,
    ⟨some 10, .ext (.s 8) 1, none⟩,
    ⟨none, .store 9 (.s 4) (.s 9), none⟩,
    ⟨some 5, .mv (.s 10), none⟩])
  .ret))⟩

/-- (sumpter/sumpterref14.Disk).Remove -/
def sf325 : SF :=
  ⟨2, 52, [.cell 4 true 9, .t 5],
  (.seq (.reg [⟨some 2, .box (some 0) 9 (.s 0), none⟩,
    ⟨some 4, .alloc (some 1) [.v (.int .i64 0), .v (.slice none 0 0), .v (.slice none 0 0), .v (.slice none 0 0), .v (.bool false), .v (.int .i64 0), .v (.int .i64 0), .v (.bool false), .v (.int .i64 0)], none⟩,
    ⟨some 5, .mv (.c (.int .i64 0)), none⟩])
  (.seq (.reg [⟨some 11, .load true 9 (.s 2), none⟩,
    ⟨some 12, .mv (.s 1), none⟩,
    ⟨some 13, .call 354 [(.s 11), (.s 12)], none⟩,
    ⟨some 6, .mv (.s 13), none⟩])
  (.seq (.seq (.reg [⟨some 14, .mv (.s 6), none⟩,
    ⟨some 15, .int .neq (.s 14) (.c (.int .i64 0)), none⟩])
  (.cond (.s 15) (.seq (.reg [⟨some 16, .load true 9 (.s 2), none⟩,
    ⟨some 17, .mv (.s 6), none⟩,
    ⟨none, .store 9 (.s 4) (.s 16), none⟩,
    ⟨some 5, .mv (.s 17), none⟩])
  .ret)
  .skip))
  (.seq (.reg [⟨some 19, .load true 9 (.s 2), none⟩,
    ⟨some 20, .mv (.s 1), none⟩,
    ⟨some 21, .call 358 [(.s 19), (.s 20)], none⟩,
    ⟨some 18, .mv (.s 21), none⟩,
    ⟨some 22, .ext (.s 18) 0, none⟩,
    ⟨some 23, .ext (.s 18) 1, none⟩,
    ⟨some 7, .alloc (some 2) [.v (.string ⟨#[]⟩), .v (.bool false), .v (.int .i64 0)], none⟩,
    ⟨none, .store 3 (.s 7) (.s 22), none⟩,
    ⟨some 8, .mv (.s 23), none⟩])
  (.seq (.seq (.reg [⟨some 24, .mv (.s 8), none⟩,
    ⟨some 25, .not (.s 24), none⟩])
  (.cond (.s 25) (.seq (.reg [⟨some 26, .load true 9 (.s 2), none⟩,
    ⟨none, .store 9 (.s 4) (.s 26), none⟩,
    ⟨some 5, .mv (.c (.int .i64 8)), none⟩])
  .ret)
  .skip))
  (.seq (.reg [⟨some 27, .load true 9 (.s 2), none⟩,
    ⟨some 28, .call 352 [(.s 27)], none⟩,
    ⟨some 9, .mv (.s 28), none⟩])
  (.seq (.seq (.reg [⟨some 10, .mv (.c (.int .i64 0)), none⟩])
  (.block 0 (.loop (.seq (.seq (.reg [⟨some 29, .mv (.s 10), none⟩,
    ⟨some 30, .mv (.s 9), none⟩,
    ⟨some 31, .len (.s 30), none⟩,
    ⟨some 32, .int .lss (.s 29) (.s 31), none⟩])
  (.cond (.s 32) .skip
  (.exit 0)))
  (.seq (.block 1 (.seq (.reg [⟨some 35, .mv (.s 9), none⟩,
    ⟨some 36, .mv (.s 10), none⟩,
    ⟨some 37, .idx 3 (.s 35) (.s 36), none⟩,
    ⟨some 38, .fld 0 (.s 37), none⟩,
    ⟨some 39, .load false 1 (.s 38), none⟩,
    ⟨some 40, .call 170 [(.s 39)], none⟩,
    ⟨some 41, .mv (.s 1), none⟩,
    ⟨some 42, .str .eql (.s 40) (.s 41), none⟩])
  (.cond (.s 42) (.seq (.reg [⟨some 43, .load true 9 (.s 2), none⟩,
    ⟨none, .store 9 (.s 4) (.s 43), none⟩,
    ⟨some 5, .mv (.c (.int .i64 10)), none⟩])
  .ret)
  .skip)))
  (.reg [⟨some 33, .mv (.s 10), none⟩,
    ⟨some 34, .int .add (.s 33) (.c (.int .i64 1)), none⟩,
    ⟨some 10, .mv (.s 34), none⟩]))))))
  (.seq (.dreg [0, 1, 2, 3, 4, 5, 6, 7, 8, 9] [⟨⟨some 44, .load true 9 (.s 2), none⟩, []⟩,
    ⟨⟨some 45, .load true 9 (.s 2), none⟩, []⟩,
    ⟨⟨some 46, .load true 3 (.s 7), none⟩, []⟩,
    ⟨⟨some 47, .bslice 3 [(.s 46)], none⟩, []⟩,
    ⟨⟨some 48, .call 359 [(.s 45), (.s 47), (.c (.slice none 0 0))], none⟩, [0]⟩,
    ⟨⟨some 49, .call 357 [(.s 44), (.s 48)], none⟩, []⟩,
    ⟨⟨some 50, .ext (.s 49) 0, none⟩, []⟩,
    ⟨⟨some 51, .ext (.s 49) 1, none⟩, []⟩,
    ⟨⟨none, .store 9 (.s 4) (.s 50), none⟩, []⟩,
    ⟨⟨some 5, .mv (.s 51), none⟩, []⟩])
  .ret))))))))⟩

/-- (sumpter/sumpterref14.Disk).Rename -/
def sf326 : SF :=
  ⟨3, 73, [.cell 6 true 9, .t 7],
  (.seq (.reg [⟨some 3, .box (some 0) 9 (.s 0), none⟩,
    ⟨some 6, .alloc (some 1) [.v (.int .i64 0), .v (.slice none 0 0), .v (.slice none 0 0), .v (.slice none 0 0), .v (.bool false), .v (.int .i64 0), .v (.int .i64 0), .v (.bool false), .v (.int .i64 0)], none⟩,
    ⟨some 7, .mv (.c (.int .i64 0)), none⟩])
  (.seq (.reg [⟨some 13, .load true 9 (.s 3), none⟩,
    ⟨some 14, .mv (.s 1), none⟩,
    ⟨some 15, .call 354 [(.s 13), (.s 14)], none⟩,
    ⟨some 8, .mv (.s 15), none⟩])
  (.seq (.seq (.reg [⟨some 16, .mv (.s 8), none⟩,
    ⟨some 17, .int .eql (.s 16) (.c (.int .i64 0)), none⟩])
  (.cond (.s 17) (.reg [⟨some 18, .mv (.s 2), none⟩,
    ⟨some 19, .call 199 [(.s 18)], none⟩,
    ⟨some 8, .mv (.s 19), none⟩])
  .skip))
  (.seq (.seq (.reg [⟨some 20, .mv (.s 8), none⟩,
    ⟨some 21, .int .neq (.s 20) (.c (.int .i64 0)), none⟩])
  (.cond (.s 21) (.seq (.reg [⟨some 22, .load true 9 (.s 3), none⟩,
    ⟨some 23, .mv (.s 8), none⟩,
    ⟨none, .store 9 (.s 6) (.s 22), none⟩,
    ⟨some 7, .mv (.s 23), none⟩])
  .ret)
  .skip))
  (.seq (.reg [⟨some 25, .load true 9 (.s 3), none⟩,
    ⟨some 26, .mv (.s 1), none⟩,
    ⟨some 27, .call 355 [(.s 25), (.s 26)], none⟩,
    ⟨some 24, .mv (.s 27), none⟩,
    ⟨some 28, .ext (.s 24) 0, none⟩,
    ⟨some 29, .ext (.s 24) 1, none⟩,
    ⟨some 9, .alloc (some 2) [.v (.string ⟨#[]⟩), .v (.bool false), .v (.int .i64 0)], none⟩,
    ⟨none, .store 3 (.s 9) (.s 28), none⟩,
    ⟨some 8, .mv (.s 29), none⟩])
  (.seq (.seq (.reg [⟨some 30, .mv (.s 8), none⟩,
    ⟨some 31, .int .eql (.s 30) (.c (.int .i64 0)), none⟩])
  (.cond (.s 31) (.reg [⟨some 32, .load true 9 (.s 3), none⟩,
    ⟨some 33, .mv (.s 2), none⟩,
    ⟨some 34, .call 360 [(.s 32), (.s 33)], none⟩,
    ⟨some 8, .mv (.s 34), none⟩])
  .skip))
  (.seq (.reg [⟨some 36, .load true 9 (.s 3), none⟩,
    ⟨some 37, .mv (.s 2), none⟩,
    ⟨some 38, .call 358 [(.s 36), (.s 37)], none⟩,
    ⟨some 35, .mv (.s 38), none⟩,
    ⟨some 39, .ext (.s 35) 0, none⟩,
    ⟨some 40, .ext (.s 35) 1, none⟩,
    ⟨some 10, .alloc (some 3) [.v (.string ⟨#[]⟩), .v (.bool false), .v (.int .i64 0)], none⟩,
    ⟨none, .store 3 (.s 10) (.s 39), none⟩,
    ⟨some 11, .mv (.s 40), none⟩])
  (.seq (.seq (.reg [⟨some 41, .mv (.s 8), none⟩,
    ⟨some 42, .int .eql (.s 41) (.c (.int .i64 0)), none⟩,
    ⟨some 43, .mv (.s 42), none⟩,
    ⟨some 44, .mv (.s 11), (some (43, true))⟩,
    ⟨some 45, .pick (.s 43) (.s 44) (.c (.bool false)), none⟩,
    ⟨some 46, .mv (.s 45), none⟩,
    ⟨some 47, .fld 1 (.s 10), (some (46, true))⟩,
    ⟨some 48, .load false 1 (.s 47), (some (46, true))⟩,
    ⟨some 49, .pick (.s 46) (.s 48) (.c (.bool false)), none⟩])
  (.cond (.s 49) (.reg [⟨some 8, .mv (.c (.int .i64 9)), none⟩])
  .skip))
  (.seq (.seq (.reg [⟨some 50, .mv (.s 8), none⟩,
    ⟨some 51, .int .neq (.s 50) (.c (.int .i64 0)), none⟩])
  (.cond (.s 51) (.seq (.reg [⟨some 52, .load true 9 (.s 3), none⟩,
    ⟨some 53, .mv (.s 8), none⟩,
    ⟨none, .store 9 (.s 6) (.s 52), none⟩,
    ⟨some 7, .mv (.s 53), none⟩])
  .ret)
  .skip))
  (.seq (.reg [⟨some 54, .load true 3 (.s 9), none⟩,
    ⟨some 55, .bslice 3 [(.s 54)], none⟩,
    ⟨some 12, .mv (.s 55), none⟩])
  (.seq (.seq (.reg [⟨some 56, .mv (.s 11), none⟩])
  (.cond (.s 56) (.reg [⟨some 57, .mv (.s 12), none⟩,
    ⟨some 58, .load true 3 (.s 10), none⟩,
    ⟨some 59, .bslice 3 [(.s 58)], none⟩,
    ⟨some 60, .app 3 32 (.s 57) (.s 59), none⟩,
    ⟨some 12, .mv (.s 60), none⟩])
  .skip))
  (.seq (.dreg [2, 3, 4, 0, 1, 5, 6, 7, 8, 9, 10, 11, 12, 13] [⟨⟨some 63, .mv (.s 12), none⟩, []⟩,
    ⟨⟨some 64, .mv (.s 2), none⟩, []⟩,
    ⟨⟨some 65, .fld 2 (.s 9), none⟩, []⟩,
    ⟨⟨some 61, .load true 9 (.s 3), none⟩, []⟩,
    ⟨⟨some 62, .load true 9 (.s 3), none⟩, []⟩,
    ⟨⟨some 66, .load false 1 (.s 65), none⟩, []⟩,
    ⟨⟨some 67, .build [.v (.string ⟨#[]⟩), .v (.bool false), .v (.int .i64 0)] [(0, 1, (.s 64)), (1, 1, (.c (.bool false))), (2, 1, (.s 66))], none⟩, []⟩,
    ⟨⟨some 68, .bslice 3 [(.s 67)], none⟩, []⟩,
    ⟨⟨some 69, .call 359 [(.s 62), (.s 63), (.s 68)], none⟩, [3]⟩,
    ⟨⟨some 70, .call 357 [(.s 61), (.s 69)], none⟩, []⟩,
    ⟨⟨some 71, .ext (.s 70) 0, none⟩, []⟩,
    ⟨⟨some 72, .ext (.s 70) 1, none⟩, []⟩,
    ⟨⟨none, .store 9 (.s 6) (.s 71), none⟩, []⟩,
    ⟨⟨some 7, .mv (.s 72), none⟩, []⟩])
  .ret))))))))))))⟩

/-- (sumpter/sumpterref14.Disk).SyncDirs -/
def sf327 : SF :=
  ⟨1, 18, [.cell 2 true 9, .t 3],
  (.seq (.reg [⟨some 1, .box (some 0) 9 (.s 0), none⟩,
    ⟨some 2, .alloc (some 1) [.v (.int .i64 0), .v (.slice none 0 0), .v (.slice none 0 0), .v (.slice none 0 0), .v (.bool false), .v (.int .i64 0), .v (.int .i64 0), .v (.bool false), .v (.int .i64 0)], none⟩,
    ⟨some 3, .mv (.c (.int .i64 0)), none⟩])
  (.seq (.seq (.reg [⟨some 5, .fld 4 (.s 1), none⟩,
    ⟨some 6, .load false 1 (.s 5), none⟩])
  (.cond (.s 6) (.seq (.reg [⟨some 7, .load true 9 (.s 1), none⟩,
    ⟨none, .store 9 (.s 2) (.s 7), none⟩,
    ⟨some 3, .mv (.c (.int .i64 11)), none⟩])
  .ret)
  .skip))
  (.seq (.reg [⟨some 8, .load true 9 (.s 1), none⟩,
    ⟨some 4, .alloc (some 2) [.v (.int .i64 0), .v (.slice none 0 0), .v (.slice none 0 0), .v (.slice none 0 0), .v (.bool false), .v (.int .i64 0), .v (.int .i64 0), .v (.bool false), .v (.int .i64 0)], none⟩,
    ⟨none, .store 9 (.s 4) (.s 8), none⟩])
  (.seq (.reg [⟨some 9, .load true 9 (.s 1), none⟩,
    ⟨some 10, .call 352 [(.s 9)], none⟩,
    ⟨some 11, .fld 1 (.s 4), none⟩,
    ⟨none, .store 1 (.s 11) (.s 10), none⟩,
    ⟨some 12, .fld 2 (.s 4), none⟩,
    ⟨none, .store 1 (.s 12) (.c (.slice none 0 0)), none⟩])
  (.seq (.reg [⟨some 13, .load true 9 (.s 1), none⟩,
    ⟨some 14, .load true 9 (.s 4), none⟩,
    ⟨some 15, .call 357 [(.s 13), (.s 14)], none⟩,
    ⟨some 16, .ext (.s 15) 0, none⟩,
    ⟨some 17, .ext (.s 15) 1, none⟩,
    ⟨none, .store 9 (.s 2) (.s 16), none⟩,
    ⟨some 3, .mv (.s 17), none⟩])
  .ret)))))⟩

/-- (sumpter/sumpterref14.Disk).Fail -/
def sf328 : SF :=
  ⟨3, 21, [.cell 6 true 9, .t 7],
  (.seq (.reg [⟨some 3, .box (some 0) 9 (.s 0), none⟩,
    ⟨some 6, .alloc (some 1) [.v (.int .i64 0), .v (.slice none 0 0), .v (.slice none 0 0), .v (.slice none 0 0), .v (.bool false), .v (.int .i64 0), .v (.int .i64 0), .v (.bool false), .v (.int .i64 0)], none⟩,
    ⟨some 7, .mv (.c (.int .i64 0)), none⟩])
  (.seq (.block 0 (.seq (.reg [⟨some 9, .fld 4 (.s 3), none⟩,
    ⟨some 10, .load false 1 (.s 9), none⟩,
    ⟨some 8, .mv (.s 10), none⟩])
  (.cond (.s 8) (.seq (.reg [⟨some 11, .load true 9 (.s 3), none⟩,
    ⟨none, .store 9 (.s 6) (.s 11), none⟩,
    ⟨some 7, .mv (.c (.int .i64 11)), none⟩])
  .ret)
  (.seq (.reg [⟨some 13, .mv (.s 1), none⟩,
    ⟨some 14, .int .lss (.s 13) (.c (.int .i64 0)), none⟩,
    ⟨some 12, .mv (.s 14), none⟩])
  (.cond (.s 12) (.seq (.reg [⟨some 15, .load true 9 (.s 3), none⟩,
    ⟨none, .store 9 (.s 6) (.s 15), none⟩,
    ⟨some 7, .mv (.c (.int .i64 2)), none⟩])
  .ret)
  .skip)))))
  (.seq (.reg [⟨some 16, .mv (.s 1), none⟩,
    ⟨some 17, .mv (.s 2), none⟩,
    ⟨some 18, .fld 6 (.s 3), none⟩,
    ⟨none, .store 1 (.s 18) (.s 16), none⟩,
    ⟨some 19, .fld 7 (.s 3), none⟩,
    ⟨none, .store 1 (.s 19) (.s 17), none⟩])
  (.seq (.reg [⟨some 20, .load true 9 (.s 3), none⟩,
    ⟨none, .store 9 (.s 6) (.s 20), none⟩,
    ⟨some 7, .mv (.c (.int .i64 0)), none⟩])
  .ret))))⟩

/-- maps.Clone[sumpter/disk.names,string,sumpter/disk.node] -/
def sf329 : SF :=
  ⟨1, 9, [.t 2],
  (.seq (.reg [⟨some 2, .mv (.c (.map none)), none⟩])
  (.seq (.seq (.reg [⟨some 3, .mv (.s 0), none⟩,
    ⟨some 4, .hop (.m (.isnil false)) [(.s 3)], none⟩])
  (.cond (.s 4) (.seq (.reg [⟨some 2, .mv (.c (.map none)), none⟩])
  .ret)
  .skip))
  (.seq (.reg [⟨some 5, .mv (.s 0), none⟩,
    ⟨some 6, .hop (.m (.mki 74)) [(.s 5)], none⟩,
    ⟨some 7, .hop (.m .cln) [(.s 6)], none⟩,
    ⟨some 8, .hop (.m (.tas 74)) [(.s 7)], none⟩,
    ⟨some 2, .mv (.s 8), none⟩])
  .ret)))⟩

/-- (sumpter/disk.names).apply -/
def sf330 : SF :=
  ⟨2, 32, [],
  (.seq (.reg [⟨some 3, .box (some 0) 2 (.s 1), none⟩])
  (.seq (.reg [⟨some 6, .fld 0 (.s 3), none⟩,
    ⟨some 7, .load false 1 (.s 6), none⟩,
    ⟨some 8, .len (.s 7), none⟩,
    ⟨some 9, .mv (.c (.int .i64 0)), none⟩])
  (.block 0 (.loop (.seq (.reg [⟨some 10, .int .lss (.s 9) (.s 8), none⟩])
  (.seq (.cond (.s 10) .skip
  (.exit 0))
  (.seq (.block 1 (.seq (.reg [⟨some 11, .mv (.s 9), none⟩,
    ⟨some 12, .idx 1 (.s 7) (.s 9), none⟩,
    ⟨some 13, .load false 1 (.s 12), none⟩,
    ⟨some 4, .mv (.s 11), none⟩,
    ⟨some 5, .mv (.s 13), none⟩])
  (.seq (.reg [⟨some 14, .fld 1 (.s 3), none⟩,
    ⟨some 15, .load false 1 (.s 14), none⟩,
    ⟨some 16, .mv (.s 4), none⟩,
    ⟨some 17, .idx 1 (.s 15) (.s 16), none⟩,
    ⟨some 18, .load false 1 (.s 17), none⟩,
    ⟨some 19, .eq .ptr false (.s 18) (.c (.pointer none)), none⟩])
  (.cond (.s 19) (.reg [⟨some 20, .mv (.s 0), none⟩,
    ⟨some 21, .mv (.s 5), none⟩,
    ⟨none, .hop (.m (.del true)) [(.s 20), (.s 21)], none⟩])
  (.reg [⟨some 22, .mv (.s 0), none⟩,
    ⟨some 23, .mv (.s 5), none⟩,
    ⟨some 24, .fld 1 (.s 3), none⟩,
    ⟨some 25, .load false 1 (.s 24), none⟩,
    ⟨some 26, .mv (.s 4), none⟩,
    ⟨some 27, .idx 1 (.s 25) (.s 26), none⟩,
    ⟨some 28, .load false 1 (.s 27), none⟩,
    ⟨some 29, .nilc (.s 28), none⟩,
    ⟨some 30, .load true 2 (.s 29), none⟩,
    ⟨none, .hop (.m (.upd true)) [(.s 22), (.s 23), (.s 30)], none⟩])))))
  (.reg [⟨some 31, .int .add (.s 9) (.c (.int .i64 1)), none⟩,
    ⟨some 9, .mv (.s 31), none⟩]))))))))⟩

/-- (*sumpter/disk.Disk).paths -/
def sf331 : SF :=
  ⟨1, 13, [.t 2],
  (.seq (.reg [⟨some 2, .mv (.c (.slice none 0 0)), none⟩])
  (.seq (.reg [⟨some 4, .mv (.s 0), none⟩,
    ⟨some 5, .nilc (.s 4), none⟩,
    ⟨some 6, .fld 2 (.s 5), none⟩,
    ⟨some 7, .load false 1 (.s 6), none⟩,
    ⟨some 8, .call 361 [(.s 7)], none⟩,
    ⟨some 9, .call 90 [(.s 8)], none⟩,
    ⟨some 3, .mv (.s 9), none⟩])
  (.seq (.reg [⟨some 10, .mv (.s 3), none⟩,
    ⟨some 11, .call 362 [(.s 10), (.f 363)], none⟩])
  (.seq (.reg [⟨some 12, .mv (.s 3), none⟩,
    ⟨some 2, .mv (.s 12), none⟩])
  .ret))))⟩

/-- (*sumpter/disk.Disk).file -/
def sf332 : SF :=
  ⟨2, 30, [.t 4, .t 5],
  (.seq (.reg [⟨some 4, .mv (.c (.pointer none)), none⟩,
    ⟨some 5, .mv (.c (.int .i64 0)), none⟩])
  (.seq (.reg [⟨some 9, .mv (.s 0), none⟩,
    ⟨some 10, .nilc (.s 9), none⟩,
    ⟨some 11, .fld 2 (.s 10), none⟩,
    ⟨some 12, .load false 1 (.s 11), none⟩,
    ⟨some 13, .mv (.s 1), none⟩,
    ⟨some 14, .hop (.m (.lkp true true true [.v (.bool false), .v (.int .i64 0)])) [(.s 12), (.s 13)], none⟩,
    ⟨some 8, .mv (.s 14), none⟩,
    ⟨some 15, .ext (.s 8) 0, none⟩,
    ⟨some 16, .ext (.s 8) 1, none⟩,
    ⟨some 6, .alloc (some 0) [.v (.bool false), .v (.int .i64 0)], none⟩,
    ⟨none, .store 2 (.s 6) (.s 15), none⟩,
    ⟨some 7, .mv (.s 16), none⟩])
  (.seq (.block 0 (.seq (.reg [⟨some 18, .mv (.s 7), none⟩,
    ⟨some 19, .not (.s 18), none⟩,
    ⟨some 17, .mv (.s 19), none⟩])
  (.cond (.s 17) (.seq (.reg [⟨some 4, .mv (.c (.pointer none)), none⟩,
    ⟨some 5, .mv (.c (.int .i64 8)), none⟩])
  .ret)
  (.seq (.reg [⟨some 21, .fld 0 (.s 6), none⟩,
    ⟨some 22, .load false 1 (.s 21), none⟩,
    ⟨some 20, .mv (.s 22), none⟩])
  (.cond (.s 20) (.seq (.reg [⟨some 4, .mv (.c (.pointer none)), none⟩,
    ⟨some 5, .mv (.c (.int .i64 9)), none⟩])
  .ret)
  .skip)))))
  (.seq (.dreg [0, 1, 2, 4, 3, 5, 6, 7, 8] [⟨⟨some 23, .mv (.s 0), none⟩, []⟩,
    ⟨⟨some 24, .nilc (.s 23), none⟩, []⟩,
    ⟨⟨some 25, .fld 4 (.s 24), none⟩, []⟩,
    ⟨⟨some 27, .fld 1 (.s 6), none⟩, []⟩,
    ⟨⟨some 26, .load false 1 (.s 25), none⟩, []⟩,
    ⟨⟨some 28, .load false 1 (.s 27), none⟩, []⟩,
    ⟨⟨some 29, .idx 2 (.s 26) (.s 28), none⟩, []⟩,
    ⟨⟨some 4, .mv (.s 29), none⟩, []⟩,
    ⟨⟨some 5, .mv (.c (.int .i64 0)), none⟩, []⟩])
  .ret))))⟩

/-- (*sumpter/disk.Disk).asked -/
def sf333 : SF :=
  ⟨2, 28, [.t 4],
  (.seq (.reg [⟨some 4, .mv (.c (.int .i64 0)), none⟩])
  (.seq (.block 0 (.seq (.reg [⟨some 9, .mv (.s 0), none⟩,
    ⟨some 10, .eq .ptr false (.s 9) (.c (.pointer none)), none⟩,
    ⟨some 8, .mv (.s 10), none⟩])
  (.cond (.s 8) (.seq (.reg [⟨some 4, .mv (.c (.int .i64 1)), none⟩])
  .ret)
  (.seq (.reg [⟨some 12, .mv (.s 0), none⟩,
    ⟨some 13, .nilc (.s 12), none⟩,
    ⟨some 14, .fld 5 (.s 13), none⟩,
    ⟨some 15, .load false 1 (.s 14), none⟩,
    ⟨some 11, .mv (.s 15), none⟩])
  (.cond (.s 11) (.seq (.reg [⟨some 4, .mv (.c (.int .i64 11)), none⟩])
  .ret)
  .skip)))))
  (.seq (.seq (.reg [⟨some 16, .mv (.s 1), none⟩,
    ⟨some 17, .len (.s 16), none⟩,
    ⟨some 18, .mv (.c (.int .i64 0)), none⟩])
  (.block 1 (.loop (.seq (.reg [⟨some 19, .int .lss (.s 18) (.s 17), none⟩])
  (.seq (.cond (.s 19) .skip
  (.exit 1))
  (.seq (.block 2 (.seq (.reg [⟨some 20, .idx 1 (.s 16) (.s 18), none⟩,
    ⟨some 21, .load false 1 (.s 20), none⟩,
    ⟨some 6, .mv (.s 21), none⟩])
  (.seq (.reg [⟨some 22, .mv (.s 6), none⟩,
    ⟨some 23, .call 192 [(.s 22)], none⟩,
    ⟨some 7, .mv (.s 23), none⟩])
  (.seq (.reg [⟨some 24, .mv (.s 7), none⟩,
    ⟨some 25, .int .neq (.s 24) (.c (.int .i64 0)), none⟩])
  (.cond (.s 25) (.seq (.reg [⟨some 26, .mv (.s 7), none⟩,
    ⟨some 4, .mv (.s 26), none⟩])
  .ret)
  .skip)))))
  (.reg [⟨some 27, .int .add (.s 18) (.c (.int .i64 1)), none⟩,
    ⟨some 18, .mv (.s 27), none⟩])))))))
  (.seq (.reg [⟨some 4, .mv (.c (.int .i64 0)), none⟩])
  .ret))))⟩

/-- (*sumpter/disk.Disk).Remove$1 -/
def sf334 : SF :=
  ⟨2, 8, [],
  (.reg [⟨some 2, .load false 1 (.s 0), none⟩,
    ⟨some 3, .load false 1 (.s 1), none⟩,
    ⟨some 4, .bslice 1 [(.s 3)], none⟩,
    ⟨some 5, .bslice 1 [(.c (.pointer none))], none⟩,
    ⟨some 6, .build [.v (.slice none 0 0), .v (.slice none 0 0)] [(0, 1, (.s 4)), (1, 1, (.s 5))], none⟩,
    ⟨some 7, .call 364 [(.s 2), (.s 6)], none⟩])⟩

/-- (*sumpter/disk.Disk).step -/
def sf335 : SF :=
  ⟨2, 37, [.t 4],
  (.seq (.reg [⟨some 4, .mv (.c (.int .i64 0)), none⟩])
  (.seq (.reg [⟨some 7, .mv (.s 0), none⟩,
    ⟨some 8, .nilc (.s 7), none⟩,
    ⟨some 9, .fld 6 (.s 8), none⟩,
    ⟨some 10, .load false 1 (.s 9), none⟩,
    ⟨some 11, .int .add (.s 10) (.c (.int .i64 1)), none⟩,
    ⟨some 12, .nilc (.s 7), none⟩,
    ⟨some 13, .fld 6 (.s 12), none⟩,
    ⟨none, .store 1 (.s 13) (.s 11), none⟩])
  (.seq (.dreg [0, 1, 2, 4, 5, 6, 3, 7, 8, 9] [⟨⟨some 14, .mv (.s 0), none⟩, []⟩,
    ⟨⟨some 15, .nilc (.s 14), none⟩, []⟩,
    ⟨⟨some 16, .fld 7 (.s 15), none⟩, []⟩,
    ⟨⟨some 18, .mv (.s 0), none⟩, []⟩,
    ⟨⟨some 19, .nilc (.s 18), none⟩, []⟩,
    ⟨⟨some 20, .fld 9 (.s 19), none⟩, []⟩,
    ⟨⟨some 17, .call 365 [(.s 16)], none⟩, []⟩,
    ⟨⟨some 21, .call 365 [(.s 20)], none⟩, []⟩,
    ⟨⟨some 5, .mv (.s 17), none⟩, []⟩,
    ⟨⟨some 6, .mv (.s 21), none⟩, []⟩])
  (.seq (.block 0 (.seq (.reg [⟨some 23, .mv (.s 5), none⟩,
    ⟨some 22, .mv (.s 23), none⟩])
  (.cond (.s 22) (.seq (.reg [⟨some 24, .mv (.s 0), none⟩,
    ⟨some 25, .nilc (.s 24), none⟩,
    ⟨some 26, .fld 5 (.s 25), none⟩,
    ⟨none, .store 1 (.s 26) (.c (.bool true)), none⟩])
  (.seq (.seq (.reg [⟨some 27, .mv (.s 0), none⟩,
    ⟨some 28, .nilc (.s 27), none⟩,
    ⟨some 29, .fld 8 (.s 28), none⟩,
    ⟨some 30, .load false 1 (.s 29), none⟩])
  (.cond (.s 30) (.reg [⟨some 31, .mv (.s 1), none⟩,
    ⟨some 32, .callv (.s 31) [], none⟩])
  .skip))
  (.seq (.reg [⟨some 4, .mv (.c (.int .i64 11)), none⟩])
  .ret)))
  (.seq (.reg [⟨some 34, .mv (.s 6), none⟩,
    ⟨some 33, .mv (.s 34), none⟩])
  (.cond (.s 33) (.seq (.reg [⟨some 4, .mv (.c (.int .i64 12)), none⟩])
  .ret)
  .skip)))))
  (.seq (.reg [⟨some 35, .mv (.s 1), none⟩,
    ⟨some 36, .callv (.s 35) [], none⟩])
  (.seq (.reg [⟨some 4, .mv (.c (.int .i64 0)), none⟩])
  .ret))))))⟩

/-- (*sumpter/disk.Disk).put -/
def sf336 : SF :=
  ⟨3, 37, [.t 6],
  (.seq (.reg [⟨some 3, .box none 1 (.s 0), none⟩,
    ⟨some 4, .box none 1 (.s 1), none⟩,
    ⟨some 5, .box none 1 (.s 2), none⟩,
    ⟨some 6, .mv (.c (.int .i64 0)), none⟩])
  (.seq (.seq (.reg [⟨some 11, .load false 1 (.s 3), none⟩,
    ⟨some 12, .load false 1 (.s 4), none⟩,
    ⟨some 13, .bslice 1 [(.s 12)], none⟩,
    ⟨some 14, .call 333 [(.s 11), (.s 13)], none⟩,
    ⟨some 7, .mv (.s 14), none⟩])
  (.seq (.reg [⟨some 15, .mv (.s 7), none⟩,
    ⟨some 16, .int .neq (.s 15) (.c (.int .i64 0)), none⟩])
  (.cond (.s 16) (.seq (.reg [⟨some 17, .mv (.s 7), none⟩,
    ⟨some 6, .mv (.s 17), none⟩])
  .ret)
  .skip)))
  (.seq (.seq (.reg [⟨some 18, .load false 1 (.s 3), none⟩,
    ⟨some 19, .load false 1 (.s 4), none⟩,
    ⟨some 20, .call 350 [(.s 18), (.s 19)], none⟩,
    ⟨some 8, .mv (.s 20), none⟩])
  (.seq (.reg [⟨some 21, .mv (.s 8), none⟩,
    ⟨some 22, .int .neq (.s 21) (.c (.int .i64 0)), none⟩])
  (.cond (.s 22) (.seq (.reg [⟨some 23, .mv (.s 8), none⟩,
    ⟨some 6, .mv (.s 23), none⟩])
  .ret)
  .skip)))
  (.seq (.seq (.dreg [0, 1, 2, 3, 4, 9, 5, 6, 7, 8, 10, 11] [⟨⟨some 25, .load false 1 (.s 3), none⟩, []⟩,
    ⟨⟨some 26, .nilc (.s 25), none⟩, []⟩,
    ⟨⟨some 27, .fld 2 (.s 26), none⟩, []⟩,
    ⟨⟨some 28, .load false 1 (.s 27), none⟩, []⟩,
    ⟨⟨some 29, .load false 1 (.s 4), none⟩, []⟩,
    ⟨⟨some 9, .alloc (some 3) [.v (.bool false), .v (.int .i64 0)], none⟩, []⟩,
    ⟨⟨some 30, .hop (.m (.lkp true true true [.v (.bool false), .v (.int .i64 0)])) [(.s 28), (.s 29)], none⟩, []⟩,
    ⟨⟨some 24, .mv (.s 30), none⟩, []⟩,
    ⟨⟨some 31, .ext (.s 24) 0, none⟩, []⟩,
    ⟨⟨some 32, .ext (.s 24) 1, none⟩, []⟩,
    ⟨⟨none, .store 2 (.s 9) (.s 31), none⟩, []⟩,
    ⟨⟨some 10, .mv (.s 32), none⟩, []⟩])
  (.seq (.reg [⟨some 33, .mv (.s 10), none⟩])
  (.cond (.s 33) (.seq (.reg [⟨some 6, .mv (.c (.int .i64 7)), none⟩])
  .ret)
  .skip)))
  (.seq (.reg [⟨some 34, .load false 1 (.s 3), none⟩,
    ⟨some 35, .mkfn 366 [(.s 5), (.s 3), (.s 4)], none⟩,
    ⟨some 36, .call 335 [(.s 34), (.s 35)], none⟩,
    ⟨some 6, .mv (.s 36), none⟩])
  .ret)))))⟩

/-- (*sumpter/disk.Disk).Cut$1 -/
def sf337 : SF :=
  ⟨2, 15, [.t 3],
  (.seq (.reg [⟨some 3, .mv (.c (.int .i64 0)), none⟩])
  (.seq (.seq (.dreg [0, 1, 2, 4, 5, 6, 3, 7, 8, 9, 10] [⟨⟨some 4, .load false 1 (.s 1), none⟩, []⟩,
    ⟨⟨some 5, .int .lss (.s 4) (.c (.int .i64 0)), none⟩, []⟩,
    ⟨⟨some 6, .mv (.s 5), none⟩, []⟩,
    ⟨⟨some 8, .mv (.s 0), (some (6, false))⟩, []⟩,
    ⟨⟨some 9, .nilc (.s 8), (some (6, false))⟩, []⟩,
    ⟨⟨some 10, .fld 0 (.s 9), (some (6, false))⟩, []⟩,
    ⟨⟨some 7, .load false 1 (.s 1), (some (6, false))⟩, []⟩,
    ⟨⟨some 11, .load false 1 (.s 10), (some (6, false))⟩, []⟩,
    ⟨⟨some 12, .len (.s 11), (some (6, false))⟩, []⟩,
    ⟨⟨some 13, .int .gtr (.s 7) (.s 12), (some (6, false))⟩, []⟩,
    ⟨⟨some 14, .pick (.s 6) (.c (.bool true)) (.s 13), none⟩, []⟩])
  (.cond (.s 14) (.seq (.reg [⟨some 3, .mv (.c (.int .i64 13)), none⟩])
  .ret)
  .skip))
  (.seq (.reg [⟨some 3, .mv (.c (.int .i64 0)), none⟩])
  .ret)))⟩

/-- (*sumpter/disk.Disk).Cut$2 -/
def sf338 : SF :=
  ⟨2, 22, [],
  (.dreg [0, 1, 2, 3, 4, 10, 11, 12, 5, 6, 7, 8, 9, 13, 14, 15, 16, 17, 18, 19, 20] [⟨⟨some 3, .mv (.s 0), none⟩, []⟩,
    ⟨⟨some 4, .mv (.s 0), none⟩, []⟩,
    ⟨⟨some 5, .mv (.s 0), none⟩, []⟩,
    ⟨⟨some 6, .nilc (.s 5), none⟩, []⟩,
    ⟨⟨some 7, .fld 0 (.s 6), none⟩, []⟩,
    ⟨⟨some 13, .mv (.s 0), none⟩, []⟩,
    ⟨⟨some 14, .nilc (.s 13), none⟩, []⟩,
    ⟨⟨some 15, .fld 1 (.s 14), none⟩, []⟩,
    ⟨⟨some 8, .load false 1 (.s 7), none⟩, []⟩,
    ⟨⟨some 9, .load false 1 (.s 1), none⟩, []⟩,
    ⟨⟨some 10, .load false 1 (.s 1), none⟩, []⟩,
    ⟨⟨some 11, .slc 1 (.s 8) none (some (.s 9)) (some (.s 10)), none⟩, []⟩,
    ⟨⟨some 12, .load false 1 (.s 1), none⟩, []⟩,
    ⟨⟨some 16, .load false 1 (.s 15), none⟩, []⟩,
    ⟨⟨some 17, .mm false (.s 12) (.s 16), none⟩, []⟩,
    ⟨⟨some 18, .nilc (.s 3), none⟩, []⟩,
    ⟨⟨some 19, .fld 0 (.s 18), none⟩, []⟩,
    ⟨⟨none, .store 1 (.s 19) (.s 11), none⟩, [12]⟩,
    ⟨⟨some 20, .nilc (.s 4), none⟩, []⟩,
    ⟨⟨some 21, .fld 1 (.s 20), none⟩, []⟩,
    ⟨⟨none, .store 1 (.s 21) (.s 17), none⟩, []⟩])⟩

/-- (*sumpter/disk.Disk).with -/
def sf339 : SF :=
  ⟨4, 38, [.t 8],
  (.seq (.reg [⟨some 7, .box none 1 (.s 3), none⟩,
    ⟨some 8, .mv (.c (.int .i64 0)), none⟩])
  (.seq (.seq (.reg [⟨some 13, .mv (.s 0), none⟩,
    ⟨some 14, .mv (.s 1), none⟩,
    ⟨some 15, .bslice 1 [(.s 14)], none⟩,
    ⟨some 16, .call 333 [(.s 13), (.s 15)], none⟩,
    ⟨some 9, .mv (.s 16), none⟩])
  (.seq (.reg [⟨some 17, .mv (.s 9), none⟩,
    ⟨some 18, .int .neq (.s 17) (.c (.int .i64 0)), none⟩])
  (.cond (.s 18) (.seq (.reg [⟨some 19, .mv (.s 9), none⟩,
    ⟨some 8, .mv (.s 19), none⟩])
  .ret)
  .skip)))
  (.seq (.reg [⟨some 21, .mv (.s 0), none⟩,
    ⟨some 22, .mv (.s 1), none⟩,
    ⟨some 23, .call 332 [(.s 21), (.s 22)], none⟩,
    ⟨some 20, .mv (.s 23), none⟩,
    ⟨some 24, .ext (.s 20) 0, none⟩,
    ⟨some 25, .ext (.s 20) 1, none⟩,
    ⟨some 10, .alloc none [.v (.pointer none)], none⟩,
    ⟨none, .store 1 (.s 10) (.s 24), none⟩,
    ⟨some 11, .mv (.s 25), none⟩])
  (.seq (.seq (.reg [⟨some 26, .mv (.s 11), none⟩,
    ⟨some 27, .int .neq (.s 26) (.c (.int .i64 0)), none⟩])
  (.cond (.s 27) (.seq (.reg [⟨some 28, .mv (.s 11), none⟩,
    ⟨some 8, .mv (.s 28), none⟩])
  .ret)
  .skip))
  (.seq (.seq (.reg [⟨some 29, .mv (.s 2), none⟩,
    ⟨some 30, .load false 1 (.s 10), none⟩,
    ⟨some 31, .callv (.s 29) [(.s 30)], none⟩,
    ⟨some 12, .mv (.s 31), none⟩])
  (.seq (.reg [⟨some 32, .mv (.s 12), none⟩,
    ⟨some 33, .int .neq (.s 32) (.c (.int .i64 0)), none⟩])
  (.cond (.s 33) (.seq (.reg [⟨some 34, .mv (.s 12), none⟩,
    ⟨some 8, .mv (.s 34), none⟩])
  .ret)
  .skip)))
  (.seq (.reg [⟨some 35, .mv (.s 0), none⟩,
    ⟨some 36, .mkfn 367 [(.s 7), (.s 10)], none⟩,
    ⟨some 37, .call 335 [(.s 35), (.s 36)], none⟩,
    ⟨some 8, .mv (.s 37), none⟩])
  .ret))))))⟩

/-- (*sumpter/disk.Disk).Append$1 -/
def sf340 : SF :=
  ⟨3, 15, [.t 4],
  (.seq (.reg [⟨some 4, .mv (.c (.int .i64 0)), none⟩])
  (.seq (.seq (.dreg [0, 1, 2, 3, 4, 5, 6, 7, 8, 9] [⟨⟨some 5, .load false 1 (.s 1), none⟩, []⟩,
    ⟨⟨some 6, .len (.s 5), none⟩, []⟩,
    ⟨⟨some 7, .load false 1 (.s 2), none⟩, []⟩,
    ⟨⟨some 8, .nilc (.s 7), none⟩, []⟩,
    ⟨⟨some 9, .fld 0 (.s 8), none⟩, []⟩,
    ⟨⟨some 10, .load false 1 (.s 9), none⟩, []⟩,
    ⟨⟨some 11, .load false 1 (.s 2), none⟩, []⟩,
    ⟨⟨some 12, .call 313 [(.s 11)], none⟩, [0, 2, 5]⟩,
    ⟨⟨some 13, .int .sub (.s 10) (.s 12), none⟩, []⟩,
    ⟨⟨some 14, .int .gtr (.s 6) (.s 13), none⟩, []⟩])
  (.cond (.s 14) (.seq (.reg [⟨some 4, .mv (.c (.int .i64 10)), none⟩])
  .ret)
  .skip))
  (.seq (.reg [⟨some 4, .mv (.c (.int .i64 0)), none⟩])
  .ret)))⟩

/-- (*sumpter/disk.Disk).Append$2 -/
def sf341 : SF :=
  ⟨2, 13, [],
  (.dreg [0, 1, 2, 3, 4, 6, 5, 7, 8, 9, 10] [⟨⟨some 3, .mv (.s 0), none⟩, []⟩,
    ⟨⟨some 4, .mv (.s 0), none⟩, []⟩,
    ⟨⟨some 5, .nilc (.s 4), none⟩, []⟩,
    ⟨⟨some 6, .fld 0 (.s 5), none⟩, []⟩,
    ⟨⟨some 7, .load false 1 (.s 6), none⟩, []⟩,
    ⟨⟨some 9, .load false 1 (.s 1), none⟩, []⟩,
    ⟨⟨some 8, .call 186 [(.s 7)], none⟩, [5]⟩,
    ⟨⟨some 10, .app 1 1 (.s 8) (.s 9), none⟩, []⟩,
    ⟨⟨some 11, .nilc (.s 3), none⟩, []⟩,
    ⟨⟨some 12, .fld 0 (.s 11), none⟩, []⟩,
    ⟨⟨none, .store 1 (.s 12) (.s 10), none⟩, []⟩])⟩

/-- (*sumpter/disk.Disk).Sync$1 -/
def sf342 : SF :=
  ⟨1, 3, [.t 2],
  (.seq (.reg [⟨some 2, .mv (.c (.int .i64 0)), none⟩])
  (.seq (.reg [⟨some 2, .mv (.c (.int .i64 0)), none⟩])
  .ret))⟩

/-- (*sumpter/disk.Disk).Sync$2 -/
def sf343 : SF :=
  ⟨1, 10, [],
  (.reg [⟨some 2, .mv (.s 0), none⟩,
    ⟨some 3, .mv (.s 0), none⟩,
    ⟨some 4, .nilc (.s 3), none⟩,
    ⟨some 5, .fld 0 (.s 4), none⟩,
    ⟨some 6, .load false 1 (.s 5), none⟩,
    ⟨some 7, .len (.s 6), none⟩,
    ⟨some 8, .nilc (.s 2), none⟩,
    ⟨some 9, .fld 1 (.s 8), none⟩,
    ⟨none, .store 1 (.s 9) (.s 7), none⟩])⟩

/-- (*sumpter/disk.Disk).SyncDirs$1 -/
def sf344 : SF :=
  ⟨1, 12, [],
  (.dreg [0, 1, 2, 3, 4, 5, 6, 7, 8, 9, 10, 11, 12] [⟨⟨some 1, .load false 1 (.s 0), none⟩, []⟩,
    ⟨⟨some 2, .load false 1 (.s 0), none⟩, []⟩,
    ⟨⟨some 3, .load false 1 (.s 0), none⟩, []⟩,
    ⟨⟨some 4, .nilc (.s 3), none⟩, []⟩,
    ⟨⟨some 5, .fld 2 (.s 4), none⟩, []⟩,
    ⟨⟨some 6, .load false 1 (.s 5), none⟩, []⟩,
    ⟨⟨some 7, .call 329 [(.s 6)], none⟩, [0, 1]⟩,
    ⟨⟨some 8, .nilc (.s 1), none⟩, []⟩,
    ⟨⟨some 9, .fld 1 (.s 8), none⟩, []⟩,
    ⟨⟨none, .store 1 (.s 9) (.s 7), none⟩, [1]⟩,
    ⟨⟨some 10, .nilc (.s 2), none⟩, []⟩,
    ⟨⟨some 11, .fld 3 (.s 10), none⟩, []⟩,
    ⟨⟨none, .store 1 (.s 11) (.c (.slice none 0 0)), none⟩, []⟩])⟩

/-- (sumpter/sumpterref14.Disk).Read -/
def sf345 : SF :=
  ⟨2, 26, [.t 4, .t 5],
  (.seq (.reg [⟨some 2, .box (some 0) 9 (.s 0), none⟩,
    ⟨some 4, .mv (.c (.string ⟨#[]⟩)), none⟩,
    ⟨some 5, .mv (.c (.int .i64 0)), none⟩])
  (.seq (.seq (.reg [⟨some 8, .fld 4 (.s 2), none⟩,
    ⟨some 9, .load false 1 (.s 8), none⟩])
  (.cond (.s 9) (.seq (.reg [⟨some 4, .mv (.c (.string ⟨#[]⟩)), none⟩,
    ⟨some 5, .mv (.c (.int .i64 11)), none⟩])
  .ret)
  .skip))
  (.seq (.reg [⟨some 11, .load true 9 (.s 2), none⟩,
    ⟨some 12, .mv (.s 1), none⟩,
    ⟨some 13, .call 355 [(.s 11), (.s 12)], none⟩,
    ⟨some 10, .mv (.s 13), none⟩,
    ⟨some 14, .ext (.s 10) 0, none⟩,
    ⟨some 15, .ext (.s 10) 1, none⟩,
    ⟨some 6, .alloc (some 1) [.v (.string ⟨#[]⟩), .v (.bool false), .v (.int .i64 0)], none⟩,
    ⟨none, .store 3 (.s 6) (.s 14), none⟩,
    ⟨some 7, .mv (.s 15), none⟩])
  (.seq (.seq (.reg [⟨some 16, .mv (.s 7), none⟩,
    ⟨some 17, .int .neq (.s 16) (.c (.int .i64 0)), none⟩])
  (.cond (.s 17) (.seq (.reg [⟨some 18, .mv (.s 7), none⟩,
    ⟨some 4, .mv (.c (.string ⟨#[]⟩)), none⟩,
    ⟨some 5, .mv (.s 18), none⟩])
  .ret)
  .skip))
  (.seq (.reg [⟨some 19, .fld 3 (.s 2), none⟩,
    ⟨some 20, .load false 1 (.s 19), none⟩,
    ⟨some 21, .fld 2 (.s 6), none⟩,
    ⟨some 22, .load false 1 (.s 21), none⟩,
    ⟨some 23, .idx 2 (.s 20) (.s 22), none⟩,
    ⟨some 24, .fld 0 (.s 23), none⟩,
    ⟨some 25, .load false 1 (.s 24), none⟩,
    ⟨some 4, .mv (.s 25), none⟩,
    ⟨some 5, .mv (.c (.int .i64 0)), none⟩])
  .ret)))))⟩

/-- (sumpter/sumpterref14.Disk).List -/
def sf346 : SF :=
  ⟨1, 48, [.t 2],
  (.seq (.reg [⟨some 1, .box (some 0) 9 (.s 0), none⟩,
    ⟨some 2, .mv (.c (.slice none 0 0)), none⟩])
  (.seq (.seq (.reg [⟨some 7, .fld 4 (.s 1), none⟩,
    ⟨some 8, .load false 1 (.s 7), none⟩])
  (.cond (.s 8) (.seq (.reg [⟨some 2, .mv (.c (.slice none 0 0)), none⟩])
  .ret)
  .skip))
  (.seq (.reg [⟨some 3, .mv (.c (.slice none 0 0)), none⟩])
  (.seq (.reg [⟨some 9, .load true 9 (.s 1), none⟩,
    ⟨some 10, .call 352 [(.s 9)], none⟩,
    ⟨some 4, .mv (.s 10), none⟩])
  (.seq (.seq (.reg [⟨some 5, .mv (.c (.int .i64 0)), none⟩])
  (.block 0 (.loop (.seq (.seq (.reg [⟨some 11, .mv (.s 5), none⟩,
    ⟨some 12, .mv (.s 4), none⟩,
    ⟨some 13, .len (.s 12), none⟩,
    ⟨some 14, .int .lss (.s 11) (.s 13), none⟩])
  (.cond (.s 14) .skip
  (.exit 0)))
  (.seq (.block 1 (.seq (.dreg [0, 1, 2, 3, 5, 6, 7, 8, 4, 9, 10, 11, 12] [⟨⟨some 17, .mv (.s 4), none⟩, []⟩,
    ⟨⟨some 18, .mv (.s 5), none⟩, []⟩,
    ⟨⟨some 19, .idx 3 (.s 17) (.s 18), none⟩, []⟩,
    ⟨⟨some 20, .fld 0 (.s 19), none⟩, []⟩,
    ⟨⟨some 22, .mv (.s 4), none⟩, []⟩,
    ⟨⟨some 23, .mv (.s 5), none⟩, []⟩,
    ⟨⟨some 24, .idx 3 (.s 22) (.s 23), none⟩, []⟩,
    ⟨⟨some 25, .fld 1 (.s 24), none⟩, []⟩,
    ⟨⟨some 21, .load false 1 (.s 20), none⟩, []⟩,
    ⟨⟨some 26, .load false 1 (.s 25), none⟩, []⟩,
    ⟨⟨some 27, .build [.v (.string ⟨#[]⟩), .v (.bool false), .v (.slice none 0 0)] [(0, 1, (.s 21)), (1, 1, (.s 26))], none⟩, []⟩,
    ⟨⟨some 6, .alloc (some 1) [.v (.string ⟨#[]⟩), .v (.bool false), .v (.slice none 0 0)], none⟩, []⟩,
    ⟨⟨none, .store 3 (.s 6) (.s 27), none⟩, []⟩])
  (.seq (.seq (.reg [⟨some 28, .fld 1 (.s 6), none⟩,
    ⟨some 29, .load false 1 (.s 28), none⟩,
    ⟨some 30, .not (.s 29), none⟩])
  (.cond (.s 30) (.dreg [0, 2, 3, 4, 5, 1, 6, 7, 8, 9, 10, 11, 12] [⟨⟨some 31, .fld 3 (.s 1), none⟩, []⟩,
    ⟨⟨some 33, .mv (.s 4), none⟩, []⟩,
    ⟨⟨some 34, .mv (.s 5), none⟩, []⟩,
    ⟨⟨some 35, .idx 3 (.s 33) (.s 34), none⟩, []⟩,
    ⟨⟨some 36, .fld 2 (.s 35), none⟩, []⟩,
    ⟨⟨some 32, .load false 1 (.s 31), none⟩, []⟩,
    ⟨⟨some 37, .load false 1 (.s 36), none⟩, []⟩,
    ⟨⟨some 38, .idx 2 (.s 32) (.s 37), none⟩, []⟩,
    ⟨⟨some 39, .fld 0 (.s 38), none⟩, []⟩,
    ⟨⟨some 40, .load false 1 (.s 39), none⟩, []⟩,
    ⟨⟨some 41, .nd .s2b [(.s 40)], none⟩, []⟩,
    ⟨⟨some 42, .fld 2 (.s 6), none⟩, []⟩,
    ⟨⟨none, .store 1 (.s 42) (.s 41), none⟩, []⟩])
  .skip))
  (.reg [⟨some 43, .mv (.s 3), none⟩,
    ⟨some 44, .load true 3 (.s 6), none⟩,
    ⟨some 45, .bslice 3 [(.s 44)], none⟩,
    ⟨some 46, .app 3 48 (.s 43) (.s 45), none⟩,
    ⟨some 3, .mv (.s 46), none⟩]))))
  (.reg [⟨some 15, .mv (.s 5), none⟩,
    ⟨some 16, .int .add (.s 15) (.c (.int .i64 1)), none⟩,
    ⟨some 5, .mv (.s 16), none⟩]))))))
  (.seq (.reg [⟨some 47, .mv (.s 3), none⟩,
    ⟨some 2, .mv (.s 47), none⟩])
  .ret))))))⟩

/-- (sumpter/sumpterref14.Disk).Used -/
def sf347 : SF :=
  ⟨1, 34, [.t 2],
  (.seq (.reg [⟨some 1, .box (some 0) 9 (.s 0), none⟩,
    ⟨some 2, .mv (.c (.int .i64 0)), none⟩])
  (.seq (.reg [⟨some 3, .mv (.c (.int .i64 0)), none⟩])
  (.seq (.reg [⟨some 6, .load true 9 (.s 1), none⟩,
    ⟨some 7, .call 352 [(.s 6)], none⟩,
    ⟨some 4, .mv (.s 7), none⟩])
  (.seq (.seq (.reg [⟨some 5, .mv (.c (.int .i64 0)), none⟩])
  (.block 0 (.loop (.seq (.seq (.reg [⟨some 8, .mv (.s 5), none⟩,
    ⟨some 9, .mv (.s 4), none⟩,
    ⟨some 10, .len (.s 9), none⟩,
    ⟨some 11, .int .lss (.s 8) (.s 10), none⟩])
  (.cond (.s 11) .skip
  (.exit 0)))
  (.seq (.block 1 (.seq (.reg [⟨some 14, .mv (.s 4), none⟩,
    ⟨some 15, .mv (.s 5), none⟩,
    ⟨some 16, .idx 3 (.s 14) (.s 15), none⟩,
    ⟨some 17, .fld 1 (.s 16), none⟩,
    ⟨some 18, .load false 1 (.s 17), none⟩,
    ⟨some 19, .not (.s 18), none⟩])
  (.cond (.s 19) (.dreg [0, 1, 3, 4, 5, 6, 2, 7, 8, 9, 10, 11, 12, 13] [⟨⟨some 20, .mv (.s 3), none⟩, []⟩,
    ⟨⟨some 21, .fld 3 (.s 1), none⟩, []⟩,
    ⟨⟨some 23, .mv (.s 4), none⟩, []⟩,
    ⟨⟨some 24, .mv (.s 5), none⟩, []⟩,
    ⟨⟨some 25, .idx 3 (.s 23) (.s 24), none⟩, []⟩,
    ⟨⟨some 26, .fld 2 (.s 25), none⟩, []⟩,
    ⟨⟨some 22, .load false 1 (.s 21), none⟩, []⟩,
    ⟨⟨some 27, .load false 1 (.s 26), none⟩, []⟩,
    ⟨⟨some 28, .idx 2 (.s 22) (.s 27), none⟩, []⟩,
    ⟨⟨some 29, .fld 0 (.s 28), none⟩, []⟩,
    ⟨⟨some 30, .load false 1 (.s 29), none⟩, []⟩,
    ⟨⟨some 31, .slen (.s 30), none⟩, []⟩,
    ⟨⟨some 32, .int .add (.s 20) (.s 31), none⟩, []⟩,
    ⟨⟨some 3, .mv (.s 32), none⟩, []⟩])
  .skip)))
  (.reg [⟨some 12, .mv (.s 5), none⟩,
    ⟨some 13, .int .add (.s 12) (.c (.int .i64 1)), none⟩,
    ⟨some 5, .mv (.s 13), none⟩]))))))
  (.seq (.reg [⟨some 33, .mv (.s 3), none⟩,
    ⟨some 2, .mv (.s 33), none⟩])
  .ret)))))⟩

/-- (sumpter/sumpterref14.Disk).Safe -/
def sf348 : SF :=
  ⟨2, 22, [.t 4],
  (.seq (.reg [⟨some 2, .box (some 0) 9 (.s 0), none⟩,
    ⟨some 4, .mv (.c (.int .i64 0)), none⟩])
  (.seq (.reg [⟨some 8, .load true 9 (.s 2), none⟩,
    ⟨some 9, .mv (.s 1), none⟩,
    ⟨some 10, .call 355 [(.s 8), (.s 9)], none⟩,
    ⟨some 7, .mv (.s 10), none⟩,
    ⟨some 11, .ext (.s 7) 0, none⟩,
    ⟨some 12, .ext (.s 7) 1, none⟩,
    ⟨some 5, .alloc (some 1) [.v (.string ⟨#[]⟩), .v (.bool false), .v (.int .i64 0)], none⟩,
    ⟨none, .store 3 (.s 5) (.s 11), none⟩,
    ⟨some 6, .mv (.s 12), none⟩])
  (.seq (.seq (.reg [⟨some 13, .mv (.s 6), none⟩,
    ⟨some 14, .int .neq (.s 13) (.c (.int .i64 0)), none⟩])
  (.cond (.s 14) (.seq (.reg [⟨some 4, .mv (.c (.int .i64 0)), none⟩])
  .ret)
  .skip))
  (.seq (.reg [⟨some 15, .fld 3 (.s 2), none⟩,
    ⟨some 16, .load false 1 (.s 15), none⟩,
    ⟨some 17, .fld 2 (.s 5), none⟩,
    ⟨some 18, .load false 1 (.s 17), none⟩,
    ⟨some 19, .idx 2 (.s 16) (.s 18), none⟩,
    ⟨some 20, .fld 1 (.s 19), none⟩,
    ⟨some 21, .load false 1 (.s 20), none⟩,
    ⟨some 4, .mv (.s 21), none⟩])
  .ret))))⟩

/-- slices.Clone[[]sumpter/disk.change,sumpter/disk.change] -/
def sf349 : SF :=
  ⟨1, 8, [.t 2],
  (.seq (.reg [⟨some 2, .mv (.c (.slice none 0 0)), none⟩])
  (.seq (.seq (.reg [⟨some 3, .mv (.s 0), none⟩,
    ⟨some 4, .nd (.isnil false) [(.s 3)], none⟩])
  (.cond (.s 4) (.seq (.reg [⟨some 2, .mv (.c (.slice none 0 0)), none⟩])
  .ret)
  .skip))
  (.seq (.reg [⟨some 5, .bslice 2 [], none⟩,
    ⟨some 6, .mv (.s 0), none⟩,
    ⟨some 7, .app 2 48 (.s 5) (.s 6), none⟩,
    ⟨some 2, .mv (.s 7), none⟩])
  .ret)))⟩

/-- (*sumpter/disk.Disk).parent -/
def sf350 : SF :=
  ⟨2, 28, [.t 4],
  (.seq (.reg [⟨some 4, .mv (.c (.int .i64 0)), none⟩])
  (.seq (.reg [⟨some 8, .mv (.s 1), none⟩,
    ⟨some 9, .call 164 [(.s 8)], none⟩,
    ⟨some 5, .mv (.s 9), none⟩])
  (.seq (.seq (.reg [⟨some 10, .mv (.s 5), none⟩,
    ⟨some 11, .str .eql (.s 10) (.c (.string ⟨#[]⟩)), none⟩])
  (.cond (.s 11) (.seq (.reg [⟨some 4, .mv (.c (.int .i64 0)), none⟩])
  .ret)
  .skip))
  (.seq (.reg [⟨some 13, .mv (.s 0), none⟩,
    ⟨some 14, .nilc (.s 13), none⟩,
    ⟨some 15, .fld 2 (.s 14), none⟩,
    ⟨some 16, .load false 1 (.s 15), none⟩,
    ⟨some 17, .mv (.s 5), none⟩,
    ⟨some 18, .hop (.m (.lkp true true true [.v (.bool false), .v (.int .i64 0)])) [(.s 16), (.s 17)], none⟩,
    ⟨some 12, .mv (.s 18), none⟩,
    ⟨some 19, .ext (.s 12) 0, none⟩,
    ⟨some 20, .ext (.s 12) 1, none⟩,
    ⟨some 6, .alloc (some 0) [.v (.bool false), .v (.int .i64 0)], none⟩,
    ⟨none, .store 2 (.s 6) (.s 19), none⟩,
    ⟨some 7, .mv (.s 20), none⟩])
  (.seq (.block 0 (.seq (.reg [⟨some 22, .mv (.s 7), none⟩,
    ⟨some 23, .not (.s 22), none⟩,
    ⟨some 21, .mv (.s 23), none⟩])
  (.cond (.s 21) (.seq (.reg [⟨some 4, .mv (.c (.int .i64 8)), none⟩])
  .ret)
  (.seq (.reg [⟨some 25, .fld 0 (.s 6), none⟩,
    ⟨some 26, .load false 1 (.s 25), none⟩,
    ⟨some 27, .not (.s 26), none⟩,
    ⟨some 24, .mv (.s 27), none⟩])
  (.cond (.s 24) (.seq (.reg [⟨some 4, .mv (.c (.int .i64 9)), none⟩])
  .ret)
  .skip)))))
  (.seq (.reg [⟨some 4, .mv (.c (.int .i64 0)), none⟩])
  .ret))))))⟩

/-- (*sumpter/disk.Disk).Rename$1 -/
def sf351 : SF :=
  ⟨4, 11, [],
  (.reg [⟨some 4, .load false 1 (.s 0), none⟩,
    ⟨some 5, .load false 1 (.s 1), none⟩,
    ⟨some 6, .load false 1 (.s 2), none⟩,
    ⟨some 7, .bslice 1 [(.s 5), (.s 6)], none⟩,
    ⟨some 8, .bslice 1 [(.c (.pointer none)), (.s 3)], none⟩,
    ⟨some 9, .build [.v (.slice none 0 0), .v (.slice none 0 0)] [(0, 1, (.s 7)), (1, 1, (.s 8))], none⟩,
    ⟨some 10, .call 364 [(.s 4), (.s 9)], none⟩])⟩

/-- (sumpter/sumpterref14.Disk).names -/
def sf352 : SF :=
  ⟨1, 22, [.t 2],
  (.seq (.reg [⟨some 1, .box (some 0) 9 (.s 0), none⟩,
    ⟨some 2, .mv (.c (.slice none 0 0)), none⟩])
  (.seq (.reg [⟨some 5, .fld 1 (.s 1), none⟩,
    ⟨some 6, .load false 1 (.s 5), none⟩,
    ⟨some 3, .mv (.s 6), none⟩])
  (.seq (.seq (.reg [⟨some 4, .mv (.c (.int .i64 0)), none⟩])
  (.block 0 (.loop (.seq (.seq (.reg [⟨some 7, .mv (.s 4), none⟩,
    ⟨some 8, .fld 2 (.s 1), none⟩,
    ⟨some 9, .load false 1 (.s 8), none⟩,
    ⟨some 10, .len (.s 9), none⟩,
    ⟨some 11, .int .lss (.s 7) (.s 10), none⟩])
  (.cond (.s 11) .skip
  (.exit 0)))
  (.seq (.block 1 (.reg [⟨some 14, .mv (.s 3), none⟩,
    ⟨some 15, .fld 2 (.s 1), none⟩,
    ⟨some 16, .load false 1 (.s 15), none⟩,
    ⟨some 17, .mv (.s 4), none⟩,
    ⟨some 18, .idx 2 (.s 16) (.s 17), none⟩,
    ⟨some 19, .load true 2 (.s 18), none⟩,
    ⟨some 20, .call 368 [(.s 14), (.s 19)], none⟩,
    ⟨some 3, .mv (.s 20), none⟩]))
  (.reg [⟨some 12, .mv (.s 4), none⟩,
    ⟨some 13, .int .add (.s 12) (.c (.int .i64 1)), none⟩,
    ⟨some 4, .mv (.s 13), none⟩]))))))
  (.seq (.reg [⟨some 21, .mv (.s 3), none⟩,
    ⟨some 2, .mv (.s 21), none⟩])
  .ret))))⟩

/-- (sumpter/sumpterref14.Disk).make -/
def sf353 : SF :=
  ⟨3, 62, [.cell 6 true 9, .t 7],
  (.seq (.reg [⟨some 3, .box (some 0) 9 (.s 0), none⟩,
    ⟨some 6, .alloc (some 1) [.v (.int .i64 0), .v (.slice none 0 0), .v (.slice none 0 0), .v (.slice none 0 0), .v (.bool false), .v (.int .i64 0), .v (.int .i64 0), .v (.bool false), .v (.int .i64 0)], none⟩,
    ⟨some 7, .mv (.c (.int .i64 0)), none⟩])
  (.seq (.reg [⟨some 13, .load true 9 (.s 3), none⟩,
    ⟨some 14, .mv (.s 1), none⟩,
    ⟨some 15, .call 354 [(.s 13), (.s 14)], none⟩,
    ⟨some 8, .mv (.s 15), none⟩])
  (.seq (.seq (.reg [⟨some 16, .mv (.s 8), none⟩,
    ⟨some 17, .int .eql (.s 16) (.c (.int .i64 0)), none⟩])
  (.cond (.s 17) (.reg [⟨some 18, .load true 9 (.s 3), none⟩,
    ⟨some 19, .mv (.s 1), none⟩,
    ⟨some 20, .call 360 [(.s 18), (.s 19)], none⟩,
    ⟨some 8, .mv (.s 20), none⟩])
  .skip))
  (.seq (.reg [⟨some 22, .load true 9 (.s 3), none⟩,
    ⟨some 23, .mv (.s 1), none⟩,
    ⟨some 24, .call 358 [(.s 22), (.s 23)], none⟩,
    ⟨some 21, .mv (.s 24), none⟩,
    ⟨some 25, .ext (.s 21) 0, none⟩,
    ⟨some 26, .ext (.s 21) 1, none⟩,
    ⟨some 9, .alloc (some 2) [.v (.string ⟨#[]⟩), .v (.bool false), .v (.int .i64 0)], none⟩,
    ⟨none, .store 3 (.s 9) (.s 25), none⟩,
    ⟨some 10, .mv (.s 26), none⟩])
  (.seq (.seq (.reg [⟨some 27, .mv (.s 8), none⟩,
    ⟨some 28, .int .eql (.s 27) (.c (.int .i64 0)), none⟩,
    ⟨some 29, .mv (.s 28), none⟩,
    ⟨some 30, .mv (.s 10), (some (29, true))⟩,
    ⟨some 31, .pick (.s 29) (.s 30) (.c (.bool false)), none⟩])
  (.cond (.s 31) (.reg [⟨some 8, .mv (.c (.int .i64 7)), none⟩])
  .skip))
  (.seq (.seq (.reg [⟨some 32, .mv (.s 8), none⟩,
    ⟨some 33, .int .neq (.s 32) (.c (.int .i64 0)), none⟩])
  (.cond (.s 33) (.seq (.reg [⟨some 34, .load true 9 (.s 3), none⟩,
    ⟨some 35, .mv (.s 8), none⟩,
    ⟨none, .store 9 (.s 6) (.s 34), none⟩,
    ⟨some 7, .mv (.s 35), none⟩])
  .ret)
  .skip))
  (.seq (.reg [⟨some 36, .mv (.s 1), none⟩,
    ⟨some 37, .mv (.s 2), none⟩,
    ⟨some 38, .build [.v (.string ⟨#[]⟩), .v (.bool false), .v (.int .i64 0)] [(0, 1, (.s 36)), (1, 1, (.s 37))], none⟩,
    ⟨some 11, .alloc (some 3) [.v (.string ⟨#[]⟩), .v (.bool false), .v (.int .i64 0)], none⟩,
    ⟨none, .store 3 (.s 11) (.s 38), none⟩])
  (.seq (.reg [⟨some 39, .load true 9 (.s 3), none⟩,
    ⟨some 12, .alloc (some 4) [.v (.int .i64 0), .v (.slice none 0 0), .v (.slice none 0 0), .v (.slice none 0 0), .v (.bool false), .v (.int .i64 0), .v (.int .i64 0), .v (.bool false), .v (.int .i64 0)], none⟩,
    ⟨none, .store 9 (.s 12) (.s 39), none⟩])
  (.seq (.seq (.reg [⟨some 40, .mv (.s 2), none⟩,
    ⟨some 41, .not (.s 40), none⟩])
  (.cond (.s 41) (.seq (.reg [⟨some 42, .fld 3 (.s 3), none⟩,
    ⟨some 43, .load false 1 (.s 42), none⟩,
    ⟨some 44, .len (.s 43), none⟩,
    ⟨some 45, .fld 2 (.s 11), none⟩,
    ⟨none, .store 1 (.s 45) (.s 44), none⟩])
  (.reg [⟨some 46, .bslice 2 [], none⟩,
    ⟨some 47, .fld 3 (.s 3), none⟩,
    ⟨some 48, .load false 1 (.s 47), none⟩,
    ⟨some 49, .app 2 24 (.s 46) (.s 48), none⟩,
    ⟨some 50, .build [.v (.string ⟨#[]⟩), .v (.int .i64 0)] [], none⟩,
    ⟨some 51, .bslice 2 [(.s 50)], none⟩,
    ⟨some 52, .app 2 24 (.s 49) (.s 51), none⟩,
    ⟨some 53, .fld 3 (.s 12), none⟩,
    ⟨none, .store 1 (.s 53) (.s 52), none⟩]))
  .skip))
  (.seq (.dreg [0, 1, 2, 3, 4, 5, 6, 7, 8, 9] [⟨⟨some 54, .load true 9 (.s 3), none⟩, []⟩,
    ⟨⟨some 55, .load true 9 (.s 12), none⟩, []⟩,
    ⟨⟨some 56, .load true 3 (.s 11), none⟩, []⟩,
    ⟨⟨some 57, .bslice 3 [(.s 56)], none⟩, []⟩,
    ⟨⟨some 58, .call 359 [(.s 55), (.c (.slice none 0 0)), (.s 57)], none⟩, [0]⟩,
    ⟨⟨some 59, .call 357 [(.s 54), (.s 58)], none⟩, []⟩,
    ⟨⟨some 60, .ext (.s 59) 0, none⟩, []⟩,
    ⟨⟨some 61, .ext (.s 59) 1, none⟩, []⟩,
    ⟨⟨none, .store 9 (.s 6) (.s 60), none⟩, []⟩,
    ⟨⟨some 7, .mv (.s 61), none⟩, []⟩])
  .ret))))))))))⟩

/-- (sumpter/sumpterref14.Disk).asked -/
def sf354 : SF :=
  ⟨2, 9, [.t 4],
  (.seq (.reg [⟨some 2, .box (some 0) 9 (.s 0), none⟩,
    ⟨some 4, .mv (.c (.int .i64 0)), none⟩])
  (.seq (.seq (.reg [⟨some 5, .fld 4 (.s 2), none⟩,
    ⟨some 6, .load false 1 (.s 5), none⟩])
  (.cond (.s 6) (.seq (.reg [⟨some 4, .mv (.c (.int .i64 11)), none⟩])
  .ret)
  .skip))
  (.seq (.reg [⟨some 7, .mv (.s 1), none⟩,
    ⟨some 8, .call 199 [(.s 7)], none⟩,
    ⟨some 4, .mv (.s 8), none⟩])
  .ret)))⟩

/-- (sumpter/sumpterref14.Disk).file -/
def sf355 : SF :=
  ⟨2, 23, [.cell 4 true 3, .t 5],
  (.seq (.reg [⟨some 2, .box (some 0) 9 (.s 0), none⟩,
    ⟨some 4, .alloc (some 1) [.v (.string ⟨#[]⟩), .v (.bool false), .v (.int .i64 0)], none⟩,
    ⟨some 5, .mv (.c (.int .i64 0)), none⟩])
  (.seq (.reg [⟨some 9, .load true 9 (.s 2), none⟩,
    ⟨some 10, .mv (.s 1), none⟩,
    ⟨some 11, .call 358 [(.s 9), (.s 10)], none⟩,
    ⟨some 8, .mv (.s 11), none⟩,
    ⟨some 12, .ext (.s 8) 0, none⟩,
    ⟨some 13, .ext (.s 8) 1, none⟩,
    ⟨some 6, .alloc (some 2) [.v (.string ⟨#[]⟩), .v (.bool false), .v (.int .i64 0)], none⟩,
    ⟨none, .store 3 (.s 6) (.s 12), none⟩,
    ⟨some 7, .mv (.s 13), none⟩])
  (.seq (.block 0 (.seq (.reg [⟨some 15, .mv (.s 7), none⟩,
    ⟨some 16, .not (.s 15), none⟩,
    ⟨some 14, .mv (.s 16), none⟩])
  (.cond (.s 14) (.seq (.reg [⟨some 17, .load true 3 (.s 6), none⟩,
    ⟨none, .store 3 (.s 4) (.s 17), none⟩,
    ⟨some 5, .mv (.c (.int .i64 8)), none⟩])
  .ret)
  (.seq (.reg [⟨some 19, .fld 1 (.s 6), none⟩,
    ⟨some 20, .load false 1 (.s 19), none⟩,
    ⟨some 18, .mv (.s 20), none⟩])
  (.cond (.s 18) (.seq (.reg [⟨some 21, .load true 3 (.s 6), none⟩,
    ⟨none, .store 3 (.s 4) (.s 21), none⟩,
    ⟨some 5, .mv (.c (.int .i64 9)), none⟩])
  .ret)
  .skip)))))
  (.seq (.reg [⟨some 22, .load true 3 (.s 6), none⟩,
    ⟨none, .store 3 (.s 4) (.s 22), none⟩,
    ⟨some 5, .mv (.c (.int .i64 0)), none⟩])
  .ret))))⟩

/-- (sumpter/sumpterref14.Disk).set -/
def sf356 : SF :=
  ⟨3, 18, [.cell 6 true 9],
  (.seq (.reg [⟨some 3, .box (some 0) 9 (.s 0), none⟩,
    ⟨some 5, .box (some 1) 2 (.s 2), none⟩,
    ⟨some 6, .alloc (some 2) [.v (.int .i64 0), .v (.slice none 0 0), .v (.slice none 0 0), .v (.slice none 0 0), .v (.bool false), .v (.int .i64 0), .v (.int .i64 0), .v (.bool false), .v (.int .i64 0)], none⟩])
  (.seq (.reg [⟨some 7, .bslice 2 [], none⟩,
    ⟨some 8, .fld 3 (.s 3), none⟩,
    ⟨some 9, .load false 1 (.s 8), none⟩,
    ⟨some 10, .app 2 24 (.s 7) (.s 9), none⟩,
    ⟨some 11, .fld 3 (.s 3), none⟩,
    ⟨none, .store 1 (.s 11) (.s 10), none⟩])
  (.seq (.reg [⟨some 12, .fld 3 (.s 3), none⟩,
    ⟨some 13, .load false 1 (.s 12), none⟩,
    ⟨some 14, .mv (.s 1), none⟩,
    ⟨some 15, .load true 2 (.s 5), none⟩,
    ⟨some 16, .idx 2 (.s 13) (.s 14), none⟩,
    ⟨none, .store 2 (.s 16) (.s 15), none⟩])
  (.seq (.reg [⟨some 17, .load true 9 (.s 3), none⟩,
    ⟨none, .store 9 (.s 6) (.s 17), none⟩])
  .ret))))⟩

/-- (sumpter/sumpterref14.Disk).step -/
def sf357 : SF :=
  ⟨2, 62, [.cell 4 true 9, .t 5],
  (.seq (.reg [⟨some 2, .box (some 0) 9 (.s 0), none⟩,
    ⟨some 3, .box (some 1) 9 (.s 1), none⟩,
    ⟨some 4, .alloc (some 2) [.v (.int .i64 0), .v (.slice none 0 0), .v (.slice none 0 0), .v (.slice none 0 0), .v (.bool false), .v (.int .i64 0), .v (.int .i64 0), .v (.bool false), .v (.int .i64 0)], none⟩,
    ⟨some 5, .mv (.c (.int .i64 0)), none⟩])
  (.seq (.reg [⟨some 8, .fld 5 (.s 2), none⟩,
    ⟨some 9, .load false 1 (.s 8), none⟩,
    ⟨some 10, .int .add (.s 9) (.c (.int .i64 1)), none⟩,
    ⟨some 11, .fld 5 (.s 2), none⟩,
    ⟨none, .store 1 (.s 11) (.s 10), none⟩])
  (.seq (.dreg [0, 3, 1, 2, 6, 4, 5, 7] [⟨⟨some 12, .fld 6 (.s 2), none⟩, []⟩,
    ⟨⟨some 15, .fld 8 (.s 2), none⟩, []⟩,
    ⟨⟨some 13, .load false 1 (.s 12), none⟩, []⟩,
    ⟨⟨some 14, .int .eql (.s 13) (.c (.int .i64 0)), none⟩, []⟩,
    ⟨⟨some 6, .mv (.s 14), none⟩, []⟩,
    ⟨⟨some 16, .load false 1 (.s 15), none⟩, []⟩,
    ⟨⟨some 17, .int .eql (.s 16) (.c (.int .i64 0)), none⟩, []⟩,
    ⟨⟨some 7, .mv (.s 17), none⟩, []⟩])
  (.seq (.seq (.reg [⟨some 18, .fld 6 (.s 2), none⟩,
    ⟨some 19, .load false 1 (.s 18), none⟩,
    ⟨some 20, .int .geq (.s 19) (.c (.int .i64 0)), none⟩])
  (.cond (.s 20) (.reg [⟨some 21, .fld 6 (.s 2), none⟩,
    ⟨some 22, .load false 1 (.s 21), none⟩,
    ⟨some 23, .int .sub (.s 22) (.c (.int .i64 1)), none⟩,
    ⟨some 24, .fld 6 (.s 2), none⟩,
    ⟨none, .store 1 (.s 24) (.s 23), none⟩])
  .skip))
  (.seq (.seq (.reg [⟨some 25, .fld 8 (.s 2), none⟩,
    ⟨some 26, .load false 1 (.s 25), none⟩,
    ⟨some 27, .int .geq (.s 26) (.c (.int .i64 0)), none⟩])
  (.cond (.s 27) (.reg [⟨some 28, .fld 8 (.s 2), none⟩,
    ⟨some 29, .load false 1 (.s 28), none⟩,
    ⟨some 30, .int .sub (.s 29) (.c (.int .i64 1)), none⟩,
    ⟨some 31, .fld 8 (.s 2), none⟩,
    ⟨none, .store 1 (.s 31) (.s 30), none⟩])
  .skip))
  (.seq (.seq (.reg [⟨some 32, .mv (.s 6), none⟩,
    ⟨some 33, .mv (.s 32), none⟩,
    ⟨some 34, .fld 7 (.s 2), (some (33, true))⟩,
    ⟨some 35, .load false 1 (.s 34), (some (33, true))⟩,
    ⟨some 36, .not (.s 35), (some (33, true))⟩,
    ⟨some 37, .pick (.s 33) (.s 36) (.c (.bool false)), none⟩,
    ⟨some 38, .mv (.s 37), none⟩,
    ⟨some 39, .mv (.s 7), (some (38, false))⟩,
    ⟨some 40, .mv (.s 39), (some (38, false))⟩,
    ⟨some 41, .mv (.s 6), (some (40, true))⟩,
    ⟨some 42, .not (.s 41), (some (40, true))⟩,
    ⟨some 43, .pick (.s 40) (.s 42) (.c (.bool false)), (some (38, false))⟩,
    ⟨some 44, .pick (.s 38) (.c (.bool true)) (.s 43), none⟩])
  (.cond (.s 44) (.seq (.seq (.reg [⟨some 45, .mv (.s 6), none⟩])
  (.cond (.s 45) (.seq (.reg [⟨some 46, .fld 4 (.s 2), none⟩,
    ⟨none, .store 1 (.s 46) (.c (.bool true)), none⟩])
  (.seq (.reg [⟨some 47, .load true 9 (.s 2), none⟩,
    ⟨none, .store 9 (.s 4) (.s 47), none⟩,
    ⟨some 5, .mv (.c (.int .i64 11)), none⟩])
  .ret))
  .skip))
  (.seq (.reg [⟨some 48, .load true 9 (.s 2), none⟩,
    ⟨none, .store 9 (.s 4) (.s 48), none⟩,
    ⟨some 5, .mv (.c (.int .i64 12)), none⟩])
  .ret))
  .skip))
  (.seq (.dreg [0, 2, 4, 1, 6, 3, 5, 7, 8, 9, 10, 11] [⟨⟨some 49, .fld 5 (.s 2), none⟩, []⟩,
    ⟨⟨some 51, .fld 6 (.s 2), none⟩, []⟩,
    ⟨⟨some 53, .fld 8 (.s 2), none⟩, []⟩,
    ⟨⟨some 50, .load false 1 (.s 49), none⟩, []⟩,
    ⟨⟨some 55, .fld 5 (.s 3), none⟩, []⟩,
    ⟨⟨some 52, .load false 1 (.s 51), none⟩, []⟩,
    ⟨⟨some 54, .load false 1 (.s 53), none⟩, []⟩,
    ⟨⟨none, .store 1 (.s 55) (.s 50), none⟩, [5, 6]⟩,
    ⟨⟨some 56, .fld 6 (.s 3), none⟩, []⟩,
    ⟨⟨none, .store 1 (.s 56) (.s 52), none⟩, [6]⟩,
    ⟨⟨some 57, .fld 8 (.s 3), none⟩, []⟩,
    ⟨⟨none, .store 1 (.s 57) (.s 54), none⟩, []⟩])
  (.seq (.seq (.reg [⟨some 58, .mv (.s 6), none⟩])
  (.cond (.s 58) (.seq (.reg [⟨some 59, .fld 4 (.s 3), none⟩,
    ⟨none, .store 1 (.s 59) (.c (.bool true)), none⟩])
  (.seq (.reg [⟨some 60, .load true 9 (.s 3), none⟩,
    ⟨none, .store 9 (.s 4) (.s 60), none⟩,
    ⟨some 5, .mv (.c (.int .i64 11)), none⟩])
  .ret))
  .skip))
  (.seq (.reg [⟨some 61, .load true 9 (.s 3), none⟩,
    ⟨none, .store 9 (.s 4) (.s 61), none⟩,
    ⟨some 5, .mv (.c (.int .i64 0)), none⟩])
  .ret)))))))))⟩

/-- (sumpter/sumpterref14.Disk).get -/
def sf358 : SF :=
  ⟨2, 28, [.cell 4 true 3, .t 5],
  (.seq (.reg [⟨some 2, .box (some 0) 9 (.s 0), none⟩,
    ⟨some 4, .alloc (some 1) [.v (.string ⟨#[]⟩), .v (.bool false), .v (.int .i64 0)], none⟩,
    ⟨some 5, .mv (.c (.bool false)), none⟩])
  (.seq (.reg [⟨some 8, .load true 9 (.s 2), none⟩,
    ⟨some 9, .call 352 [(.s 8)], none⟩,
    ⟨some 6, .mv (.s 9), none⟩])
  (.seq (.seq (.reg [⟨some 7, .mv (.c (.int .i64 0)), none⟩])
  (.block 0 (.loop (.seq (.seq (.reg [⟨some 10, .mv (.s 7), none⟩,
    ⟨some 11, .mv (.s 6), none⟩,
    ⟨some 12, .len (.s 11), none⟩,
    ⟨some 13, .int .lss (.s 10) (.s 12), none⟩])
  (.cond (.s 13) .skip
  (.exit 0)))
  (.seq (.block 1 (.seq (.reg [⟨some 16, .mv (.s 6), none⟩,
    ⟨some 17, .mv (.s 7), none⟩,
    ⟨some 18, .idx 3 (.s 16) (.s 17), none⟩,
    ⟨some 19, .fld 0 (.s 18), none⟩,
    ⟨some 20, .load false 1 (.s 19), none⟩,
    ⟨some 21, .mv (.s 1), none⟩,
    ⟨some 22, .str .eql (.s 20) (.s 21), none⟩])
  (.cond (.s 22) (.seq (.reg [⟨some 23, .mv (.s 6), none⟩,
    ⟨some 24, .mv (.s 7), none⟩,
    ⟨some 25, .idx 3 (.s 23) (.s 24), none⟩,
    ⟨some 26, .load true 3 (.s 25), none⟩,
    ⟨none, .store 3 (.s 4) (.s 26), none⟩,
    ⟨some 5, .mv (.c (.bool true)), none⟩])
  .ret)
  .skip)))
  (.reg [⟨some 14, .mv (.s 7), none⟩,
    ⟨some 15, .int .add (.s 14) (.c (.int .i64 1)), none⟩,
    ⟨some 7, .mv (.s 15), none⟩]))))))
  (.seq (.reg [⟨some 27, .build [.v (.string ⟨#[]⟩), .v (.bool false), .v (.int .i64 0)] [], none⟩,
    ⟨none, .store 3 (.s 4) (.s 27), none⟩,
    ⟨some 5, .mv (.c (.bool false)), none⟩])
  .ret))))⟩

/-- (sumpter/sumpterref14.Disk).change -/
def sf359 : SF :=
  ⟨3, 19, [.cell 6 true 9],
  (.seq (.reg [⟨some 3, .box (some 0) 9 (.s 0), none⟩,
    ⟨some 6, .alloc (some 1) [.v (.int .i64 0), .v (.slice none 0 0), .v (.slice none 0 0), .v (.slice none 0 0), .v (.bool false), .v (.int .i64 0), .v (.int .i64 0), .v (.bool false), .v (.int .i64 0)], none⟩])
  (.seq (.reg [⟨some 7, .mv (.c (.slice none 0 0)), none⟩])
  (.seq (.reg [⟨some 8, .mv (.s 7), none⟩,
    ⟨some 9, .fld 2 (.s 3), none⟩,
    ⟨some 10, .load false 1 (.s 9), none⟩,
    ⟨some 11, .app 2 48 (.s 8) (.s 10), none⟩,
    ⟨some 12, .mv (.s 1), none⟩,
    ⟨some 13, .mv (.s 2), none⟩,
    ⟨some 14, .build [.v (.slice none 0 0), .v (.slice none 0 0)] [(0, 1, (.s 12)), (1, 1, (.s 13))], none⟩,
    ⟨some 15, .bslice 2 [(.s 14)], none⟩,
    ⟨some 16, .app 2 48 (.s 11) (.s 15), none⟩,
    ⟨some 17, .fld 2 (.s 3), none⟩,
    ⟨none, .store 1 (.s 17) (.s 16), none⟩])
  (.seq (.reg [⟨some 18, .load true 9 (.s 3), none⟩,
    ⟨none, .store 9 (.s 6) (.s 18), none⟩])
  .ret))))⟩

/-- (sumpter/sumpterref14.Disk).parent -/
def sf360 : SF :=
  ⟨2, 25, [.t 4],
  (.seq (.reg [⟨some 2, .box (some 0) 9 (.s 0), none⟩,
    ⟨some 4, .mv (.c (.int .i64 0)), none⟩])
  (.seq (.reg [⟨some 8, .mv (.s 1), none⟩,
    ⟨some 9, .call 170 [(.s 8)], none⟩,
    ⟨some 5, .mv (.s 9), none⟩])
  (.seq (.seq (.reg [⟨some 10, .mv (.s 5), none⟩,
    ⟨some 11, .str .eql (.s 10) (.c (.string ⟨#[]⟩)), none⟩])
  (.cond (.s 11) (.seq (.reg [⟨some 4, .mv (.c (.int .i64 0)), none⟩])
  .ret)
  .skip))
  (.seq (.reg [⟨some 13, .load true 9 (.s 2), none⟩,
    ⟨some 14, .mv (.s 5), none⟩,
    ⟨some 15, .call 358 [(.s 13), (.s 14)], none⟩,
    ⟨some 12, .mv (.s 15), none⟩,
    ⟨some 16, .ext (.s 12) 0, none⟩,
    ⟨some 17, .ext (.s 12) 1, none⟩,
    ⟨some 6, .alloc (some 1) [.v (.string ⟨#[]⟩), .v (.bool false), .v (.int .i64 0)], none⟩,
    ⟨none, .store 3 (.s 6) (.s 16), none⟩,
    ⟨some 7, .mv (.s 17), none⟩])
  (.seq (.block 0 (.seq (.reg [⟨some 19, .mv (.s 7), none⟩,
    ⟨some 20, .not (.s 19), none⟩,
    ⟨some 18, .mv (.s 20), none⟩])
  (.cond (.s 18) (.seq (.reg [⟨some 4, .mv (.c (.int .i64 8)), none⟩])
  .ret)
  (.seq (.reg [⟨some 22, .fld 1 (.s 6), none⟩,
    ⟨some 23, .load false 1 (.s 22), none⟩,
    ⟨some 24, .not (.s 23), none⟩,
    ⟨some 21, .mv (.s 24), none⟩])
  (.cond (.s 21) (.seq (.reg [⟨some 4, .mv (.c (.int .i64 9)), none⟩])
  .ret)
  .skip)))))
  (.seq (.reg [⟨some 4, .mv (.c (.int .i64 0)), none⟩])
  .ret))))))⟩

/-- maps.Keys[sumpter/disk.names,string,sumpter/disk.node] -/
def sf361 : SF :=
  ⟨1, 4, [.t 2],
  (.seq (.reg [⟨some 1, .box none 1 (.s 0), none⟩,
    ⟨some 2, .mv (.c (.nilFunc)), none⟩])
  (.seq (.reg [⟨some 3, .mkfn 369 [(.s 1)], none⟩,
    ⟨some 2, .mv (.s 3), none⟩])
  .ret))⟩

/-- slices.SortFunc[[]string,string] -/
def sf362 : SF :=
  ⟨2, 14, [],
  (.seq (.reg [⟨some 5, .mv (.s 0), none⟩,
    ⟨some 6, .len (.s 5), none⟩,
    ⟨some 4, .mv (.s 6), none⟩])
  (.reg [⟨some 7, .mv (.s 0), none⟩,
    ⟨some 8, .mv (.s 4), none⟩,
    ⟨some 9, .mv (.s 4), none⟩,
    ⟨some 10, .conv .u64 (.s 9), none⟩,
    ⟨some 11, .dead, none⟩,
    ⟨some 12, .mv (.s 1), none⟩,
    ⟨some 13, .dead, none⟩]))⟩

/-- (*sumpter/disk.Disk).paths$1 -/
def sf363 : SF :=
  ⟨2, 13, [.t 4],
  (.seq (.reg [⟨some 4, .mv (.c (.int .i64 0)), none⟩])
  (.seq (.block 0 (.seq (.reg [⟨some 6, .mv (.s 0), none⟩,
    ⟨some 7, .mv (.s 1), none⟩,
    ⟨some 8, .call 163 [(.s 6), (.s 7)], none⟩,
    ⟨some 5, .mv (.s 8), none⟩])
  (.cond (.s 5) (.seq (.reg [⟨some 4, .mv (.c (.int .i64 (-1))), none⟩])
  .ret)
  (.seq (.reg [⟨some 10, .mv (.s 1), none⟩,
    ⟨some 11, .mv (.s 0), none⟩,
    ⟨some 12, .call 163 [(.s 10), (.s 11)], none⟩,
    ⟨some 9, .mv (.s 12), none⟩])
  (.cond (.s 9) (.seq (.reg [⟨some 4, .mv (.c (.int .i64 1)), none⟩])
  .ret)
  .skip)))))
  (.seq (.reg [⟨some 4, .mv (.c (.int .i64 0)), none⟩])
  .ret)))⟩

/-- (*sumpter/disk.Disk).rename -/
def sf364 : SF :=
  ⟨2, 31, [],
  (.seq (.reg [⟨some 3, .box (some 0) 2 (.s 1), none⟩])
  (.seq (.dreg [0, 1, 2, 3, 4, 5] [⟨⟨some 4, .mv (.s 0), none⟩, []⟩,
    ⟨⟨some 5, .nilc (.s 4), none⟩, []⟩,
    ⟨⟨some 6, .fld 2 (.s 5), none⟩, []⟩,
    ⟨⟨some 7, .load false 1 (.s 6), none⟩, []⟩,
    ⟨⟨some 8, .load true 2 (.s 3), none⟩, []⟩,
    ⟨⟨some 9, .call 330 [(.s 7), (.s 8)], none⟩, []⟩])
  (.dreg [0, 1, 2, 3, 5, 6, 7, 10, 11, 12, 4, 8, 9, 13, 14, 15, 16, 17, 18, 19, 20, 21] [⟨⟨some 10, .mv (.s 0), none⟩, []⟩,
    ⟨⟨some 11, .mv (.s 0), none⟩, []⟩,
    ⟨⟨some 12, .nilc (.s 11), none⟩, []⟩,
    ⟨⟨some 13, .fld 3 (.s 12), none⟩, []⟩,
    ⟨⟨some 15, .mv (.s 0), none⟩, []⟩,
    ⟨⟨some 16, .nilc (.s 15), none⟩, []⟩,
    ⟨⟨some 17, .fld 3 (.s 16), none⟩, []⟩,
    ⟨⟨some 20, .mv (.s 0), none⟩, []⟩,
    ⟨⟨some 21, .nilc (.s 20), none⟩, []⟩,
    ⟨⟨some 22, .fld 3 (.s 21), none⟩, []⟩,
    ⟨⟨some 14, .load false 1 (.s 13), none⟩, []⟩,
    ⟨⟨some 18, .load false 1 (.s 17), none⟩, []⟩,
    ⟨⟨some 19, .len (.s 18), none⟩, []⟩,
    ⟨⟨some 23, .load false 1 (.s 22), none⟩, []⟩,
    ⟨⟨some 24, .len (.s 23), none⟩, []⟩,
    ⟨⟨some 25, .slc 2 (.s 14) none (some (.s 19)) (some (.s 24)), none⟩, []⟩,
    ⟨⟨some 26, .load true 2 (.s 3), none⟩, []⟩,
    ⟨⟨some 27, .bslice 2 [(.s 26)], none⟩, []⟩,
    ⟨⟨some 28, .app 2 48 (.s 25) (.s 27), none⟩, []⟩,
    ⟨⟨some 29, .nilc (.s 10), none⟩, []⟩,
    ⟨⟨some 30, .fld 3 (.s 29), none⟩, []⟩,
    ⟨⟨none, .store 1 (.s 30) (.s 28), none⟩, []⟩])))⟩

/-- sumpter/disk.tick -/
def sf365 : SF :=
  ⟨1, 16, [.t 2],
  (.seq (.reg [⟨some 2, .mv (.c (.bool false)), none⟩])
  (.seq (.seq (.reg [⟨some 3, .mv (.s 0), none⟩,
    ⟨some 4, .nilc (.s 3), none⟩,
    ⟨some 5, .load false 1 (.s 4), none⟩,
    ⟨some 6, .int .eql (.s 5) (.c (.int .i64 (-1))), none⟩])
  (.cond (.s 6) (.seq (.reg [⟨some 2, .mv (.c (.bool false)), none⟩])
  .ret)
  .skip))
  (.seq (.reg [⟨some 7, .mv (.s 0), none⟩,
    ⟨some 8, .nilc (.s 7), none⟩,
    ⟨some 9, .load false 1 (.s 8), none⟩,
    ⟨some 10, .int .sub (.s 9) (.c (.int .i64 1)), none⟩,
    ⟨some 11, .nilc (.s 7), none⟩,
    ⟨none, .store 1 (.s 11) (.s 10), none⟩])
  (.seq (.reg [⟨some 12, .mv (.s 0), none⟩,
    ⟨some 13, .nilc (.s 12), none⟩,
    ⟨some 14, .load false 1 (.s 13), none⟩,
    ⟨some 15, .int .eql (.s 14) (.c (.int .i64 (-1))), none⟩,
    ⟨some 2, .mv (.s 15), none⟩])
  .ret))))⟩

/-- (*sumpter/disk.Disk).put$1 -/
def sf366 : SF :=
  ⟨3, 34, [],
  (.seq (.reg [⟨some 4, .load false 1 (.s 0), none⟩,
    ⟨some 5, .build [.v (.bool false), .v (.int .i64 0)] [(0, 1, (.s 4))], none⟩,
    ⟨some 6, .box none 2 (.s 5), none⟩,
    ⟨some 3, .mv (.s 6), none⟩])
  (.seq (.seq (.reg [⟨some 7, .load false 1 (.s 0), none⟩,
    ⟨some 8, .not (.s 7), none⟩])
  (.cond (.s 8) (.seq (.reg [⟨some 9, .mv (.s 3), none⟩,
    ⟨some 10, .load false 1 (.s 1), none⟩,
    ⟨some 11, .nilc (.s 10), none⟩,
    ⟨some 12, .fld 4 (.s 11), none⟩,
    ⟨some 13, .load false 1 (.s 12), none⟩,
    ⟨some 14, .len (.s 13), none⟩,
    ⟨some 15, .nilc (.s 9), none⟩,
    ⟨some 16, .fld 1 (.s 15), none⟩,
    ⟨none, .store 1 (.s 16) (.s 14), none⟩])
  (.dreg [5, 6, 0, 1, 2, 3, 4, 7, 8, 9, 10] [⟨⟨some 22, .build [.v (.slice none 0 0), .v (.int .i64 0)] [], none⟩, []⟩,
    ⟨⟨some 23, .bslice 2 [(.s 22)], none⟩, []⟩,
    ⟨⟨some 17, .load false 1 (.s 1), none⟩, []⟩,
    ⟨⟨some 18, .load false 1 (.s 1), none⟩, []⟩,
    ⟨⟨some 19, .nilc (.s 18), none⟩, []⟩,
    ⟨⟨some 20, .fld 4 (.s 19), none⟩, []⟩,
    ⟨⟨some 21, .load false 1 (.s 20), none⟩, []⟩,
    ⟨⟨some 24, .app 2 32 (.s 21) (.s 23), none⟩, [2]⟩,
    ⟨⟨some 25, .nilc (.s 17), none⟩, []⟩,
    ⟨⟨some 26, .fld 4 (.s 25), none⟩, []⟩,
    ⟨⟨none, .store 1 (.s 26) (.s 24), none⟩, []⟩]))
  .skip))
  (.reg [⟨some 27, .load false 1 (.s 1), none⟩,
    ⟨some 28, .load false 1 (.s 2), none⟩,
    ⟨some 29, .bslice 1 [(.s 28)], none⟩,
    ⟨some 30, .mv (.s 3), none⟩,
    ⟨some 31, .bslice 1 [(.s 30)], none⟩,
    ⟨some 32, .build [.v (.slice none 0 0), .v (.slice none 0 0)] [(0, 1, (.s 29)), (1, 1, (.s 31))], none⟩,
    ⟨some 33, .call 364 [(.s 27), (.s 32)], none⟩])))⟩

/-- (*sumpter/disk.Disk).with$1 -/
def sf367 : SF :=
  ⟨2, 5, [],
  (.reg [⟨some 2, .load false 1 (.s 0), none⟩,
    ⟨some 3, .load false 1 (.s 1), none⟩,
    ⟨some 4, .callv (.s 2) [(.s 3)], none⟩])⟩

/-- sumpter/sumpterref14.with -/
def sf368 : SF :=
  ⟨2, 62, [.t 4],
  (.seq (.reg [⟨some 3, .box (some 0) 2 (.s 1), none⟩,
    ⟨some 4, .mv (.c (.slice none 0 0)), none⟩])
  (.seq (.reg [⟨some 5, .mv (.c (.slice none 0 0)), none⟩])
  (.seq (.seq (.reg [⟨some 6, .mv (.c (.int .i64 0)), none⟩])
  (.block 0 (.loop (.seq (.seq (.reg [⟨some 10, .mv (.s 6), none⟩,
    ⟨some 11, .mv (.s 0), none⟩,
    ⟨some 12, .len (.s 11), none⟩,
    ⟨some 13, .int .lss (.s 10) (.s 12), none⟩])
  (.cond (.s 13) .skip
  (.exit 0)))
  (.seq (.block 1 (.seq (.reg [⟨some 7, .mv (.c (.bool false)), none⟩])
  (.seq (.seq (.reg [⟨some 8, .mv (.c (.int .i64 0)), none⟩])
  (.block 2 (.loop (.seq (.seq (.reg [⟨some 16, .mv (.s 8), none⟩,
    ⟨some 17, .fld 0 (.s 3), none⟩,
    ⟨some 18, .load false 1 (.s 17), none⟩,
    ⟨some 19, .len (.s 18), none⟩,
    ⟨some 20, .int .lss (.s 16) (.s 19), none⟩])
  (.cond (.s 20) .skip
  (.exit 2)))
  (.seq (.block 3 (.dreg [0, 1, 2, 4, 8, 9, 10, 11, 3, 5, 6, 7, 12, 13, 14, 15] [⟨⟨some 23, .mv (.s 7), none⟩, []⟩,
    ⟨⟨some 24, .mv (.s 23), none⟩, []⟩,
    ⟨⟨some 25, .fld 0 (.s 3), (some (24, false))⟩, []⟩,
    ⟨⟨some 27, .mv (.s 8), (some (24, false))⟩, []⟩,
    ⟨⟨some 31, .mv (.s 0), (some (24, false))⟩, []⟩,
    ⟨⟨some 32, .mv (.s 6), (some (24, false))⟩, []⟩,
    ⟨⟨some 33, .idx 3 (.s 31) (.s 32), (some (24, false))⟩, []⟩,
    ⟨⟨some 34, .fld 0 (.s 33), (some (24, false))⟩, []⟩,
    ⟨⟨some 26, .load false 1 (.s 25), (some (24, false))⟩, []⟩,
    ⟨⟨some 28, .idx 3 (.s 26) (.s 27), (some (24, false))⟩, []⟩,
    ⟨⟨some 29, .fld 0 (.s 28), (some (24, false))⟩, []⟩,
    ⟨⟨some 30, .load false 1 (.s 29), (some (24, false))⟩, []⟩,
    ⟨⟨some 35, .load false 1 (.s 34), (some (24, false))⟩, []⟩,
    ⟨⟨some 36, .str .eql (.s 30) (.s 35), (some (24, false))⟩, []⟩,
    ⟨⟨some 37, .pick (.s 24) (.c (.bool true)) (.s 36), none⟩, []⟩,
    ⟨⟨some 7, .mv (.s 37), none⟩, []⟩]))
  (.reg [⟨some 21, .mv (.s 8), none⟩,
    ⟨some 22, .int .add (.s 21) (.c (.int .i64 1)), none⟩,
    ⟨some 8, .mv (.s 22), none⟩]))))))
  (.seq (.reg [⟨some 38, .mv (.s 7), none⟩,
    ⟨some 39, .not (.s 38), none⟩])
  (.cond (.s 39) (.reg [⟨some 40, .mv (.s 5), none⟩,
    ⟨some 41, .mv (.s 0), none⟩,
    ⟨some 42, .mv (.s 6), none⟩,
    ⟨some 43, .idx 3 (.s 41) (.s 42), none⟩,
    ⟨some 44, .load true 3 (.s 43), none⟩,
    ⟨some 45, .bslice 3 [(.s 44)], none⟩,
    ⟨some 46, .app 3 32 (.s 40) (.s 45), none⟩,
    ⟨some 5, .mv (.s 46), none⟩])
  .skip)))))
  (.reg [⟨some 14, .mv (.s 6), none⟩,
    ⟨some 15, .int .add (.s 14) (.c (.int .i64 1)), none⟩,
    ⟨some 6, .mv (.s 15), none⟩]))))))
  (.seq (.seq (.reg [⟨some 9, .mv (.c (.int .i64 0)), none⟩])
  (.block 4 (.loop (.seq (.seq (.reg [⟨some 47, .mv (.s 9), none⟩,
    ⟨some 48, .fld 1 (.s 3), none⟩,
    ⟨some 49, .load false 1 (.s 48), none⟩,
    ⟨some 50, .len (.s 49), none⟩,
    ⟨some 51, .int .lss (.s 47) (.s 50), none⟩])
  (.cond (.s 51) .skip
  (.exit 4)))
  (.seq (.block 5 (.reg [⟨some 54, .mv (.s 5), none⟩,
    ⟨some 55, .fld 1 (.s 3), none⟩,
    ⟨some 56, .load false 1 (.s 55), none⟩,
    ⟨some 57, .mv (.s 9), none⟩,
    ⟨some 58, .idx 3 (.s 56) (.s 57), none⟩,
    ⟨some 59, .load true 3 (.s 58), none⟩,
    ⟨some 60, .call 370 [(.s 54), (.s 59)], none⟩,
    ⟨some 5, .mv (.s 60), none⟩]))
  (.reg [⟨some 52, .mv (.s 9), none⟩,
    ⟨some 53, .int .add (.s 52) (.c (.int .i64 1)), none⟩,
    ⟨some 9, .mv (.s 53), none⟩]))))))
  (.seq (.reg [⟨some 61, .mv (.s 5), none⟩,
    ⟨some 4, .mv (.s 61), none⟩])
  .ret)))))⟩

/-- maps.Keys[sumpter/disk.names,string,sumpter/disk.node]$1 -/
def sf369 : SF :=
  ⟨2, 14, [],
  (.seq (.reg [⟨some 4, .load false 1 (.s 1), none⟩,
    ⟨some 5, .hop (.m .rng) [(.s 4)], none⟩])
  (.block 0 (.loop (.seq (.reg [⟨some 6, .hop (.m .nxt) [(.s 5)], none⟩,
    ⟨some 7, .ext (.s 6) 0, none⟩])
  (.seq (.cond (.s 7) .skip
  (.exit 0))
  (.block 1 (.seq (.reg [⟨some 8, .hop (.m .ent) [(.s 5)], none⟩,
    ⟨some 9, .ext (.s 8) 0, none⟩,
    ⟨some 3, .mv (.s 9), none⟩])
  (.seq (.reg [⟨some 10, .mv (.s 0), none⟩,
    ⟨some 11, .mv (.s 3), none⟩,
    ⟨some 12, .callv (.s 10) [(.s 11)], none⟩,
    ⟨some 13, .not (.s 12), none⟩])
  (.cond (.s 13) .ret
  .skip)))))))))⟩

/-- sumpter/sumpterref14.laid -/
def sf370 : SF :=
  ⟨2, 35, [.t 4],
  (.seq (.reg [⟨some 3, .box (some 0) 3 (.s 1), none⟩,
    ⟨some 4, .mv (.c (.slice none 0 0)), none⟩])
  (.seq (.reg [⟨some 5, .mv (.c (.int .i64 0)), none⟩])
  (.seq (.block 0 (.loop (.seq (.seq (.dreg [0, 1, 2, 3, 4, 5, 6, 7, 8, 10, 9, 11, 12, 13] [⟨⟨some 7, .mv (.s 5), none⟩, []⟩,
    ⟨⟨some 8, .mv (.s 0), none⟩, []⟩,
    ⟨⟨some 9, .len (.s 8), none⟩, []⟩,
    ⟨⟨some 10, .int .lss (.s 7) (.s 9), none⟩, []⟩,
    ⟨⟨some 11, .mv (.s 10), none⟩, []⟩,
    ⟨⟨some 12, .mv (.s 0), (some (11, true))⟩, []⟩,
    ⟨⟨some 13, .mv (.s 5), (some (11, true))⟩, []⟩,
    ⟨⟨some 14, .idx 3 (.s 12) (.s 13), (some (11, true))⟩, []⟩,
    ⟨⟨some 15, .fld 0 (.s 14), (some (11, true))⟩, []⟩,
    ⟨⟨some 17, .fld 0 (.s 3), (some (11, true))⟩, []⟩,
    ⟨⟨some 16, .load false 1 (.s 15), (some (11, true))⟩, []⟩,
    ⟨⟨some 18, .load false 1 (.s 17), (some (11, true))⟩, []⟩,
    ⟨⟨some 19, .call 176 [(.s 16), (.s 18)], (some (11, true))⟩, []⟩,
    ⟨⟨some 20, .pick (.s 11) (.s 19) (.c (.bool false)), none⟩, []⟩])
  (.cond (.s 20) .skip
  (.exit 0)))
  (.block 1 (.reg [⟨some 21, .mv (.s 5), none⟩,
    ⟨some 22, .int .add (.s 21) (.c (.int .i64 1)), none⟩,
    ⟨some 5, .mv (.s 22), none⟩])))))
  (.seq (.reg [⟨some 6, .mv (.c (.slice none 0 0)), none⟩])
  (.seq (.dreg [0, 1, 2, 3, 8, 9, 10, 5, 6, 4, 7, 11, 12] [⟨⟨some 23, .mv (.s 6), none⟩, []⟩,
    ⟨⟨some 24, .mv (.s 0), none⟩, []⟩,
    ⟨⟨some 25, .mv (.s 5), none⟩, []⟩,
    ⟨⟨some 26, .slc 3 (.s 24) none (some (.s 25)) none, none⟩, []⟩,
    ⟨⟨some 31, .mv (.s 0), none⟩, []⟩,
    ⟨⟨some 32, .mv (.s 5), none⟩, []⟩,
    ⟨⟨some 33, .slc 3 (.s 31) (some (.s 32)) none none, none⟩, []⟩,
    ⟨⟨some 28, .load true 3 (.s 3), none⟩, []⟩,
    ⟨⟨some 29, .bslice 3 [(.s 28)], none⟩, []⟩,
    ⟨⟨some 27, .app 3 32 (.s 23) (.s 26), none⟩, [7]⟩,
    ⟨⟨some 30, .app 3 32 (.s 27) (.s 29), none⟩, []⟩,
    ⟨⟨some 34, .app 3 32 (.s 30) (.s 33), none⟩, []⟩,
    ⟨⟨some 4, .mv (.s 34), none⟩, []⟩])
  .ret)))))⟩

/-- sumpter/sumpterlaw14.DiskSafe -/
def sf371 : SF :=
  ⟨3, 130, [.t 6],
  (.seq (.reg [⟨some 5, .box (some 0) 6 (.s 2), none⟩,
    ⟨some 6, .mv (.c (.bool false)), none⟩])
  (.seq (.seq (.reg [⟨some 14, .mv (.s 0), none⟩,
    ⟨some 15, .call 292 [(.s 14), (.c (.int .i64 50))], none⟩,
    ⟨some 16, .not (.s 15), none⟩,
    ⟨some 17, .mv (.s 16), none⟩,
    ⟨some 18, .mv (.s 1), (some (17, false))⟩,
    ⟨some 19, .len (.s 18), (some (17, false))⟩,
    ⟨some 20, .int .gtr (.s 19) (.c (.int .i64 500)), (some (17, false))⟩,
    ⟨some 21, .pick (.s 17) (.c (.bool true)) (.s 20), none⟩])
  (.cond (.s 21) (.seq (.reg [⟨some 22, .call 293 [], none⟩,
    ⟨some 6, .mv (.s 22), none⟩])
  .ret)
  .skip))
  (.seq (.reg [⟨some 23, .call 294 [(.c (.int .i64 100000))], none⟩,
    ⟨some 24, .call 295 [(.c (.int .i64 100000))], none⟩,
    ⟨some 8, .alloc (some 1) [.v (.int .i64 0), .v (.slice none 0 0), .v (.slice none 0 0), .v (.slice none 0 0), .v (.bool false), .v (.int .i64 0), .v (.int .i64 0), .v (.bool false), .v (.int .i64 0)], none⟩,
    ⟨some 7, .mv (.s 23), none⟩,
    ⟨none, .store 9 (.s 8) (.s 24), none⟩])
  (.seq (.seq (.reg [⟨some 9, .mv (.c (.int .i64 0)), none⟩])
  (.block 0 (.loop (.seq (.seq (.reg [⟨some 25, .mv (.s 9), none⟩,
    ⟨some 26, .mv (.s 0), none⟩,
    ⟨some 27, .len (.s 26), none⟩,
    ⟨some 28, .int .lss (.s 25) (.s 27), none⟩])
  (.cond (.s 28) .skip
  (.exit 0)))
  (.seq (.block 1 (.dreg [0, 2, 3, 4, 1, 5, 6, 7, 8, 9, 10] [⟨⟨some 32, .mv (.s 7), none⟩, []⟩,
    ⟨⟨some 34, .mv (.s 0), none⟩, []⟩,
    ⟨⟨some 35, .mv (.s 9), none⟩, []⟩,
    ⟨⟨some 36, .idx 6 (.s 34) (.s 35), none⟩, []⟩,
    ⟨⟨some 33, .load true 9 (.s 8), none⟩, []⟩,
    ⟨⟨some 37, .load true 6 (.s 36), none⟩, []⟩,
    ⟨⟨some 38, .call 296 [(.s 32), (.s 33), (.s 37)], none⟩, []⟩,
    ⟨⟨some 31, .mv (.s 38), none⟩, []⟩,
    ⟨⟨some 39, .ext (.s 31) 0, none⟩, []⟩,
    ⟨⟨some 40, .ext (.s 31) 1, none⟩, []⟩,
    ⟨⟨none, .store 9 (.s 8) (.s 39), none⟩, []⟩]))
  (.reg [⟨some 29, .mv (.s 9), none⟩,
    ⟨some 30, .int .add (.s 29) (.c (.int .i64 1)), none⟩,
    ⟨some 9, .mv (.s 30), none⟩]))))))
  (.seq (.reg [⟨some 41, .mv (.s 7), none⟩,
    ⟨some 42, .call 297 [(.s 41), (.c (.int .i64 99)), (.c (.slice none 0 0))], none⟩])
  (.seq (.seq (.reg [⟨some 43, .mv (.s 7), none⟩,
    ⟨some 44, .call 298 [(.s 43), (.c (.string ⟨#[122, 122]⟩))], none⟩,
    ⟨some 45, .int .neq (.s 44) (.c (.int .i64 0)), none⟩,
    ⟨some 46, .mv (.s 45), none⟩,
    ⟨some 47, .mv (.s 7), (some (46, true))⟩,
    ⟨some 48, .call 299 [(.s 47), (.c (.string ⟨#[122, 122]⟩))], (some (46, true))⟩,
    ⟨some 49, .int .neq (.s 48) (.c (.int .i64 0)), (some (46, true))⟩,
    ⟨some 50, .pick (.s 46) (.s 49) (.c (.bool false)), none⟩])
  (.cond (.s 50) (.seq (.reg [⟨some 51, .call 293 [], none⟩,
    ⟨some 6, .mv (.s 51), none⟩])
  .ret)
  .skip))
  (.seq (.reg [⟨some 53, .mv (.s 7), none⟩,
    ⟨some 54, .call 300 [(.s 53), (.c (.string ⟨#[122, 122]⟩))], none⟩,
    ⟨some 52, .mv (.s 54), none⟩,
    ⟨some 55, .ext (.s 52) 0, none⟩,
    ⟨some 56, .ext (.s 52) 1, none⟩,
    ⟨some 10, .mv (.s 55), none⟩,
    ⟨some 11, .mv (.s 56), none⟩])
  (.seq (.seq (.reg [⟨some 57, .mv (.s 11), none⟩,
    ⟨some 58, .int .eql (.s 57) (.c (.int .i64 8)), none⟩,
    ⟨some 59, .mv (.s 58), none⟩,
    ⟨some 60, .mv (.s 7), (some (59, true))⟩,
    ⟨some 61, .call 299 [(.s 60), (.c (.string ⟨#[122, 122]⟩))], (some (59, true))⟩,
    ⟨some 62, .int .neq (.s 61) (.c (.int .i64 0)), (some (59, true))⟩,
    ⟨some 63, .pick (.s 59) (.s 62) (.c (.bool false)), none⟩])
  (.cond (.s 63) (.seq (.reg [⟨some 6, .mv (.c (.bool false)), none⟩])
  .ret)
  .skip))
  (.seq (.seq (.reg [⟨some 64, .mv (.s 7), none⟩,
    ⟨some 65, .call 301 [(.s 64), (.c (.string ⟨#[122, 122]⟩)), (.c (.int .i64 0))], none⟩,
    ⟨some 66, .int .neq (.s 65) (.c (.int .i64 0)), none⟩,
    ⟨some 67, .mv (.s 66), none⟩,
    ⟨some 68, .mv (.s 7), (some (67, false))⟩,
    ⟨some 69, .mv (.s 1), (some (67, false))⟩,
    ⟨some 70, .call 302 [(.s 68), (.c (.string ⟨#[122, 122]⟩)), (.s 69)], (some (67, false))⟩,
    ⟨some 71, .int .neq (.s 70) (.c (.int .i64 0)), (some (67, false))⟩,
    ⟨some 72, .pick (.s 67) (.c (.bool true)) (.s 71), none⟩,
    ⟨some 73, .mv (.s 72), none⟩,
    ⟨some 74, .mv (.s 7), (some (73, false))⟩,
    ⟨some 75, .call 303 [(.s 74), (.c (.string ⟨#[122, 122]⟩))], (some (73, false))⟩,
    ⟨some 76, .int .neq (.s 75) (.c (.int .i64 0)), (some (73, false))⟩,
    ⟨some 77, .pick (.s 73) (.c (.bool true)) (.s 76), none⟩,
    ⟨some 78, .mv (.s 77), none⟩,
    ⟨some 79, .mv (.s 7), (some (78, false))⟩,
    ⟨some 80, .call 304 [(.s 79)], (some (78, false))⟩,
    ⟨some 81, .int .neq (.s 80) (.c (.int .i64 0)), (some (78, false))⟩,
    ⟨some 82, .pick (.s 78) (.c (.bool true)) (.s 81), none⟩,
    ⟨some 83, .mv (.s 82), none⟩,
    ⟨some 84, .mv (.s 7), (some (83, false))⟩,
    ⟨some 85, .hop (.bsl 1) [(.c (.int .u8 109)), (.c (.int .u8 111)), (.c (.int .u8 114)), (.c (.int .u8 101))], (some (83, false))⟩,
    ⟨some 86, .hop .mark [(.s 85)], (some (83, false))⟩,
    ⟨some 87, .call 302 [(.s 84), (.c (.string ⟨#[122, 122]⟩)), (.s 86)], (some (83, false))⟩,
    ⟨some 88, .int .neq (.s 87) (.c (.int .i64 0)), (some (83, false))⟩,
    ⟨some 89, .pick (.s 83) (.c (.bool true)) (.s 88), none⟩])
  (.cond (.s 89) (.seq (.reg [⟨some 6, .mv (.c (.bool false)), none⟩])
  .ret)
  .skip))
  (.seq (.reg [⟨some 90, .mv (.s 7), none⟩,
    ⟨some 91, .fld 4 (.s 5), none⟩,
    ⟨some 92, .load false 1 (.s 91), none⟩,
    ⟨some 93, .fld 3 (.s 5), none⟩,
    ⟨some 94, .load false 1 (.s 93), none⟩,
    ⟨some 95, .call 297 [(.s 90), (.s 92), (.s 94)], none⟩])
  (.seq (.reg [⟨some 97, .mv (.s 7), none⟩,
    ⟨some 98, .call 300 [(.s 97), (.c (.string ⟨#[122, 122]⟩))], none⟩,
    ⟨some 96, .mv (.s 98), none⟩,
    ⟨some 99, .ext (.s 96) 0, none⟩,
    ⟨some 100, .ext (.s 96) 1, none⟩,
    ⟨some 12, .mv (.s 99), none⟩,
    ⟨some 13, .mv (.s 100), none⟩])
  (.seq (.dreg [0, 1, 2, 3, 4, 5, 6, 7, 8, 9, 10, 11, 12, 13, 14, 15, 16, 17, 18, 19, 20, 22, 23, 21, 24, 25, 26, 27, 28, 29] [⟨⟨some 101, .mv (.s 13), none⟩, []⟩,
    ⟨⟨some 102, .int .eql (.s 101) (.c (.int .i64 0)), none⟩, []⟩,
    ⟨⟨some 103, .mv (.s 102), none⟩, []⟩,
    ⟨⟨some 104, .mv (.s 12), (some (103, true))⟩, []⟩,
    ⟨⟨some 105, .len (.s 104), (some (103, true))⟩, []⟩,
    ⟨⟨some 106, .mv (.s 1), (some (103, true))⟩, []⟩,
    ⟨⟨some 107, .len (.s 106), (some (103, true))⟩, []⟩,
    ⟨⟨some 108, .int .geq (.s 105) (.s 107), (some (103, true))⟩, []⟩,
    ⟨⟨some 109, .pick (.s 103) (.s 108) (.c (.bool false)), none⟩, []⟩,
    ⟨⟨some 110, .mv (.s 109), none⟩, []⟩,
    ⟨⟨some 111, .mv (.s 12), (some (110, true))⟩, []⟩,
    ⟨⟨some 112, .mv (.s 1), (some (110, true))⟩, []⟩,
    ⟨⟨some 113, .len (.s 112), (some (110, true))⟩, []⟩,
    ⟨⟨some 114, .slc 1 (.s 111) none (some (.s 113)) none, (some (110, true))⟩, []⟩,
    ⟨⟨some 115, .b2c (.s 114), (some (110, true))⟩, []⟩,
    ⟨⟨some 116, .mv (.s 1), (some (110, true))⟩, []⟩,
    ⟨⟨some 117, .b2c (.s 116), (some (110, true))⟩, []⟩,
    ⟨⟨some 118, .str .eql (.s 115) (.s 117), (some (110, true))⟩, []⟩,
    ⟨⟨some 119, .pick (.s 110) (.s 118) (.c (.bool false)), none⟩, []⟩,
    ⟨⟨some 120, .mv (.s 119), none⟩, []⟩,
    ⟨⟨some 121, .mv (.s 7), (some (120, true))⟩, []⟩,
    ⟨⟨some 123, .mv (.s 12), (some (120, true))⟩, []⟩,
    ⟨⟨some 124, .len (.s 123), (some (120, true))⟩, []⟩,
    ⟨⟨some 122, .call 305 [(.s 121), (.c (.string ⟨#[122, 122]⟩))], (some (120, true))⟩, []⟩,
    ⟨⟨some 125, .int .eql (.s 122) (.s 124), (some (120, true))⟩, []⟩,
    ⟨⟨some 126, .pick (.s 120) (.s 125) (.c (.bool false)), none⟩, []⟩,
    ⟨⟨some 127, .mv (.s 126), none⟩, []⟩,
    ⟨⟨some 128, .call 293 [], (some (127, true))⟩, []⟩,
    ⟨⟨some 129, .pick (.s 127) (.s 128) (.c (.bool false)), none⟩, []⟩,
    ⟨⟨some 6, .mv (.s 129), none⟩, []⟩])
  .ret))))))))))))⟩

/-- sumpter/sumpterlaw14.DiskPlays -/
def sf372 : SF :=
  ⟨2, 51, [.t 4],
  (.seq (.reg [⟨some 4, .mv (.c (.bool false)), none⟩])
  (.seq (.seq (.reg [⟨some 9, .mv (.s 1), none⟩,
    ⟨some 10, .call 292 [(.s 9), (.c (.int .i64 60))], none⟩,
    ⟨some 11, .not (.s 10), none⟩])
  (.cond (.s 11) (.seq (.reg [⟨some 12, .call 293 [], none⟩,
    ⟨some 4, .mv (.s 12), none⟩])
  .ret)
  .skip))
  (.seq (.reg [⟨some 13, .mv (.s 0), none⟩,
    ⟨some 14, .call 294 [(.s 13)], none⟩,
    ⟨some 15, .mv (.s 0), none⟩,
    ⟨some 16, .call 295 [(.s 15)], none⟩,
    ⟨some 6, .alloc (some 0) [.v (.int .i64 0), .v (.slice none 0 0), .v (.slice none 0 0), .v (.slice none 0 0), .v (.bool false), .v (.int .i64 0), .v (.int .i64 0), .v (.bool false), .v (.int .i64 0)], none⟩,
    ⟨some 5, .mv (.s 14), none⟩,
    ⟨none, .store 9 (.s 6) (.s 16), none⟩])
  (.seq (.reg [⟨some 7, .mv (.c (.bool true)), none⟩])
  (.seq (.seq (.reg [⟨some 8, .mv (.c (.int .i64 0)), none⟩])
  (.block 0 (.loop (.seq (.seq (.reg [⟨some 17, .mv (.s 8), none⟩,
    ⟨some 18, .mv (.s 1), none⟩,
    ⟨some 19, .len (.s 18), none⟩,
    ⟨some 20, .int .lss (.s 17) (.s 19), none⟩])
  (.cond (.s 20) .skip
  (.exit 0)))
  (.seq (.block 1 (.seq (.dreg [0, 2, 3, 4, 1, 5, 6, 7, 8, 9, 10, 11] [⟨⟨some 24, .mv (.s 5), none⟩, []⟩,
    ⟨⟨some 26, .mv (.s 1), none⟩, []⟩,
    ⟨⟨some 27, .mv (.s 8), none⟩, []⟩,
    ⟨⟨some 28, .idx 6 (.s 26) (.s 27), none⟩, []⟩,
    ⟨⟨some 25, .load true 9 (.s 6), none⟩, []⟩,
    ⟨⟨some 29, .load true 6 (.s 28), none⟩, []⟩,
    ⟨⟨some 30, .call 296 [(.s 24), (.s 25), (.s 29)], none⟩, []⟩,
    ⟨⟨some 23, .mv (.s 30), none⟩, []⟩,
    ⟨⟨some 31, .ext (.s 23) 0, none⟩, []⟩,
    ⟨⟨some 32, .ext (.s 23) 1, none⟩, []⟩,
    ⟨⟨none, .store 9 (.s 6) (.s 31), none⟩, []⟩,
    ⟨⟨some 7, .mv (.s 32), none⟩, []⟩])
  (.seq (.dreg [0, 1, 2, 3, 5, 6, 7, 8, 4, 9, 10, 11, 12] [⟨⟨some 33, .mv (.s 7), none⟩, []⟩,
    ⟨⟨some 34, .not (.s 33), none⟩, []⟩,
    ⟨⟨some 35, .mv (.s 34), none⟩, []⟩,
    ⟨⟨some 36, .mv (.s 5), (some (35, false))⟩, []⟩,
    ⟨⟨some 38, .mv (.s 1), (some (35, false))⟩, []⟩,
    ⟨⟨some 39, .mv (.s 8), (some (35, false))⟩, []⟩,
    ⟨⟨some 40, .idx 6 (.s 38) (.s 39), (some (35, false))⟩, []⟩,
    ⟨⟨some 41, .fld 1 (.s 40), (some (35, false))⟩, []⟩,
    ⟨⟨some 37, .load true 9 (.s 6), (some (35, false))⟩, []⟩,
    ⟨⟨some 42, .load false 1 (.s 41), (some (35, false))⟩, []⟩,
    ⟨⟨some 43, .call 306 [(.s 36), (.s 37), (.s 42)], (some (35, false))⟩, []⟩,
    ⟨⟨some 44, .not (.s 43), (some (35, false))⟩, []⟩,
    ⟨⟨some 45, .pick (.s 35) (.c (.bool true)) (.s 44), none⟩, []⟩])
  (.cond (.s 45) (.seq (.reg [⟨some 4, .mv (.c (.bool false)), none⟩])
  .ret)
  .skip))))
  (.reg [⟨some 21, .mv (.s 8), none⟩,
    ⟨some 22, .int .add (.s 21) (.c (.int .i64 1)), none⟩,
    ⟨some 8, .mv (.s 22), none⟩]))))))
  (.seq (.reg [⟨some 46, .mv (.s 5), none⟩,
    ⟨some 47, .eq .ptr true (.s 46) (.c (.pointer none)), none⟩,
    ⟨some 48, .mv (.s 47), none⟩,
    ⟨some 49, .call 293 [], (some (48, true))⟩,
    ⟨some 50, .pick (.s 48) (.s 49) (.c (.bool false)), none⟩,
    ⟨some 4, .mv (.s 50), none⟩])
  .ret))))))⟩

/-- sumpter/sumpterlaw14.DiskForks -/
def sf373 : SF :=
  ⟨2, 170, [.t 4],
  (.seq (.reg [⟨some 4, .mv (.c (.bool false)), none⟩])
  (.seq (.seq (.reg [⟨some 16, .mv (.s 0), none⟩,
    ⟨some 17, .call 292 [(.s 16), (.c (.int .i64 50))], none⟩,
    ⟨some 18, .not (.s 17), none⟩,
    ⟨some 19, .mv (.s 18), none⟩,
    ⟨some 20, .mv (.s 1), (some (19, false))⟩,
    ⟨some 21, .call 292 [(.s 20), (.c (.int .i64 50))], (some (19, false))⟩,
    ⟨some 22, .not (.s 21), (some (19, false))⟩,
    ⟨some 23, .pick (.s 19) (.c (.bool true)) (.s 22), none⟩])
  (.cond (.s 23) (.seq (.reg [⟨some 24, .call 293 [], none⟩,
    ⟨some 4, .mv (.s 24), none⟩])
  .ret)
  .skip))
  (.seq (.reg [⟨some 25, .call 294 [(.c (.int .i64 1000))], none⟩,
    ⟨some 26, .call 295 [(.c (.int .i64 1000))], none⟩,
    ⟨some 6, .alloc (some 0) [.v (.int .i64 0), .v (.slice none 0 0), .v (.slice none 0 0), .v (.slice none 0 0), .v (.bool false), .v (.int .i64 0), .v (.int .i64 0), .v (.bool false), .v (.int .i64 0)], none⟩,
    ⟨some 5, .mv (.s 25), none⟩,
    ⟨none, .store 9 (.s 6) (.s 26), none⟩])
  (.seq (.seq (.reg [⟨some 7, .mv (.c (.int .i64 0)), none⟩])
  (.block 0 (.loop (.seq (.seq (.reg [⟨some 27, .mv (.s 7), none⟩,
    ⟨some 28, .mv (.s 0), none⟩,
    ⟨some 29, .len (.s 28), none⟩,
    ⟨some 30, .int .lss (.s 27) (.s 29), none⟩])
  (.cond (.s 30) .skip
  (.exit 0)))
  (.seq (.block 1 (.dreg [0, 2, 3, 4, 1, 5, 6, 7, 8, 9, 10] [⟨⟨some 34, .mv (.s 5), none⟩, []⟩,
    ⟨⟨some 36, .mv (.s 0), none⟩, []⟩,
    ⟨⟨some 37, .mv (.s 7), none⟩, []⟩,
    ⟨⟨some 38, .idx 6 (.s 36) (.s 37), none⟩, []⟩,
    ⟨⟨some 35, .load true 9 (.s 6), none⟩, []⟩,
    ⟨⟨some 39, .load true 6 (.s 38), none⟩, []⟩,
    ⟨⟨some 40, .call 296 [(.s 34), (.s 35), (.s 39)], none⟩, []⟩,
    ⟨⟨some 33, .mv (.s 40), none⟩, []⟩,
    ⟨⟨some 41, .ext (.s 33) 0, none⟩, []⟩,
    ⟨⟨some 42, .ext (.s 33) 1, none⟩, []⟩,
    ⟨⟨none, .store 9 (.s 6) (.s 41), none⟩, []⟩]))
  (.reg [⟨some 31, .mv (.s 7), none⟩,
    ⟨some 32, .int .add (.s 31) (.c (.int .i64 1)), none⟩,
    ⟨some 7, .mv (.s 32), none⟩]))))))
  (.seq (.dreg [0, 2, 3, 1, 4, 5, 6] [⟨⟨some 43, .mv (.s 5), none⟩, []⟩,
    ⟨⟨some 45, .load true 9 (.s 6), none⟩, []⟩,
    ⟨⟨some 9, .alloc (some 1) [.v (.int .i64 0), .v (.slice none 0 0), .v (.slice none 0 0), .v (.slice none 0 0), .v (.bool false), .v (.int .i64 0), .v (.int .i64 0), .v (.bool false), .v (.int .i64 0)], none⟩, []⟩,
    ⟨⟨some 44, .call 307 [(.s 43)], none⟩, [1]⟩,
    ⟨⟨some 8, .mv (.s 44), none⟩, []⟩,
    ⟨⟨none, .store 9 (.s 9) (.s 45), none⟩, []⟩,
    ⟨⟨some 10, .mv (.c (.bool true)), none⟩, []⟩])
  (.seq (.seq (.reg [⟨some 46, .mv (.s 8), none⟩,
    ⟨some 47, .eq .ptr false (.s 46) (.c (.pointer none)), none⟩])
  (.cond (.s 47) (.seq (.reg [⟨some 4, .mv (.c (.bool false)), none⟩])
  .ret)
  .skip))
  (.seq (.seq (.reg [⟨some 11, .mv (.c (.int .i64 0)), none⟩])
  (.block 2 (.loop (.seq (.seq (.reg [⟨some 48, .mv (.s 11), none⟩,
    ⟨some 49, .mv (.s 1), none⟩,
    ⟨some 50, .len (.s 49), none⟩,
    ⟨some 51, .int .lss (.s 48) (.s 50), none⟩])
  (.cond (.s 51) .skip
  (.exit 2)))
  (.seq (.block 3 (.seq (.dreg [0, 2, 3, 4, 1, 5, 6, 7, 8, 9, 10, 11] [⟨⟨some 55, .mv (.s 8), none⟩, []⟩,
    ⟨⟨some 57, .mv (.s 1), none⟩, []⟩,
    ⟨⟨some 58, .mv (.s 11), none⟩, []⟩,
    ⟨⟨some 59, .idx 6 (.s 57) (.s 58), none⟩, []⟩,
    ⟨⟨some 56, .load true 9 (.s 9), none⟩, []⟩,
    ⟨⟨some 60, .load true 6 (.s 59), none⟩, []⟩,
    ⟨⟨some 61, .call 296 [(.s 55), (.s 56), (.s 60)], none⟩, []⟩,
    ⟨⟨some 54, .mv (.s 61), none⟩, []⟩,
    ⟨⟨some 62, .ext (.s 54) 0, none⟩, []⟩,
    ⟨⟨some 63, .ext (.s 54) 1, none⟩, []⟩,
    ⟨⟨none, .store 9 (.s 9) (.s 62), none⟩, []⟩,
    ⟨⟨some 10, .mv (.s 63), none⟩, []⟩])
  (.seq (.reg [⟨some 64, .mv (.s 10), none⟩,
    ⟨some 65, .not (.s 64), none⟩])
  (.cond (.s 65) (.seq (.reg [⟨some 4, .mv (.c (.bool false)), none⟩])
  .ret)
  .skip))))
  (.reg [⟨some 52, .mv (.s 11), none⟩,
    ⟨some 53, .int .add (.s 52) (.c (.int .i64 1)), none⟩,
    ⟨some 11, .mv (.s 53), none⟩]))))))
  (.seq (.reg [⟨some 12, .mv (.c (.pointer none)), none⟩])
  (.seq (.reg [⟨some 66, .mv (.s 12), none⟩,
    ⟨some 67, .call 297 [(.s 66), (.c (.int .i64 1)), (.c (.slice none 0 0))], none⟩])
  (.seq (.reg [⟨some 69, .mv (.s 12), none⟩,
    ⟨some 70, .call 300 [(.s 69), (.c (.string ⟨#[97]⟩))], none⟩,
    ⟨some 68, .mv (.s 70), none⟩,
    ⟨some 71, .ext (.s 68) 0, none⟩,
    ⟨some 72, .ext (.s 68) 1, none⟩,
    ⟨some 13, .mv (.s 71), none⟩,
    ⟨some 14, .mv (.s 72), none⟩])
  (.seq (.reg [⟨some 73, .mv (.s 14), none⟩,
    ⟨some 74, .int .eql (.s 73) (.c (.int .i64 1)), none⟩,
    ⟨some 75, .mv (.s 74), none⟩,
    ⟨some 76, .mv (.s 12), (some (75, true))⟩,
    ⟨some 77, .call 299 [(.s 76), (.c (.string ⟨#[97]⟩))], (some (75, true))⟩,
    ⟨some 78, .int .eql (.s 77) (.c (.int .i64 1)), (some (75, true))⟩,
    ⟨some 79, .pick (.s 75) (.s 78) (.c (.bool false)), none⟩,
    ⟨some 80, .mv (.s 79), none⟩,
    ⟨some 81, .mv (.s 12), (some (80, true))⟩,
    ⟨some 82, .call 302 [(.s 81), (.c (.string ⟨#[97]⟩)), (.c (.slice none 0 0))], (some (80, true))⟩,
    ⟨some 83, .int .eql (.s 82) (.c (.int .i64 1)), (some (80, true))⟩,
    ⟨some 84, .pick (.s 80) (.s 83) (.c (.bool false)), none⟩,
    ⟨some 85, .mv (.s 84), none⟩,
    ⟨some 86, .mv (.s 12), (some (85, true))⟩,
    ⟨some 87, .call 301 [(.s 86), (.c (.string ⟨#[97]⟩)), (.c (.int .i64 0))], (some (85, true))⟩,
    ⟨some 88, .int .eql (.s 87) (.c (.int .i64 1)), (some (85, true))⟩,
    ⟨some 89, .pick (.s 85) (.s 88) (.c (.bool false)), none⟩,
    ⟨some 90, .mv (.s 89), none⟩,
    ⟨some 91, .mv (.s 12), (some (90, true))⟩,
    ⟨some 92, .call 303 [(.s 91), (.c (.string ⟨#[97]⟩))], (some (90, true))⟩,
    ⟨some 93, .int .eql (.s 92) (.c (.int .i64 1)), (some (90, true))⟩,
    ⟨some 94, .pick (.s 90) (.s 93) (.c (.bool false)), none⟩,
    ⟨some 95, .mv (.s 94), none⟩,
    ⟨some 96, .mv (.s 12), (some (95, true))⟩,
    ⟨some 97, .call 308 [(.s 96), (.c (.string ⟨#[97]⟩))], (some (95, true))⟩,
    ⟨some 98, .int .eql (.s 97) (.c (.int .i64 1)), (some (95, true))⟩,
    ⟨some 99, .pick (.s 95) (.s 98) (.c (.bool false)), none⟩,
    ⟨some 100, .mv (.s 99), none⟩,
    ⟨some 101, .mv (.s 12), (some (100, true))⟩,
    ⟨some 102, .call 298 [(.s 101), (.c (.string ⟨#[97]⟩))], (some (100, true))⟩,
    ⟨some 103, .int .eql (.s 102) (.c (.int .i64 1)), (some (100, true))⟩,
    ⟨some 104, .pick (.s 100) (.s 103) (.c (.bool false)), none⟩,
    ⟨some 105, .mv (.s 104), none⟩,
    ⟨some 106, .mv (.s 12), (some (105, true))⟩,
    ⟨some 107, .call 309 [(.s 106), (.c (.string ⟨#[97]⟩)), (.c (.string ⟨#[98]⟩))], (some (105, true))⟩,
    ⟨some 108, .int .eql (.s 107) (.c (.int .i64 1)), (some (105, true))⟩,
    ⟨some 109, .pick (.s 105) (.s 108) (.c (.bool false)), none⟩,
    ⟨some 110, .mv (.s 109), none⟩,
    ⟨some 111, .mv (.s 12), (some (110, true))⟩,
    ⟨some 112, .call 304 [(.s 111)], (some (110, true))⟩,
    ⟨some 113, .int .eql (.s 112) (.c (.int .i64 1)), (some (110, true))⟩,
    ⟨some 114, .pick (.s 110) (.s 113) (.c (.bool false)), none⟩,
    ⟨some 115, .mv (.s 114), none⟩,
    ⟨some 116, .mv (.s 12), (some (115, true))⟩,
    ⟨some 117, .call 310 [(.s 116), (.c (.int .i64 1)), (.c (.bool true))], (some (115, true))⟩,
    ⟨some 118, .int .eql (.s 117) (.c (.int .i64 1)), (some (115, true))⟩,
    ⟨some 119, .pick (.s 115) (.s 118) (.c (.bool false)), none⟩,
    ⟨some 120, .mv (.s 119), none⟩,
    ⟨some 121, .mv (.s 12), (some (120, true))⟩,
    ⟨some 122, .call 311 [(.s 121), (.c (.int .i64 1))], (some (120, true))⟩,
    ⟨some 123, .int .eql (.s 122) (.c (.int .i64 1)), (some (120, true))⟩,
    ⟨some 124, .pick (.s 120) (.s 123) (.c (.bool false)), none⟩,
    ⟨some 125, .mv (.s 124), none⟩,
    ⟨some 126, .mv (.s 12), (some (125, true))⟩,
    ⟨some 127, .call 305 [(.s 126), (.c (.string ⟨#[97]⟩))], (some (125, true))⟩,
    ⟨some 128, .int .eql (.s 127) (.c (.int .i64 0)), (some (125, true))⟩,
    ⟨some 129, .pick (.s 125) (.s 128) (.c (.bool false)), none⟩,
    ⟨some 130, .mv (.s 129), none⟩,
    ⟨some 131, .mv (.s 12), (some (130, true))⟩,
    ⟨some 132, .call 312 [(.s 131)], (some (130, true))⟩,
    ⟨some 133, .len (.s 132), (some (130, true))⟩,
    ⟨some 134, .int .eql (.s 133) (.c (.int .i64 0)), (some (130, true))⟩,
    ⟨some 135, .pick (.s 130) (.s 134) (.c (.bool false)), none⟩,
    ⟨some 136, .mv (.s 135), none⟩,
    ⟨some 137, .mv (.s 12), (some (136, true))⟩,
    ⟨some 138, .call 313 [(.s 137)], (some (136, true))⟩,
    ⟨some 139, .int .eql (.s 138) (.c (.int .i64 0)), (some (136, true))⟩,
    ⟨some 140, .pick (.s 136) (.s 139) (.c (.bool false)), none⟩,
    ⟨some 141, .mv (.s 140), none⟩,
    ⟨some 142, .mv (.s 12), (some (141, true))⟩,
    ⟨some 143, .call 314 [(.s 142)], (some (141, true))⟩,
    ⟨some 144, .not (.s 143), (some (141, true))⟩,
    ⟨some 145, .pick (.s 141) (.s 144) (.c (.bool false)), none⟩,
    ⟨some 146, .mv (.s 145), none⟩,
    ⟨some 147, .mv (.s 12), (some (146, true))⟩,
    ⟨some 148, .call 315 [(.s 147)], (some (146, true))⟩,
    ⟨some 149, .int .eql (.s 148) (.c (.int .i64 0)), (some (146, true))⟩,
    ⟨some 150, .pick (.s 146) (.s 149) (.c (.bool false)), none⟩,
    ⟨some 151, .mv (.s 150), none⟩,
    ⟨some 152, .mv (.s 12), (some (151, true))⟩,
    ⟨some 153, .call 307 [(.s 152)], (some (151, true))⟩,
    ⟨some 154, .eq .ptr false (.s 153) (.c (.pointer none)), (some (151, true))⟩,
    ⟨some 155, .pick (.s 151) (.s 154) (.c (.bool false)), none⟩,
    ⟨some 15, .mv (.s 155), none⟩])
  (.seq (.reg [⟨some 156, .mv (.s 8), none⟩,
    ⟨some 157, .load true 9 (.s 9), none⟩,
    ⟨some 158, .call 306 [(.s 156), (.s 157), (.c (.string ⟨#[97]⟩))], none⟩,
    ⟨some 159, .mv (.s 158), none⟩,
    ⟨some 160, .mv (.s 5), (some (159, true))⟩,
    ⟨some 161, .load true 9 (.s 6), (some (159, true))⟩,
    ⟨some 162, .call 306 [(.s 160), (.s 161), (.c (.string ⟨#[97]⟩))], (some (159, true))⟩,
    ⟨some 163, .pick (.s 159) (.s 162) (.c (.bool false)), none⟩,
    ⟨some 164, .mv (.s 163), none⟩,
    ⟨some 165, .mv (.s 15), (some (164, true))⟩,
    ⟨some 166, .pick (.s 164) (.s 165) (.c (.bool false)), none⟩,
    ⟨some 167, .mv (.s 166), none⟩,
    ⟨some 168, .call 293 [], (some (167, true))⟩,
    ⟨some 169, .pick (.s 167) (.s 168) (.c (.bool false)), none⟩,
    ⟨some 4, .mv (.s 169), none⟩])
  .ret))))))))))))⟩

/-- sumpter/sumpterlaw14.DiskTrees -/
def sf374 : SF :=
  ⟨2, 125, [.t 4],
  (.seq (.reg [⟨some 4, .mv (.c (.bool false)), none⟩])
  (.seq (.seq (.reg [⟨some 13, .mv (.s 1), none⟩,
    ⟨some 14, .call 292 [(.s 13), (.c (.int .i64 60))], none⟩,
    ⟨some 15, .not (.s 14), none⟩])
  (.cond (.s 15) (.seq (.reg [⟨some 16, .call 293 [], none⟩,
    ⟨some 4, .mv (.s 16), none⟩])
  .ret)
  .skip))
  (.seq (.reg [⟨some 17, .mv (.s 0), none⟩,
    ⟨some 18, .conv .i64 (.s 17), none⟩,
    ⟨some 19, .call 294 [(.s 18)], none⟩,
    ⟨some 20, .mv (.s 0), none⟩,
    ⟨some 21, .conv .i64 (.s 20), none⟩,
    ⟨some 22, .call 295 [(.s 21)], none⟩,
    ⟨some 6, .alloc (some 0) [.v (.int .i64 0), .v (.slice none 0 0), .v (.slice none 0 0), .v (.slice none 0 0), .v (.bool false), .v (.int .i64 0), .v (.int .i64 0), .v (.bool false), .v (.int .i64 0)], none⟩,
    ⟨some 5, .mv (.s 19), none⟩,
    ⟨none, .store 9 (.s 6) (.s 22), none⟩])
  (.seq (.seq (.reg [⟨some 7, .mv (.c (.int .i64 0)), none⟩])
  (.block 0 (.loop (.seq (.seq (.reg [⟨some 23, .mv (.s 7), none⟩,
    ⟨some 24, .mv (.s 1), none⟩,
    ⟨some 25, .len (.s 24), none⟩,
    ⟨some 26, .int .lss (.s 23) (.s 25), none⟩])
  (.cond (.s 26) .skip
  (.exit 0)))
  (.seq (.block 1 (.seq (.dreg [0, 2, 3, 4, 1, 5, 6, 7, 8, 9, 10] [⟨⟨some 30, .mv (.s 5), none⟩, []⟩,
    ⟨⟨some 32, .mv (.s 1), none⟩, []⟩,
    ⟨⟨some 33, .mv (.s 7), none⟩, []⟩,
    ⟨⟨some 34, .idx 6 (.s 32) (.s 33), none⟩, []⟩,
    ⟨⟨some 31, .load true 9 (.s 6), none⟩, []⟩,
    ⟨⟨some 35, .load true 6 (.s 34), none⟩, []⟩,
    ⟨⟨some 36, .call 296 [(.s 30), (.s 31), (.s 35)], none⟩, []⟩,
    ⟨⟨some 29, .mv (.s 36), none⟩, []⟩,
    ⟨⟨some 37, .ext (.s 29) 0, none⟩, []⟩,
    ⟨⟨some 38, .ext (.s 29) 1, none⟩, []⟩,
    ⟨⟨none, .store 9 (.s 6) (.s 37), none⟩, []⟩])
  (.seq (.seq (.reg [⟨some 39, .mv (.s 5), none⟩,
    ⟨some 40, .call 314 [(.s 39)], none⟩])
  (.cond (.s 40) (.exit 1)
  .skip))
  (.seq (.reg [⟨some 41, .mv (.s 5), none⟩,
    ⟨some 42, .call 312 [(.s 41)], none⟩,
    ⟨some 8, .mv (.s 42), none⟩])
  (.seq (.seq (.reg [⟨some 9, .mv (.c (.int .i64 0)), none⟩])
  (.block 2 (.loop (.seq (.seq (.reg [⟨some 43, .mv (.s 9), none⟩,
    ⟨some 44, .mv (.s 8), none⟩,
    ⟨some 45, .len (.s 44), none⟩,
    ⟨some 46, .int .lss (.s 43) (.s 45), none⟩])
  (.cond (.s 46) .skip
  (.exit 2)))
  (.seq (.block 3 (.seq (.reg [⟨some 49, .mv (.s 8), none⟩,
    ⟨some 50, .mv (.s 9), none⟩,
    ⟨some 51, .idx 3 (.s 49) (.s 50), none⟩,
    ⟨some 52, .fld 0 (.s 51), none⟩,
    ⟨some 53, .load false 1 (.s 52), none⟩,
    ⟨some 54, .call 164 [(.s 53)], none⟩,
    ⟨some 10, .mv (.s 54), none⟩])
  (.seq (.reg [⟨some 56, .mv (.s 8), none⟩,
    ⟨some 57, .mv (.s 10), none⟩,
    ⟨some 58, .call 150 [(.s 56), (.s 57)], none⟩,
    ⟨some 55, .mv (.s 58), none⟩,
    ⟨some 59, .ext (.s 55) 0, none⟩,
    ⟨some 60, .ext (.s 55) 1, none⟩,
    ⟨some 11, .alloc (some 1) [.v (.string ⟨#[]⟩), .v (.bool false), .v (.slice none 0 0)], none⟩,
    ⟨none, .store 3 (.s 11) (.s 59), none⟩,
    ⟨some 12, .mv (.s 60), none⟩])
  (.seq (.dreg [0, 1, 2, 3, 4, 5, 6, 7, 8, 9, 10, 11, 12, 13, 14, 15, 16, 17, 18, 19, 21, 22, 23, 24, 20, 25, 26, 27, 28, 29, 30, 31, 32, 33, 34, 35, 36, 37, 38] [⟨⟨some 61, .mv (.s 10), none⟩, []⟩,
    ⟨⟨some 62, .str .neq (.s 61) (.c (.string ⟨#[]⟩)), none⟩, []⟩,
    ⟨⟨some 63, .mv (.s 62), none⟩, []⟩,
    ⟨⟨some 64, .mv (.s 12), (some (63, true))⟩, []⟩,
    ⟨⟨some 65, .not (.s 64), (some (63, true))⟩, []⟩,
    ⟨⟨some 66, .mv (.s 65), (some (63, true))⟩, []⟩,
    ⟨⟨some 67, .fld 1 (.s 11), (some (66, false))⟩, []⟩,
    ⟨⟨some 68, .load false 1 (.s 67), (some (66, false))⟩, []⟩,
    ⟨⟨some 69, .not (.s 68), (some (66, false))⟩, []⟩,
    ⟨⟨some 70, .pick (.s 66) (.c (.bool true)) (.s 69), (some (63, true))⟩, []⟩,
    ⟨⟨some 71, .pick (.s 63) (.s 70) (.c (.bool false)), none⟩, []⟩,
    ⟨⟨some 72, .mv (.s 71), none⟩, []⟩,
    ⟨⟨some 73, .mv (.s 9), (some (72, false))⟩, []⟩,
    ⟨⟨some 74, .int .gtr (.s 73) (.c (.int .i64 0)), (some (72, false))⟩, []⟩,
    ⟨⟨some 75, .mv (.s 74), (some (72, false))⟩, []⟩,
    ⟨⟨some 76, .mv (.s 8), (some (75, true))⟩, []⟩,
    ⟨⟨some 77, .mv (.s 9), (some (75, true))⟩, []⟩,
    ⟨⟨some 78, .int .sub (.s 77) (.c (.int .i64 1)), (some (75, true))⟩, []⟩,
    ⟨⟨some 79, .idx 3 (.s 76) (.s 78), (some (75, true))⟩, []⟩,
    ⟨⟨some 80, .fld 0 (.s 79), (some (75, true))⟩, []⟩,
    ⟨⟨some 82, .mv (.s 8), (some (75, true))⟩, []⟩,
    ⟨⟨some 83, .mv (.s 9), (some (75, true))⟩, []⟩,
    ⟨⟨some 84, .idx 3 (.s 82) (.s 83), (some (75, true))⟩, []⟩,
    ⟨⟨some 85, .fld 0 (.s 84), (some (75, true))⟩, []⟩,
    ⟨⟨some 81, .load false 1 (.s 80), (some (75, true))⟩, []⟩,
    ⟨⟨some 86, .load false 1 (.s 85), (some (75, true))⟩, []⟩,
    ⟨⟨some 87, .call 163 [(.s 81), (.s 86)], (some (75, true))⟩, []⟩,
    ⟨⟨some 88, .not (.s 87), (some (75, true))⟩, []⟩,
    ⟨⟨some 89, .pick (.s 75) (.s 88) (.c (.bool false)), (some (72, false))⟩, []⟩,
    ⟨⟨some 90, .pick (.s 72) (.c (.bool true)) (.s 89), none⟩, []⟩,
    ⟨⟨some 91, .mv (.s 90), none⟩, []⟩,
    ⟨⟨some 92, .mv (.s 8), (some (91, false))⟩, []⟩,
    ⟨⟨some 93, .mv (.s 9), (some (91, false))⟩, []⟩,
    ⟨⟨some 94, .idx 3 (.s 92) (.s 93), (some (91, false))⟩, []⟩,
    ⟨⟨some 95, .fld 0 (.s 94), (some (91, false))⟩, []⟩,
    ⟨⟨some 96, .load false 1 (.s 95), (some (91, false))⟩, []⟩,
    ⟨⟨some 97, .call 192 [(.s 96)], (some (91, false))⟩, []⟩,
    ⟨⟨some 98, .int .neq (.s 97) (.c (.int .i64 0)), (some (91, false))⟩, []⟩,
    ⟨⟨some 99, .pick (.s 91) (.c (.bool true)) (.s 98), none⟩, []⟩])
  (.cond (.s 99) (.seq (.reg [⟨some 4, .mv (.c (.bool false)), none⟩])
  .ret)
  .skip)))))
  (.reg [⟨some 47, .mv (.s 9), none⟩,
    ⟨some 48, .int .add (.s 47) (.c (.int .i64 1)), none⟩,
    ⟨some 9, .mv (.s 48), none⟩]))))))
  (.seq (.reg [⟨some 100, .mv (.s 8), none⟩,
    ⟨some 101, .call 316 [(.s 100)], none⟩,
    ⟨some 102, .mv (.s 5), none⟩,
    ⟨some 103, .call 313 [(.s 102)], none⟩,
    ⟨some 104, .int .neq (.s 101) (.s 103), none⟩,
    ⟨some 105, .mv (.s 104), none⟩,
    ⟨some 106, .mv (.s 5), (some (105, false))⟩,
    ⟨some 107, .call 313 [(.s 106)], (some (105, false))⟩,
    ⟨some 108, .mv (.s 0), (some (105, false))⟩,
    ⟨some 109, .conv .i64 (.s 108), (some (105, false))⟩,
    ⟨some 110, .int .gtr (.s 107) (.s 109), (some (105, false))⟩,
    ⟨some 111, .mv (.s 110), (some (105, false))⟩,
    ⟨some 112, .mv (.s 1), (some (111, true))⟩,
    ⟨some 113, .mv (.s 7), (some (111, true))⟩,
    ⟨some 114, .int .add (.s 113) (.c (.int .i64 1)), (some (111, true))⟩,
    ⟨some 115, .slc 6 (.s 112) none (some (.s 114)) none, (some (111, true))⟩,
    ⟨some 116, .call 317 [(.s 115)], (some (111, true))⟩,
    ⟨some 117, .not (.s 116), (some (111, true))⟩,
    ⟨some 118, .pick (.s 111) (.s 117) (.c (.bool false)), (some (105, false))⟩,
    ⟨some 119, .pick (.s 105) (.c (.bool true)) (.s 118), none⟩])
  (.cond (.s 119) (.seq (.reg [⟨some 4, .mv (.c (.bool false)), none⟩])
  .ret)
  .skip)))))))
  (.reg [⟨some 27, .mv (.s 7), none⟩,
    ⟨some 28, .int .add (.s 27) (.c (.int .i64 1)), none⟩,
    ⟨some 7, .mv (.s 28), none⟩]))))))
  (.seq (.reg [⟨some 120, .mv (.s 5), none⟩,
    ⟨some 121, .eq .ptr true (.s 120) (.c (.pointer none)), none⟩,
    ⟨some 122, .mv (.s 121), none⟩,
    ⟨some 123, .call 293 [], (some (122, true))⟩,
    ⟨some 124, .pick (.s 122) (.s 123) (.c (.bool false)), none⟩,
    ⟨some 4, .mv (.s 124), none⟩])
  .ret)))))⟩

/-- sumpter/sumpterlaw14.DiskWrong -/
def sf375 : SF :=
  ⟨2, 93, [.t 4],
  (.seq (.reg [⟨some 3, .box (some 0) 6 (.s 1), none⟩,
    ⟨some 4, .mv (.c (.bool false)), none⟩])
  (.seq (.seq (.reg [⟨some 14, .mv (.s 0), none⟩,
    ⟨some 15, .call 292 [(.s 14), (.c (.int .i64 50))], none⟩,
    ⟨some 16, .not (.s 15), none⟩,
    ⟨some 17, .mv (.s 16), none⟩,
    ⟨some 18, .load true 6 (.s 3), (some (17, false))⟩,
    ⟨some 19, .bslice 6 [(.s 18)], (some (17, false))⟩,
    ⟨some 20, .call 292 [(.s 19), (.c (.int .i64 1))], (some (17, false))⟩,
    ⟨some 21, .not (.s 20), (some (17, false))⟩,
    ⟨some 22, .pick (.s 17) (.c (.bool true)) (.s 21), none⟩,
    ⟨some 23, .mv (.s 22), none⟩,
    ⟨some 24, .fld 0 (.s 3), (some (23, false))⟩,
    ⟨some 25, .load false 1 (.s 24), (some (23, false))⟩,
    ⟨some 26, .int .rem (.s 25) (.c (.int .u8 12)), (some (23, false))⟩,
    ⟨some 27, .int .gtr (.s 26) (.c (.int .u8 7)), (some (23, false))⟩,
    ⟨some 28, .pick (.s 23) (.c (.bool true)) (.s 27), none⟩])
  (.cond (.s 28) (.seq (.reg [⟨some 29, .call 293 [], none⟩,
    ⟨some 4, .mv (.s 29), none⟩])
  .ret)
  .skip))
  (.seq (.reg [⟨some 30, .call 294 [(.c (.int .i64 1000))], none⟩,
    ⟨some 31, .call 295 [(.c (.int .i64 1000))], none⟩,
    ⟨some 6, .alloc (some 1) [.v (.int .i64 0), .v (.slice none 0 0), .v (.slice none 0 0), .v (.slice none 0 0), .v (.bool false), .v (.int .i64 0), .v (.int .i64 0), .v (.bool false), .v (.int .i64 0)], none⟩,
    ⟨some 5, .mv (.s 30), none⟩,
    ⟨none, .store 9 (.s 6) (.s 31), none⟩])
  (.seq (.seq (.reg [⟨some 7, .mv (.c (.int .i64 0)), none⟩])
  (.block 0 (.loop (.seq (.seq (.reg [⟨some 32, .mv (.s 7), none⟩,
    ⟨some 33, .mv (.s 0), none⟩,
    ⟨some 34, .len (.s 33), none⟩,
    ⟨some 35, .int .lss (.s 32) (.s 34), none⟩])
  (.cond (.s 35) .skip
  (.exit 0)))
  (.seq (.block 1 (.dreg [0, 2, 3, 4, 1, 5, 6, 7, 8, 9, 10] [⟨⟨some 39, .mv (.s 5), none⟩, []⟩,
    ⟨⟨some 41, .mv (.s 0), none⟩, []⟩,
    ⟨⟨some 42, .mv (.s 7), none⟩, []⟩,
    ⟨⟨some 43, .idx 6 (.s 41) (.s 42), none⟩, []⟩,
    ⟨⟨some 40, .load true 9 (.s 6), none⟩, []⟩,
    ⟨⟨some 44, .load true 6 (.s 43), none⟩, []⟩,
    ⟨⟨some 45, .call 296 [(.s 39), (.s 40), (.s 44)], none⟩, []⟩,
    ⟨⟨some 38, .mv (.s 45), none⟩, []⟩,
    ⟨⟨some 46, .ext (.s 38) 0, none⟩, []⟩,
    ⟨⟨some 47, .ext (.s 38) 1, none⟩, []⟩,
    ⟨⟨none, .store 9 (.s 6) (.s 46), none⟩, []⟩]))
  (.reg [⟨some 36, .mv (.s 7), none⟩,
    ⟨some 37, .int .add (.s 36) (.c (.int .i64 1)), none⟩,
    ⟨some 7, .mv (.s 37), none⟩]))))))
  (.seq (.reg [⟨some 48, .mv (.s 5), none⟩,
    ⟨some 49, .call 297 [(.s 48), (.c (.int .i64 99)), (.c (.slice none 0 0))], none⟩])
  (.seq (.reg [⟨some 50, .mv (.s 5), none⟩,
    ⟨some 51, .call 312 [(.s 50)], none⟩,
    ⟨some 52, .mv (.s 5), none⟩,
    ⟨some 53, .call 315 [(.s 52)], none⟩,
    ⟨some 8, .mv (.s 51), none⟩,
    ⟨some 9, .mv (.s 53), none⟩])
  (.seq (.reg [⟨some 54, .mv (.s 5), none⟩,
    ⟨some 55, .call 311 [(.s 54), (.c (.int .i64 0))], none⟩])
  (.seq (.reg [⟨some 56, .load true 9 (.s 6), none⟩,
    ⟨some 57, .call 318 [(.s 56), (.c (.int .i64 99)), (.c (.slice none 0 0))], none⟩,
    ⟨none, .store 9 (.s 6) (.s 57), none⟩])
  (.seq (.reg [⟨some 59, .load true 9 (.s 6), none⟩,
    ⟨some 60, .call 319 [(.s 59), (.c (.int .i64 0))], none⟩,
    ⟨some 58, .mv (.s 60), none⟩,
    ⟨some 61, .ext (.s 58) 0, none⟩,
    ⟨some 62, .ext (.s 58) 1, none⟩,
    ⟨some 10, .alloc (some 2) [.v (.int .i64 0), .v (.slice none 0 0), .v (.slice none 0 0), .v (.slice none 0 0), .v (.bool false), .v (.int .i64 0), .v (.int .i64 0), .v (.bool false), .v (.int .i64 0)], none⟩,
    ⟨none, .store 9 (.s 10) (.s 61), none⟩,
    ⟨some 11, .mv (.s 62), none⟩])
  (.seq (.reg [⟨some 64, .mv (.s 5), none⟩,
    ⟨some 65, .load true 9 (.s 10), none⟩,
    ⟨some 66, .load true 6 (.s 3), none⟩,
    ⟨some 67, .call 296 [(.s 64), (.s 65), (.s 66)], none⟩,
    ⟨some 63, .mv (.s 67), none⟩,
    ⟨some 68, .ext (.s 63) 0, none⟩,
    ⟨some 69, .ext (.s 63) 1, none⟩,
    ⟨some 12, .alloc (some 3) [.v (.int .i64 0), .v (.slice none 0 0), .v (.slice none 0 0), .v (.slice none 0 0), .v (.bool false), .v (.int .i64 0), .v (.int .i64 0), .v (.bool false), .v (.int .i64 0)], none⟩,
    ⟨none, .store 9 (.s 12) (.s 68), none⟩,
    ⟨some 13, .mv (.s 69), none⟩])
  (.seq (.dreg [0, 1, 2, 4, 3, 5, 6, 7, 8, 10, 11, 9, 12, 13, 14, 15, 17, 16, 18, 19, 20, 21, 22, 23] [⟨⟨some 70, .mv (.s 13), none⟩, []⟩,
    ⟨⟨some 71, .mv (.s 70), none⟩, []⟩,
    ⟨⟨some 72, .mv (.s 5), (some (71, true))⟩, []⟩,
    ⟨⟨some 74, .mv (.s 8), (some (71, true))⟩, []⟩,
    ⟨⟨some 73, .call 312 [(.s 72)], (some (71, true))⟩, []⟩,
    ⟨⟨some 75, .call 162 [(.s 73), (.s 74)], (some (71, true))⟩, []⟩,
    ⟨⟨some 76, .pick (.s 71) (.s 75) (.c (.bool false)), none⟩, []⟩,
    ⟨⟨some 77, .mv (.s 76), none⟩, []⟩,
    ⟨⟨some 78, .mv (.s 5), (some (77, true))⟩, []⟩,
    ⟨⟨some 80, .fld 5 (.s 12), (some (77, true))⟩, []⟩,
    ⟨⟨some 81, .load false 1 (.s 80), (some (77, true))⟩, []⟩,
    ⟨⟨some 79, .call 315 [(.s 78)], (some (77, true))⟩, [10]⟩,
    ⟨⟨some 82, .int .eql (.s 79) (.s 81), (some (77, true))⟩, []⟩,
    ⟨⟨some 83, .pick (.s 77) (.s 82) (.c (.bool false)), none⟩, []⟩,
    ⟨⟨some 84, .mv (.s 83), none⟩, []⟩,
    ⟨⟨some 85, .fld 5 (.s 12), (some (84, true))⟩, []⟩,
    ⟨⟨some 87, .mv (.s 9), (some (84, true))⟩, []⟩,
    ⟨⟨some 86, .load false 1 (.s 85), (some (84, true))⟩, []⟩,
    ⟨⟨some 88, .int .geq (.s 86) (.s 87), (some (84, true))⟩, []⟩,
    ⟨⟨some 89, .pick (.s 84) (.s 88) (.c (.bool false)), none⟩, []⟩,
    ⟨⟨some 90, .mv (.s 89), none⟩, []⟩,
    ⟨⟨some 91, .call 293 [], (some (90, true))⟩, []⟩,
    ⟨⟨some 92, .pick (.s 90) (.s 91) (.c (.bool false)), none⟩, []⟩,
    ⟨⟨some 4, .mv (.s 92), none⟩, []⟩])
  .ret)))))))))))⟩

def sfTab : List (Nat × SF) := [(90, sf90), (150, sf150), (154, sf154), (160, sf160), (162, sf162), (163, sf163), (164, sf164), (166, sf166), (167, sf167), (170, sf170), (173, sf173), (176, sf176), (179, sf179), (180, sf180), (181, sf181), (182, sf182), (183, sf183), (185, sf185), (186, sf186), (187, sf187), (189, sf189), (191, sf191), (192, sf192), (194, sf194), (195, sf195), (196, sf196), (197, sf197), (199, sf199), (201, sf201), (202, sf202), (204, sf204), (205, sf205), (206, sf206), (209, sf209), (210, sf210), (211, sf211), (214, sf214), (218, sf218), (219, sf219), (221, sf221), (292, sf292), (293, sf293), (294, sf294), (295, sf295), (296, sf296), (297, sf297), (298, sf298), (299, sf299), (300, sf300), (301, sf301), (302, sf302), (303, sf303), (304, sf304), (305, sf305), (306, sf306), (307, sf307), (308, sf308), (309, sf309), (310, sf310), (311, sf311), (312, sf312), (313, sf313), (314, sf314), (315, sf315), (316, sf316), (317, sf317), (318, sf318), (319, sf319), (320, sf320), (321, sf321), (322, sf322), (323, sf323), (324, sf324), (325, sf325), (326, sf326), (327, sf327), (328, sf328), (329, sf329), (330, sf330), (331, sf331), (332, sf332), (333, sf333), (334, sf334), (335, sf335), (336, sf336), (337, sf337), (338, sf338), (339, sf339), (340, sf340), (341, sf341), (342, sf342), (343, sf343), (344, sf344), (345, sf345), (346, sf346), (347, sf347), (348, sf348), (349, sf349), (350, sf350), (351, sf351), (352, sf352), (353, sf353), (354, sf354), (355, sf355), (356, sf356), (357, sf357), (358, sf358), (359, sf359), (360, sf360), (361, sf361), (362, sf362), (363, sf363), (364, sf364), (365, sf365), (366, sf366), (367, sf367), (368, sf368), (369, sf369), (370, sf370), (371, sf371), (372, sf372), (373, sf373), (374, sf374), (375, sf375)]
def code (g : Nat) : SF := (lk sfTab g).getD ⟨0, 0, [], .skip⟩

theorem code150 : code 150 = sf150 := rfl
theorem code154 : code 154 = sf154 := rfl
theorem code160 : code 160 = sf160 := rfl
theorem code162 : code 162 = sf162 := rfl
theorem code163 : code 163 = sf163 := rfl
theorem code164 : code 164 = sf164 := rfl
theorem code166 : code 166 = sf166 := rfl
theorem code167 : code 167 = sf167 := rfl
theorem code170 : code 170 = sf170 := rfl
theorem code173 : code 173 = sf173 := rfl
theorem code176 : code 176 = sf176 := rfl
theorem code179 : code 179 = sf179 := rfl
theorem code180 : code 180 = sf180 := rfl
theorem code181 : code 181 = sf181 := rfl
theorem code182 : code 182 = sf182 := rfl
theorem code183 : code 183 = sf183 := rfl
theorem code185 : code 185 = sf185 := rfl
theorem code186 : code 186 = sf186 := rfl
theorem code187 : code 187 = sf187 := rfl
theorem code189 : code 189 = sf189 := rfl
theorem code191 : code 191 = sf191 := rfl
theorem code192 : code 192 = sf192 := rfl
theorem code194 : code 194 = sf194 := rfl
theorem code195 : code 195 = sf195 := rfl
theorem code196 : code 196 = sf196 := rfl
theorem code197 : code 197 = sf197 := rfl
theorem code199 : code 199 = sf199 := rfl
theorem code201 : code 201 = sf201 := rfl
theorem code202 : code 202 = sf202 := rfl
theorem code204 : code 204 = sf204 := rfl
theorem code205 : code 205 = sf205 := rfl
theorem code206 : code 206 = sf206 := rfl
theorem code209 : code 209 = sf209 := rfl
theorem code210 : code 210 = sf210 := rfl
theorem code211 : code 211 = sf211 := rfl
theorem code214 : code 214 = sf214 := rfl
theorem code218 : code 218 = sf218 := rfl
theorem code219 : code 219 = sf219 := rfl
theorem code221 : code 221 = sf221 := rfl
theorem code292 : code 292 = sf292 := rfl
theorem code293 : code 293 = sf293 := rfl
theorem code294 : code 294 = sf294 := rfl
theorem code295 : code 295 = sf295 := rfl
theorem code296 : code 296 = sf296 := rfl
theorem code297 : code 297 = sf297 := rfl
theorem code298 : code 298 = sf298 := rfl
theorem code299 : code 299 = sf299 := rfl
theorem code300 : code 300 = sf300 := rfl
theorem code301 : code 301 = sf301 := rfl
theorem code302 : code 302 = sf302 := rfl
theorem code303 : code 303 = sf303 := rfl
theorem code304 : code 304 = sf304 := rfl
theorem code305 : code 305 = sf305 := rfl
theorem code306 : code 306 = sf306 := rfl
theorem code307 : code 307 = sf307 := rfl
theorem code308 : code 308 = sf308 := rfl
theorem code309 : code 309 = sf309 := rfl
theorem code310 : code 310 = sf310 := rfl
theorem code311 : code 311 = sf311 := rfl
theorem code312 : code 312 = sf312 := rfl
theorem code313 : code 313 = sf313 := rfl
theorem code314 : code 314 = sf314 := rfl
theorem code315 : code 315 = sf315 := rfl
theorem code316 : code 316 = sf316 := rfl
theorem code317 : code 317 = sf317 := rfl
theorem code318 : code 318 = sf318 := rfl
theorem code319 : code 319 = sf319 := rfl
theorem code320 : code 320 = sf320 := rfl
theorem code321 : code 321 = sf321 := rfl
theorem code322 : code 322 = sf322 := rfl
theorem code323 : code 323 = sf323 := rfl
theorem code324 : code 324 = sf324 := rfl
theorem code325 : code 325 = sf325 := rfl
theorem code326 : code 326 = sf326 := rfl
theorem code327 : code 327 = sf327 := rfl
theorem code328 : code 328 = sf328 := rfl
theorem code329 : code 329 = sf329 := rfl
theorem code330 : code 330 = sf330 := rfl
theorem code331 : code 331 = sf331 := rfl
theorem code332 : code 332 = sf332 := rfl
theorem code333 : code 333 = sf333 := rfl
theorem code334 : code 334 = sf334 := rfl
theorem code335 : code 335 = sf335 := rfl
theorem code336 : code 336 = sf336 := rfl
theorem code337 : code 337 = sf337 := rfl
theorem code338 : code 338 = sf338 := rfl
theorem code339 : code 339 = sf339 := rfl
theorem code340 : code 340 = sf340 := rfl
theorem code341 : code 341 = sf341 := rfl
theorem code342 : code 342 = sf342 := rfl
theorem code343 : code 343 = sf343 := rfl
theorem code344 : code 344 = sf344 := rfl
theorem code345 : code 345 = sf345 := rfl
theorem code346 : code 346 = sf346 := rfl
theorem code347 : code 347 = sf347 := rfl
theorem code348 : code 348 = sf348 := rfl
theorem code349 : code 349 = sf349 := rfl
theorem code350 : code 350 = sf350 := rfl
theorem code351 : code 351 = sf351 := rfl
theorem code352 : code 352 = sf352 := rfl
theorem code353 : code 353 = sf353 := rfl
theorem code354 : code 354 = sf354 := rfl
theorem code355 : code 355 = sf355 := rfl
theorem code356 : code 356 = sf356 := rfl
theorem code357 : code 357 = sf357 := rfl
theorem code358 : code 358 = sf358 := rfl
theorem code359 : code 359 = sf359 := rfl
theorem code360 : code 360 = sf360 := rfl
theorem code361 : code 361 = sf361 := rfl
theorem code363 : code 363 = sf363 := rfl
theorem code364 : code 364 = sf364 := rfl
theorem code365 : code 365 = sf365 := rfl
theorem code366 : code 366 = sf366 := rfl
theorem code367 : code 367 = sf367 := rfl
theorem code368 : code 368 = sf368 := rfl
theorem code370 : code 370 = sf370 := rfl
theorem code371 : code 371 = sf371 := rfl
theorem code372 : code 372 = sf372 := rfl
theorem code373 : code 373 = sf373 := rfl
theorem code374 : code 374 = sf374 := rfl
theorem code375 : code 375 = sf375 := rfl
end Sm
