/-
  A layer of one's own: texts Sf.
-/
import Derived.Test.YtmdfajhlofhmcaaDoorSmLfA
set_option linter.unusedVariables false
set_option maxRecDepth 100000
namespace Sm
open Go

/-- (*sumpter/disk.Disk).Append -/
def sf302 : SF :=
  ⟨3, 12, [.t 6],
  (.seq (.reg [⟨some 3, .box none 1 (.s 0), none⟩,
    ⟨some 5, .box none 1 (.s 2), none⟩,
    ⟨some 6, .mv (.c (.int .i64 0)), none⟩])
  (.seq (.reg [⟨some 7, .load false 1 (.s 3), none⟩,
    ⟨some 8, .mv (.s 1), none⟩,
    ⟨some 9, .mkfn 340 [(.s 5), (.s 3)], none⟩,
    ⟨some 10, .mkfn 341 [(.s 5)], none⟩,
    ⟨some 11, .call 339 [(.s 7), (.s 8), (.s 9), (.s 10)], none⟩,
    ⟨some 6, .mv (.s 11), none⟩])
  .ret))⟩

/-- (*sumpter/disk.Disk).Sync -/
def sf303 : SF :=
  ⟨2, 8, [.t 4],
  (.seq (.reg [⟨some 4, .mv (.c (.int .i64 0)), none⟩])
  (.seq (.reg [⟨some 5, .mv (.s 0), none⟩,
    ⟨some 6, .mv (.s 1), none⟩,
    ⟨some 7, .call 339 [(.s 5), (.s 6), (.f 342), (.f 343)], none⟩,
    ⟨some 4, .mv (.s 7), none⟩])
  .ret))⟩

/-- (*sumpter/disk.Disk).SyncDirs -/
def sf304 : SF :=
  ⟨1, 12, [.t 2],
  (.seq (.reg [⟨some 1, .box none 1 (.s 0), none⟩,
    ⟨some 2, .mv (.c (.int .i64 0)), none⟩])
  (.seq (.seq (.reg [⟨some 4, .load false 1 (.s 1), none⟩,
    ⟨some 5, .call 333 [(.s 4), (.c (.slice none 0 0))], none⟩,
    ⟨some 3, .mv (.s 5), none⟩])
  (.seq (.reg [⟨some 6, .mv (.s 3), none⟩,
    ⟨some 7, .int .neq (.s 6) (.c (.int .i64 0)), none⟩])
  (.cond (.s 7) (.seq (.reg [⟨some 8, .mv (.s 3), none⟩,
    ⟨some 2, .mv (.s 8), none⟩])
  .ret)
  .skip)))
  (.seq (.reg [⟨some 9, .load false 1 (.s 1), none⟩,
    ⟨some 10, .mkfn 344 [(.s 1)], none⟩,
    ⟨some 11, .call 335 [(.s 9), (.s 10)], none⟩,
    ⟨some 2, .mv (.s 11), none⟩])
  .ret)))⟩

/-- (*sumpter/disk.Disk).Safe -/
def sf305 : SF :=
  ⟨2, 21, [.t 4],
  (.seq (.reg [⟨some 4, .mv (.c (.int .i64 0)), none⟩])
  (.seq (.seq (.reg [⟨some 7, .mv (.s 0), none⟩,
    ⟨some 8, .eq .ptr false (.s 7) (.c (.pointer none)), none⟩])
  (.cond (.s 8) (.seq (.reg [⟨some 4, .mv (.c (.int .i64 0)), none⟩])
  .ret)
  .skip))
  (.seq (.reg [⟨some 10, .mv (.s 0), none⟩,
    ⟨some 11, .mv (.s 1), none⟩,
    ⟨some 12, .call 332 [(.s 10), (.s 11)], none⟩,
    ⟨some 9, .mv (.s 12), none⟩,
    ⟨some 13, .ext (.s 9) 0, none⟩,
    ⟨some 14, .ext (.s 9) 1, none⟩,
    ⟨some 5, .mv (.s 13), none⟩,
    ⟨some 6, .mv (.s 14), none⟩])
  (.seq (.seq (.reg [⟨some 15, .mv (.s 6), none⟩,
    ⟨some 16, .int .neq (.s 15) (.c (.int .i64 0)), none⟩])
  (.cond (.s 16) (.seq (.reg [⟨some 4, .mv (.c (.int .i64 0)), none⟩])
  .ret)
  .skip))
  (.seq (.reg [⟨some 17, .mv (.s 5), none⟩,
    ⟨some 18, .nilc (.s 17), none⟩,
    ⟨some 19, .fld 1 (.s 18), none⟩,
    ⟨some 20, .load false 1 (.s 19), none⟩,
    ⟨some 4, .mv (.s 20), none⟩])
  .ret)))))⟩

/-- (*sumpter/disk.Disk).Fork -/
def sf307 : SF :=
  ⟨1, 41, [.t 2],
  (.seq (.reg [⟨some 2, .mv (.c (.pointer none)), none⟩])
  (.seq (.seq (.reg [⟨some 4, .mv (.s 0), none⟩,
    ⟨some 5, .eq .ptr false (.s 4) (.c (.pointer none)), none⟩])
  (.cond (.s 5) (.seq (.reg [⟨some 2, .mv (.c (.pointer none)), none⟩])
  .ret)
  .skip))
  (.seq (.reg [⟨some 6, .mv (.s 0), none⟩,
    ⟨some 7, .nilc (.s 6), none⟩,
    ⟨some 8, .load true 10 (.s 7), none⟩,
    ⟨some 3, .alloc none [.v (.int .i64 0), .v (.map none), .v (.map none), .v (.slice none 0 0), .v (.slice none 0 0), .v (.bool false), .v (.int .i64 0), .v (.int .i64 0), .v (.bool false), .v (.int .i64 0)], none⟩,
    ⟨none, .store 10 (.s 3) (.s 8), none⟩])
  (.seq (.dreg [0, 1, 2, 5, 6, 7, 10, 11, 12, 3, 8, 13, 4, 9, 14, 15, 16, 17, 18, 19, 20] [⟨⟨some 9, .mv (.s 0), none⟩, []⟩,
    ⟨⟨some 10, .nilc (.s 9), none⟩, []⟩,
    ⟨⟨some 11, .fld 1 (.s 10), none⟩, []⟩,
    ⟨⟨some 14, .mv (.s 0), none⟩, []⟩,
    ⟨⟨some 15, .nilc (.s 14), none⟩, []⟩,
    ⟨⟨some 16, .fld 2 (.s 15), none⟩, []⟩,
    ⟨⟨some 19, .mv (.s 0), none⟩, []⟩,
    ⟨⟨some 20, .nilc (.s 19), none⟩, []⟩,
    ⟨⟨some 21, .fld 3 (.s 20), none⟩, []⟩,
    ⟨⟨some 12, .load false 1 (.s 11), none⟩, []⟩,
    ⟨⟨some 17, .load false 1 (.s 16), none⟩, []⟩,
    ⟨⟨some 22, .load false 1 (.s 21), none⟩, []⟩,
    ⟨⟨some 13, .call 329 [(.s 12)], none⟩, [10, 11]⟩,
    ⟨⟨some 18, .call 329 [(.s 17)], none⟩, [11]⟩,
    ⟨⟨some 23, .call 349 [(.s 22)], none⟩, []⟩,
    ⟨⟨some 24, .fld 1 (.s 3), none⟩, []⟩,
    ⟨⟨none, .store 1 (.s 24) (.s 13), none⟩, []⟩,
    ⟨⟨some 25, .fld 2 (.s 3), none⟩, []⟩,
    ⟨⟨none, .store 1 (.s 25) (.s 18), none⟩, []⟩,
    ⟨⟨some 26, .fld 3 (.s 3), none⟩, []⟩,
    ⟨⟨none, .store 1 (.s 26) (.s 23), none⟩, []⟩])
  (.seq (.reg [⟨some 27, .mv (.s 0), none⟩,
    ⟨some 28, .nilc (.s 27), none⟩,
    ⟨some 29, .fld 4 (.s 28), none⟩,
    ⟨some 30, .load false 1 (.s 29), none⟩,
    ⟨some 31, .len (.s 30), none⟩,
    ⟨some 32, .hop (.mks 2 32 [.v (.slice none 0 0), .v (.int .i64 0)]) [(.s 31), (.s 31)], none⟩,
    ⟨some 33, .fld 4 (.s 3), none⟩,
    ⟨none, .store 1 (.s 33) (.s 32), none⟩])
  (.seq (.dreg [0, 2, 3, 4, 1, 5, 6] [⟨⟨some 34, .fld 4 (.s 3), none⟩, []⟩,
    ⟨⟨some 36, .mv (.s 0), none⟩, []⟩,
    ⟨⟨some 37, .nilc (.s 36), none⟩, []⟩,
    ⟨⟨some 38, .fld 4 (.s 37), none⟩, []⟩,
    ⟨⟨some 35, .load false 1 (.s 34), none⟩, []⟩,
    ⟨⟨some 39, .load false 1 (.s 38), none⟩, []⟩,
    ⟨⟨some 40, .hop (.copy 2) [(.s 35), (.s 39)], none⟩, []⟩])
  (.seq (.reg [⟨some 2, .mv (.s 3), none⟩])
  .ret)))))))⟩

/-- (*sumpter/disk.Disk).Rename -/
def sf309 : SF :=
  ⟨3, 60, [.t 6],
  (.seq (.reg [⟨some 3, .box none 1 (.s 0), none⟩,
    ⟨some 4, .box none 1 (.s 1), none⟩,
    ⟨some 5, .box none 1 (.s 2), none⟩,
    ⟨some 6, .mv (.c (.int .i64 0)), none⟩])
  (.seq (.seq (.reg [⟨some 14, .load false 1 (.s 3), none⟩,
    ⟨some 15, .load false 1 (.s 4), none⟩,
    ⟨some 16, .load false 1 (.s 5), none⟩,
    ⟨some 17, .bslice 1 [(.s 15), (.s 16)], none⟩,
    ⟨some 18, .call 333 [(.s 14), (.s 17)], none⟩,
    ⟨some 7, .mv (.s 18), none⟩])
  (.seq (.reg [⟨some 19, .mv (.s 7), none⟩,
    ⟨some 20, .int .neq (.s 19) (.c (.int .i64 0)), none⟩])
  (.cond (.s 20) (.seq (.reg [⟨some 21, .mv (.s 7), none⟩,
    ⟨some 6, .mv (.s 21), none⟩])
  .ret)
  .skip)))
  (.seq (.seq (.reg [⟨some 23, .load false 1 (.s 3), none⟩,
    ⟨some 24, .load false 1 (.s 4), none⟩,
    ⟨some 25, .call 332 [(.s 23), (.s 24)], none⟩,
    ⟨some 22, .mv (.s 25), none⟩,
    ⟨some 26, .ext (.s 22) 0, none⟩,
    ⟨some 27, .ext (.s 22) 1, none⟩,
    ⟨some 8, .mv (.s 26), none⟩,
    ⟨some 9, .mv (.s 27), none⟩])
  (.seq (.reg [⟨some 28, .mv (.s 9), none⟩,
    ⟨some 29, .int .neq (.s 28) (.c (.int .i64 0)), none⟩])
  (.cond (.s 29) (.seq (.reg [⟨some 30, .mv (.s 9), none⟩,
    ⟨some 6, .mv (.s 30), none⟩])
  .ret)
  .skip)))
  (.seq (.seq (.reg [⟨some 31, .load false 1 (.s 3), none⟩,
    ⟨some 32, .load false 1 (.s 5), none⟩,
    ⟨some 33, .call 350 [(.s 31), (.s 32)], none⟩,
    ⟨some 10, .mv (.s 33), none⟩])
  (.seq (.reg [⟨some 34, .mv (.s 10), none⟩,
    ⟨some 35, .int .neq (.s 34) (.c (.int .i64 0)), none⟩])
  (.cond (.s 35) (.seq (.reg [⟨some 36, .mv (.s 10), none⟩,
    ⟨some 6, .mv (.s 36), none⟩])
  .ret)
  .skip)))
  (.seq (.seq (.dreg [0, 1, 2, 3, 4, 9, 5, 6, 7, 8, 10, 11] [⟨⟨some 38, .load false 1 (.s 3), none⟩, []⟩,
    ⟨⟨some 39, .nilc (.s 38), none⟩, []⟩,
    ⟨⟨some 40, .fld 2 (.s 39), none⟩, []⟩,
    ⟨⟨some 41, .load false 1 (.s 40), none⟩, []⟩,
    ⟨⟨some 42, .load false 1 (.s 5), none⟩, []⟩,
    ⟨⟨some 11, .alloc (some 3) [.v (.bool false), .v (.int .i64 0)], none⟩, []⟩,
    ⟨⟨some 43, .hop (.m (.lkp true true true [.v (.bool false), .v (.int .i64 0)])) [(.s 41), (.s 42)], none⟩, []⟩,
    ⟨⟨some 37, .mv (.s 43), none⟩, []⟩,
    ⟨⟨some 44, .ext (.s 37) 0, none⟩, []⟩,
    ⟨⟨some 45, .ext (.s 37) 1, none⟩, []⟩,
    ⟨⟨none, .store 2 (.s 11) (.s 44), none⟩, []⟩,
    ⟨⟨some 12, .mv (.s 45), none⟩, []⟩])
  (.seq (.reg [⟨some 46, .mv (.s 12), none⟩,
    ⟨some 47, .mv (.s 46), none⟩,
    ⟨some 48, .fld 0 (.s 11), (some (47, true))⟩,
    ⟨some 49, .load false 1 (.s 48), (some (47, true))⟩,
    ⟨some 50, .pick (.s 47) (.s 49) (.c (.bool false)), none⟩])
  (.cond (.s 50) (.seq (.reg [⟨some 6, .mv (.c (.int .i64 9)), none⟩])
  .ret)
  .skip)))
  (.seq (.dreg [0, 1, 2, 3, 4, 5, 6, 7] [⟨⟨some 51, .load false 1 (.s 3), none⟩, []⟩,
    ⟨⟨some 52, .nilc (.s 51), none⟩, []⟩,
    ⟨⟨some 53, .fld 2 (.s 52), none⟩, []⟩,
    ⟨⟨some 54, .load false 1 (.s 53), none⟩, []⟩,
    ⟨⟨some 55, .load false 1 (.s 4), none⟩, []⟩,
    ⟨⟨some 56, .lkc true false true [.v (.bool false), .v (.int .i64 0)] (.s 54) (.s 55), none⟩, []⟩,
    ⟨⟨some 13, .alloc none [.v (.bool false), .v (.int .i64 0)], none⟩, []⟩,
    ⟨⟨none, .store 2 (.s 13) (.s 56), none⟩, []⟩])
  (.seq (.reg [⟨some 57, .load false 1 (.s 3), none⟩,
    ⟨some 58, .mkfn 351 [(.s 3), (.s 4), (.s 5), (.s 13)], none⟩,
    ⟨some 59, .call 335 [(.s 57), (.s 58)], none⟩,
    ⟨some 6, .mv (.s 59), none⟩])
  .ret)))))))⟩

/-- (*sumpter/disk.Disk).Fail -/
def sf310 : SF :=
  ⟨3, 23, [.t 6],
  (.seq (.reg [⟨some 6, .mv (.c (.int .i64 0)), none⟩])
  (.seq (.seq (.reg [⟨some 8, .mv (.s 0), none⟩,
    ⟨some 9, .call 333 [(.s 8), (.c (.slice none 0 0))], none⟩,
    ⟨some 7, .mv (.s 9), none⟩])
  (.seq (.reg [⟨some 10, .mv (.s 7), none⟩,
    ⟨some 11, .int .neq (.s 10) (.c (.int .i64 0)), none⟩])
  (.cond (.s 11) (.seq (.reg [⟨some 12, .mv (.s 7), none⟩,
    ⟨some 6, .mv (.s 12), none⟩])
  .ret)
  .skip)))
  (.seq (.seq (.reg [⟨some 13, .mv (.s 1), none⟩,
    ⟨some 14, .int .lss (.s 13) (.c (.int .i64 0)), none⟩])
  (.cond (.s 14) (.seq (.reg [⟨some 6, .mv (.c (.int .i64 2)), none⟩])
  .ret)
  .skip))
  (.seq (.reg [⟨some 15, .mv (.s 0), none⟩,
    ⟨some 16, .mv (.s 0), none⟩,
    ⟨some 17, .mv (.s 1), none⟩,
    ⟨some 18, .mv (.s 2), none⟩,
    ⟨some 19, .nilc (.s 15), none⟩,
    ⟨some 20, .fld 7 (.s 19), none⟩,
    ⟨none, .store 1 (.s 20) (.s 17), none⟩,
    ⟨some 21, .nilc (.s 16), none⟩,
    ⟨some 22, .fld 8 (.s 21), none⟩,
    ⟨none, .store 1 (.s 22) (.s 18), none⟩])
  (.seq (.reg [⟨some 6, .mv (.c (.int .i64 0)), none⟩])
  .ret)))))⟩

/-- (*sumpter/disk.Disk).List -/
def sf312 : SF :=
  ⟨1, 48, [.t 2],
  (.seq (.reg [⟨some 2, .mv (.c (.slice none 0 0)), none⟩])
  (.seq (.seq (.reg [⟨some 9, .mv (.s 0), none⟩,
    ⟨some 10, .call 333 [(.s 9), (.c (.slice none 0 0))], none⟩,
    ⟨some 11, .int .neq (.s 10) (.c (.int .i64 0)), none⟩])
  (.cond (.s 11) (.seq (.reg [⟨some 2, .mv (.c (.slice none 0 0)), none⟩])
  .ret)
  .skip))
  (.seq (.reg [⟨some 3, .mv (.c (.slice none 0 0)), none⟩])
  (.seq (.seq (.reg [⟨some 12, .mv (.s 0), none⟩,
    ⟨some 13, .call 331 [(.s 12)], none⟩,
    ⟨some 14, .len (.s 13), none⟩,
    ⟨some 15, .mv (.c (.int .i64 0)), none⟩])
  (.block 0 (.loop (.seq (.reg [⟨some 16, .int .lss (.s 15) (.s 14), none⟩])
  (.seq (.cond (.s 16) .skip
  (.exit 0))
  (.seq (.block 1 (.seq (.reg [⟨some 17, .idx 1 (.s 13) (.s 15), none⟩,
    ⟨some 18, .load false 1 (.s 17), none⟩,
    ⟨some 5, .mv (.s 18), none⟩])
  (.seq (.reg [⟨some 19, .mv (.s 5), none⟩,
    ⟨some 20, .mv (.s 0), none⟩,
    ⟨some 21, .nilc (.s 20), none⟩,
    ⟨some 22, .fld 2 (.s 21), none⟩,
    ⟨some 23, .load false 1 (.s 22), none⟩,
    ⟨some 24, .mv (.s 5), none⟩,
    ⟨some 25, .hop (.m (.lkp true false true [.v (.bool false), .v (.int .i64 0)])) [(.s 23), (.s 24)], none⟩,
    ⟨some 26, .field false 0 1 (.s 25), none⟩,
    ⟨some 27, .build [.v (.string ⟨#[]⟩), .v (.bool false), .v (.slice none 0 0)] [(0, 1, (.s 19)), (1, 1, (.s 26))], none⟩,
    ⟨some 6, .alloc (some 0) [.v (.string ⟨#[]⟩), .v (.bool false), .v (.slice none 0 0)], none⟩,
    ⟨none, .store 3 (.s 6) (.s 27), none⟩])
  (.seq (.seq (.reg [⟨some 29, .mv (.s 0), none⟩,
    ⟨some 30, .mv (.s 5), none⟩,
    ⟨some 31, .call 332 [(.s 29), (.s 30)], none⟩,
    ⟨some 28, .mv (.s 31), none⟩,
    ⟨some 32, .ext (.s 28) 0, none⟩,
    ⟨some 33, .ext (.s 28) 1, none⟩,
    ⟨some 7, .mv (.s 32), none⟩,
    ⟨some 8, .mv (.s 33), none⟩])
  (.seq (.reg [⟨some 34, .mv (.s 8), none⟩,
    ⟨some 35, .int .eql (.s 34) (.c (.int .i64 0)), none⟩])
  (.cond (.s 35) (.reg [⟨some 36, .mv (.s 7), none⟩,
    ⟨some 37, .nilc (.s 36), none⟩,
    ⟨some 38, .fld 0 (.s 37), none⟩,
    ⟨some 39, .load false 1 (.s 38), none⟩,
    ⟨some 40, .call 186 [(.s 39)], none⟩,
    ⟨some 41, .fld 2 (.s 6), none⟩,
    ⟨none, .store 1 (.s 41) (.s 40), none⟩])
  .skip)))
  (.reg [⟨some 42, .mv (.s 3), none⟩,
    ⟨some 43, .load true 3 (.s 6), none⟩,
    ⟨some 44, .bslice 3 [(.s 43)], none⟩,
    ⟨some 45, .app 3 48 (.s 42) (.s 44), none⟩,
    ⟨some 3, .mv (.s 45), none⟩])))))
  (.reg [⟨some 46, .int .add (.s 15) (.c (.int .i64 1)), none⟩,
    ⟨some 15, .mv (.s 46), none⟩])))))))
  (.seq (.reg [⟨some 47, .mv (.s 3), none⟩,
    ⟨some 2, .mv (.s 47), none⟩])
  .ret)))))⟩

/-- (*sumpter/disk.Disk).Used -/
def sf313 : SF :=
  ⟨1, 33, [.t 2],
  (.seq (.reg [⟨some 2, .mv (.c (.int .i64 0)), none⟩])
  (.seq (.seq (.reg [⟨some 6, .mv (.s 0), none⟩,
    ⟨some 7, .eq .ptr false (.s 6) (.c (.pointer none)), none⟩])
  (.cond (.s 7) (.seq (.reg [⟨some 2, .mv (.c (.int .i64 0)), none⟩])
  .ret)
  .skip))
  (.seq (.reg [⟨some 3, .mv (.c (.int .i64 0)), none⟩])
  (.seq (.seq (.reg [⟨some 8, .mv (.s 0), none⟩,
    ⟨some 9, .nilc (.s 8), none⟩,
    ⟨some 10, .fld 2 (.s 9), none⟩,
    ⟨some 11, .load false 1 (.s 10), none⟩,
    ⟨some 12, .hop (.m .rng) [(.s 11)], none⟩])
  (.block 0 (.loop (.seq (.reg [⟨some 13, .hop (.m .nxt) [(.s 12)], none⟩,
    ⟨some 14, .ext (.s 13) 0, none⟩])
  (.seq (.cond (.s 14) .skip
  (.exit 0))
  (.block 1 (.seq (.reg [⟨some 15, .hop (.m .ent) [(.s 12)], none⟩,
    ⟨some 16, .ext (.s 15) 1, none⟩,
    ⟨some 5, .alloc (some 0) [.v (.bool false), .v (.int .i64 0)], none⟩,
    ⟨none, .store 2 (.s 5) (.s 16), none⟩])
  (.seq (.reg [⟨some 17, .fld 0 (.s 5), none⟩,
    ⟨some 18, .load false 1 (.s 17), none⟩,
    ⟨some 19, .not (.s 18), none⟩])
  (.cond (.s 19) (.dreg [0, 1, 2, 3, 5, 4, 6, 7, 8, 9, 10, 11, 12] [⟨⟨some 20, .mv (.s 3), none⟩, []⟩,
    ⟨⟨some 21, .mv (.s 0), none⟩, []⟩,
    ⟨⟨some 22, .nilc (.s 21), none⟩, []⟩,
    ⟨⟨some 23, .fld 4 (.s 22), none⟩, []⟩,
    ⟨⟨some 25, .fld 1 (.s 5), none⟩, []⟩,
    ⟨⟨some 24, .load false 1 (.s 23), none⟩, []⟩,
    ⟨⟨some 26, .load false 1 (.s 25), none⟩, []⟩,
    ⟨⟨some 27, .idx 2 (.s 24) (.s 26), none⟩, []⟩,
    ⟨⟨some 28, .fld 0 (.s 27), none⟩, []⟩,
    ⟨⟨some 29, .load false 1 (.s 28), none⟩, []⟩,
    ⟨⟨some 30, .len (.s 29), none⟩, []⟩,
    ⟨⟨some 31, .int .add (.s 20) (.s 30), none⟩, []⟩,
    ⟨⟨some 3, .mv (.s 31), none⟩, []⟩])
  .skip)))))))))
  (.seq (.reg [⟨some 32, .mv (.s 3), none⟩,
    ⟨some 2, .mv (.s 32), none⟩])
  .ret)))))⟩

/-- (*sumpter/disk.Disk).Down -/
def sf314 : SF :=
  ⟨1, 11, [.t 2],
  (.seq (.reg [⟨some 2, .mv (.c (.bool false)), none⟩])
  (.seq (.reg [⟨some 3, .mv (.s 0), none⟩,
    ⟨some 4, .eq .ptr true (.s 3) (.c (.pointer none)), none⟩,
    ⟨some 5, .mv (.s 4), none⟩,
    ⟨some 6, .mv (.s 0), (some (5, true))⟩,
    ⟨some 7, .nilc (.s 6), (some (5, true))⟩,
    ⟨some 8, .fld 5 (.s 7), (some (5, true))⟩,
    ⟨some 9, .load false 1 (.s 8), (some (5, true))⟩,
    ⟨some 10, .pick (.s 5) (.s 9) (.c (.bool false)), none⟩,
    ⟨some 2, .mv (.s 10), none⟩])
  .ret))⟩

/-- maps.Clone[sumpter/disk.names,string,sumpter/disk.node] -/
def sf329 : SF :=
  ⟨1, 9, [.t 2],
  (.seq (.reg [⟨some 2, .mv (.c (.map none)), none⟩])
  (.seq (.seq (.reg [⟨some 3, .mv (.s 0), none⟩,
    ⟨some 4, .hop (.m (.isnil false)) [(.s 3)], none⟩])
  (.cond (.s 4) (.seq (.reg [⟨some 2, .mv (.c (.map none)), none⟩])
  .ret)
  .skip))
  (.seq (.reg [⟨some 5, .mv (.s 0), none⟩,
    ⟨some 6, .hop (.m (.mki 42)) [(.s 5)], none⟩,
    ⟨some 7, .hop (.m .cln) [(.s 6)], none⟩,
    ⟨some 8, .hop (.m (.tas 42)) [(.s 7)], none⟩,
    ⟨some 2, .mv (.s 8), none⟩])
  .ret)))⟩

/-- (sumpter/disk.names).apply -/
def sf330 : SF :=
  ⟨2, 32, [],
  (.seq (.reg [⟨some 3, .box (some 0) 2 (.s 1), none⟩])
  (.seq (.reg [⟨some 6, .fld 0 (.s 3), none⟩,
    ⟨some 7, .load false 1 (.s 6), none⟩,
    ⟨some 8, .len (.s 7), none⟩,
    ⟨some 9, .mv (.c (.int .i64 0)), none⟩])
  (.block 0 (.loop (.seq (.reg [⟨some 10, .int .lss (.s 9) (.s 8), none⟩])
  (.seq (.cond (.s 10) .skip
  (.exit 0))
  (.seq (.block 1 (.seq (.reg [⟨some 11, .mv (.s 9), none⟩,
    ⟨some 12, .idx 1 (.s 7) (.s 9), none⟩,
    ⟨some 13, .load false 1 (.s 12), none⟩,
    ⟨some 4, .mv (.s 11), none⟩,
    ⟨some 5, .mv (.s 13), none⟩])
  (.seq (.reg [⟨some 14, .fld 1 (.s 3), none⟩,
    ⟨some 15, .load false 1 (.s 14), none⟩,
    ⟨some 16, .mv (.s 4), none⟩,
    ⟨some 17, .idx 1 (.s 15) (.s 16), none⟩,
    ⟨some 18, .load false 1 (.s 17), none⟩,
    ⟨some 19, .eq .ptr false (.s 18) (.c (.pointer none)), none⟩])
  (.cond (.s 19) (.reg [⟨some 20, .mv (.s 0), none⟩,
    ⟨some 21, .mv (.s 5), none⟩,
    ⟨none, .hop (.m (.del true)) [(.s 20), (.s 21)], none⟩])
  (.reg [⟨some 22, .mv (.s 0), none⟩,
    ⟨some 23, .mv (.s 5), none⟩,
    ⟨some 24, .fld 1 (.s 3), none⟩,
    ⟨some 25, .load false 1 (.s 24), none⟩,
    ⟨some 26, .mv (.s 4), none⟩,
    ⟨some 27, .idx 1 (.s 25) (.s 26), none⟩,
    ⟨some 28, .load false 1 (.s 27), none⟩,
    ⟨some 29, .nilc (.s 28), none⟩,
    ⟨some 30, .load true 2 (.s 29), none⟩,
    ⟨none, .hop (.m (.upd true)) [(.s 22), (.s 23), (.s 30)], none⟩])))))
  (.reg [⟨some 31, .int .add (.s 9) (.c (.int .i64 1)), none⟩,
    ⟨some 9, .mv (.s 31), none⟩]))))))))⟩

/-- (*sumpter/disk.Disk).paths -/
def sf331 : SF :=
  ⟨1, 13, [.t 2],
  (.seq (.reg [⟨some 2, .mv (.c (.slice none 0 0)), none⟩])
  (.seq (.reg [⟨some 4, .mv (.s 0), none⟩,
    ⟨some 5, .nilc (.s 4), none⟩,
    ⟨some 6, .fld 2 (.s 5), none⟩,
    ⟨some 7, .load false 1 (.s 6), none⟩,
    ⟨some 8, .call 361 [(.s 7)], none⟩,
    ⟨some 9, .call 90 [(.s 8)], none⟩,
    ⟨some 3, .mv (.s 9), none⟩])
  (.seq (.reg [⟨some 10, .mv (.s 3), none⟩,
    ⟨some 11, .call 362 [(.s 10), (.f 363)], none⟩])
  (.seq (.reg [⟨some 12, .mv (.s 3), none⟩,
    ⟨some 2, .mv (.s 12), none⟩])
  .ret))))⟩

/-- (*sumpter/disk.Disk).file -/
def sf332 : SF :=
  ⟨2, 30, [.t 4, .t 5],
  (.seq (.reg [⟨some 4, .mv (.c (.pointer none)), none⟩,
    ⟨some 5, .mv (.c (.int .i64 0)), none⟩])
  (.seq (.reg [⟨some 9, .mv (.s 0), none⟩,
    ⟨some 10, .nilc (.s 9), none⟩,
    ⟨some 11, .fld 2 (.s 10), none⟩,
    ⟨some 12, .load false 1 (.s 11), none⟩,
    ⟨some 13, .mv (.s 1), none⟩,
    ⟨some 14, .hop (.m (.lkp true true true [.v (.bool false), .v (.int .i64 0)])) [(.s 12), (.s 13)], none⟩,
    ⟨some 8, .mv (.s 14), none⟩,
    ⟨some 15, .ext (.s 8) 0, none⟩,
    ⟨some 16, .ext (.s 8) 1, none⟩,
    ⟨some 6, .alloc (some 0) [.v (.bool false), .v (.int .i64 0)], none⟩,
    ⟨none, .store 2 (.s 6) (.s 15), none⟩,
    ⟨some 7, .mv (.s 16), none⟩])
  (.seq (.block 0 (.seq (.reg [⟨some 18, .mv (.s 7), none⟩,
    ⟨some 19, .not (.s 18), none⟩,
    ⟨some 17, .mv (.s 19), none⟩])
  (.cond (.s 17) (.seq (.reg [⟨some 4, .mv (.c (.pointer none)), none⟩,
    ⟨some 5, .mv (.c (.int .i64 8)), none⟩])
  .ret)
  (.seq (.reg [⟨some 21, .fld 0 (.s 6), none⟩,
    ⟨some 22, .load false 1 (.s 21), none⟩,
    ⟨some 20, .mv (.s 22), none⟩])
  (.cond (.s 20) (.seq (.reg [⟨some 4, .mv (.c (.pointer none)), none⟩,
    ⟨some 5, .mv (.c (.int .i64 9)), none⟩])
  .ret)
  .skip)))))
  (.seq (.dreg [0, 1, 2, 4, 3, 5, 6, 7, 8] [⟨⟨some 23, .mv (.s 0), none⟩, []⟩,
    ⟨⟨some 24, .nilc (.s 23), none⟩, []⟩,
    ⟨⟨some 25, .fld 4 (.s 24), none⟩, []⟩,
    ⟨⟨some 27, .fld 1 (.s 6), none⟩, []⟩,
    ⟨⟨some 26, .load false 1 (.s 25), none⟩, []⟩,
    ⟨⟨some 28, .load false 1 (.s 27), none⟩, []⟩,
    ⟨⟨some 29, .idx 2 (.s 26) (.s 28), none⟩, []⟩,
    ⟨⟨some 4, .mv (.s 29), none⟩, []⟩,
    ⟨⟨some 5, .mv (.c (.int .i64 0)), none⟩, []⟩])
  .ret))))⟩

/-- (*sumpter/disk.Disk).asked -/
def sf333 : SF :=
  ⟨2, 28, [.t 4],
  (.seq (.reg [⟨some 4, .mv (.c (.int .i64 0)), none⟩])
  (.seq (.block 0 (.seq (.reg [⟨some 9, .mv (.s 0), none⟩,
    ⟨some 10, .eq .ptr false (.s 9) (.c (.pointer none)), none⟩,
    ⟨some 8, .mv (.s 10), none⟩])
  (.cond (.s 8) (.seq (.reg [⟨some 4, .mv (.c (.int .i64 1)), none⟩])
  .ret)
  (.seq (.reg [⟨some 12, .mv (.s 0), none⟩,
    ⟨some 13, .nilc (.s 12), none⟩,
    ⟨some 14, .fld 5 (.s 13), none⟩,
    ⟨some 15, .load false 1 (.s 14), none⟩,
    ⟨some 11, .mv (.s 15), none⟩])
  (.cond (.s 11) (.seq (.reg [⟨some 4, .mv (.c (.int .i64 11)), none⟩])
  .ret)
  .skip)))))
  (.seq (.seq (.reg [⟨some 16, .mv (.s 1), none⟩,
    ⟨some 17, .len (.s 16), none⟩,
    ⟨some 18, .mv (.c (.int .i64 0)), none⟩])
  (.block 1 (.loop (.seq (.reg [⟨some 19, .int .lss (.s 18) (.s 17), none⟩])
  (.seq (.cond (.s 19) .skip
  (.exit 1))
  (.seq (.block 2 (.seq (.reg [⟨some 20, .idx 1 (.s 16) (.s 18), none⟩,
    ⟨some 21, .load false 1 (.s 20), none⟩,
    ⟨some 6, .mv (.s 21), none⟩])
  (.seq (.reg [⟨some 22, .mv (.s 6), none⟩,
    ⟨some 23, .call 192 [(.s 22)], none⟩,
    ⟨some 7, .mv (.s 23), none⟩])
  (.seq (.reg [⟨some 24, .mv (.s 7), none⟩,
    ⟨some 25, .int .neq (.s 24) (.c (.int .i64 0)), none⟩])
  (.cond (.s 25) (.seq (.reg [⟨some 26, .mv (.s 7), none⟩,
    ⟨some 4, .mv (.s 26), none⟩])
  .ret)
  .skip)))))
  (.reg [⟨some 27, .int .add (.s 18) (.c (.int .i64 1)), none⟩,
    ⟨some 18, .mv (.s 27), none⟩])))))))
  (.seq (.reg [⟨some 4, .mv (.c (.int .i64 0)), none⟩])
  .ret))))⟩

/-- (*sumpter/disk.Disk).step -/
def sf335 : SF :=
  ⟨2, 37, [.t 4],
  (.seq (.reg [⟨some 4, .mv (.c (.int .i64 0)), none⟩])
  (.seq (.reg [⟨some 7, .mv (.s 0), none⟩,
    ⟨some 8, .nilc (.s 7), none⟩,
    ⟨some 9, .fld 6 (.s 8), none⟩,
    ⟨some 10, .load false 1 (.s 9), none⟩,
    ⟨some 11, .int .add (.s 10) (.c (.int .i64 1)), none⟩,
    ⟨some 12, .nilc (.s 7), none⟩,
    ⟨some 13, .fld 6 (.s 12), none⟩,
    ⟨none, .store 1 (.s 13) (.s 11), none⟩])
  (.seq (.dreg [0, 1, 2, 4, 5, 6, 3, 7, 8, 9] [⟨⟨some 14, .mv (.s 0), none⟩, []⟩,
    ⟨⟨some 15, .nilc (.s 14), none⟩, []⟩,
    ⟨⟨some 16, .fld 7 (.s 15), none⟩, []⟩,
    ⟨⟨some 18, .mv (.s 0), none⟩, []⟩,
    ⟨⟨some 19, .nilc (.s 18), none⟩, []⟩,
    ⟨⟨some 20, .fld 9 (.s 19), none⟩, []⟩,
    ⟨⟨some 17, .call 365 [(.s 16)], none⟩, []⟩,
    ⟨⟨some 21, .call 365 [(.s 20)], none⟩, []⟩,
    ⟨⟨some 5, .mv (.s 17), none⟩, []⟩,
    ⟨⟨some 6, .mv (.s 21), none⟩, []⟩])
  (.seq (.block 0 (.seq (.reg [⟨some 23, .mv (.s 5), none⟩,
    ⟨some 22, .mv (.s 23), none⟩])
  (.cond (.s 22) (.seq (.reg [⟨some 24, .mv (.s 0), none⟩,
    ⟨some 25, .nilc (.s 24), none⟩,
    ⟨some 26, .fld 5 (.s 25), none⟩,
    ⟨none, .store 1 (.s 26) (.c (.bool true)), none⟩])
  (.seq (.seq (.reg [⟨some 27, .mv (.s 0), none⟩,
    ⟨some 28, .nilc (.s 27), none⟩,
    ⟨some 29, .fld 8 (.s 28), none⟩,
    ⟨some 30, .load false 1 (.s 29), none⟩])
  (.cond (.s 30) (.reg [⟨some 31, .mv (.s 1), none⟩,
    ⟨some 32, .callv (.s 31) [], none⟩])
  .skip))
  (.seq (.reg [⟨some 4, .mv (.c (.int .i64 11)), none⟩])
  .ret)))
  (.seq (.reg [⟨some 34, .mv (.s 6), none⟩,
    ⟨some 33, .mv (.s 34), none⟩])
  (.cond (.s 33) (.seq (.reg [⟨some 4, .mv (.c (.int .i64 12)), none⟩])
  .ret)
  .skip)))))
  (.seq (.reg [⟨some 35, .mv (.s 1), none⟩,
    ⟨some 36, .callv (.s 35) [], none⟩])
  (.seq (.reg [⟨some 4, .mv (.c (.int .i64 0)), none⟩])
  .ret))))))⟩

/-- (*sumpter/disk.Disk).put -/
def sf336 : SF :=
  ⟨3, 37, [.t 6],
  (.seq (.reg [⟨some 3, .box none 1 (.s 0), none⟩,
    ⟨some 4, .box none 1 (.s 1), none⟩,
    ⟨some 5, .box none 1 (.s 2), none⟩,
    ⟨some 6, .mv (.c (.int .i64 0)), none⟩])
  (.seq (.seq (.reg [⟨some 11, .load false 1 (.s 3), none⟩,
    ⟨some 12, .load false 1 (.s 4), none⟩,
    ⟨some 13, .bslice 1 [(.s 12)], none⟩,
    ⟨some 14, .call 333 [(.s 11), (.s 13)], none⟩,
    ⟨some 7, .mv (.s 14), none⟩])
  (.seq (.reg [⟨some 15, .mv (.s 7), none⟩,
    ⟨some 16, .int .neq (.s 15) (.c (.int .i64 0)), none⟩])
  (.cond (.s 16) (.seq (.reg [⟨some 17, .mv (.s 7), none⟩,
    ⟨some 6, .mv (.s 17), none⟩])
  .ret)
  .skip)))
  (.seq (.seq (.reg [⟨some 18, .load false 1 (.s 3), none⟩,
    ⟨some 19, .load false 1 (.s 4), none⟩,
    ⟨some 20, .call 350 [(.s 18), (.s 19)], none⟩,
    ⟨some 8, .mv (.s 20), none⟩])
  (.seq (.reg [⟨some 21, .mv (.s 8), none⟩,
    ⟨some 22, .int .neq (.s 21) (.c (.int .i64 0)), none⟩])
  (.cond (.s 22) (.seq (.reg [⟨some 23, .mv (.s 8), none⟩,
    ⟨some 6, .mv (.s 23), none⟩])
  .ret)
  .skip)))
  (.seq (.seq (.dreg [0, 1, 2, 3, 4, 9, 5, 6, 7, 8, 10, 11] [⟨⟨some 25, .load false 1 (.s 3), none⟩, []⟩,
    ⟨⟨some 26, .nilc (.s 25), none⟩, []⟩,
    ⟨⟨some 27, .fld 2 (.s 26), none⟩, []⟩,
    ⟨⟨some 28, .load false 1 (.s 27), none⟩, []⟩,
    ⟨⟨some 29, .load false 1 (.s 4), none⟩, []⟩,
    ⟨⟨some 9, .alloc (some 3) [.v (.bool false), .v (.int .i64 0)], none⟩, []⟩,
    ⟨⟨some 30, .hop (.m (.lkp true true true [.v (.bool false), .v (.int .i64 0)])) [(.s 28), (.s 29)], none⟩, []⟩,
    ⟨⟨some 24, .mv (.s 30), none⟩, []⟩,
    ⟨⟨some 31, .ext (.s 24) 0, none⟩, []⟩,
    ⟨⟨some 32, .ext (.s 24) 1, none⟩, []⟩,
    ⟨⟨none, .store 2 (.s 9) (.s 31), none⟩, []⟩,
    ⟨⟨some 10, .mv (.s 32), none⟩, []⟩])
  (.seq (.reg [⟨some 33, .mv (.s 10), none⟩])
  (.cond (.s 33) (.seq (.reg [⟨some 6, .mv (.c (.int .i64 7)), none⟩])
  .ret)
  .skip)))
  (.seq (.reg [⟨some 34, .load false 1 (.s 3), none⟩,
    ⟨some 35, .mkfn 366 [(.s 5), (.s 3), (.s 4)], none⟩,
    ⟨some 36, .call 335 [(.s 34), (.s 35)], none⟩,
    ⟨some 6, .mv (.s 36), none⟩])
  .ret)))))⟩

/-- (*sumpter/disk.Disk).with -/
def sf339 : SF :=
  ⟨4, 38, [.t 8],
  (.seq (.reg [⟨some 7, .box none 1 (.s 3), none⟩,
    ⟨some 8, .mv (.c (.int .i64 0)), none⟩])
  (.seq (.seq (.reg [⟨some 13, .mv (.s 0), none⟩,
    ⟨some 14, .mv (.s 1), none⟩,
    ⟨some 15, .bslice 1 [(.s 14)], none⟩,
    ⟨some 16, .call 333 [(.s 13), (.s 15)], none⟩,
    ⟨some 9, .mv (.s 16), none⟩])
  (.seq (.reg [⟨some 17, .mv (.s 9), none⟩,
    ⟨some 18, .int .neq (.s 17) (.c (.int .i64 0)), none⟩])
  (.cond (.s 18) (.seq (.reg [⟨some 19, .mv (.s 9), none⟩,
    ⟨some 8, .mv (.s 19), none⟩])
  .ret)
  .skip)))
  (.seq (.reg [⟨some 21, .mv (.s 0), none⟩,
    ⟨some 22, .mv (.s 1), none⟩,
    ⟨some 23, .call 332 [(.s 21), (.s 22)], none⟩,
    ⟨some 20, .mv (.s 23), none⟩,
    ⟨some 24, .ext (.s 20) 0, none⟩,
    ⟨some 25, .ext (.s 20) 1, none⟩,
    ⟨some 10, .alloc none [.v (.pointer none)], none⟩,
    ⟨none, .store 1 (.s 10) (.s 24), none⟩,
    ⟨some 11, .mv (.s 25), none⟩])
  (.seq (.seq (.reg [⟨some 26, .mv (.s 11), none⟩,
    ⟨some 27, .int .neq (.s 26) (.c (.int .i64 0)), none⟩])
  (.cond (.s 27) (.seq (.reg [⟨some 28, .mv (.s 11), none⟩,
    ⟨some 8, .mv (.s 28), none⟩])
  .ret)
  .skip))
  (.seq (.seq (.reg [⟨some 29, .mv (.s 2), none⟩,
    ⟨some 30, .load false 1 (.s 10), none⟩,
    ⟨some 31, .callv (.s 29) [(.s 30)], none⟩,
    ⟨some 12, .mv (.s 31), none⟩])
  (.seq (.reg [⟨some 32, .mv (.s 12), none⟩,
    ⟨some 33, .int .neq (.s 32) (.c (.int .i64 0)), none⟩])
  (.cond (.s 33) (.seq (.reg [⟨some 34, .mv (.s 12), none⟩,
    ⟨some 8, .mv (.s 34), none⟩])
  .ret)
  .skip)))
  (.seq (.reg [⟨some 35, .mv (.s 0), none⟩,
    ⟨some 36, .mkfn 367 [(.s 7), (.s 10)], none⟩,
    ⟨some 37, .call 335 [(.s 35), (.s 36)], none⟩,
    ⟨some 8, .mv (.s 37), none⟩])
  .ret))))))⟩

/-- (*sumpter/disk.Disk).Append$1 -/
def sf340 : SF :=
  ⟨3, 15, [.t 4],
  (.seq (.reg [⟨some 4, .mv (.c (.int .i64 0)), none⟩])
  (.seq (.seq (.dreg [0, 1, 2, 3, 4, 5, 6, 7, 8, 9] [⟨⟨some 5, .load false 1 (.s 1), none⟩, []⟩,
    ⟨⟨some 6, .len (.s 5), none⟩, []⟩,
    ⟨⟨some 7, .load false 1 (.s 2), none⟩, []⟩,
    ⟨⟨some 8, .nilc (.s 7), none⟩, []⟩,
    ⟨⟨some 9, .fld 0 (.s 8), none⟩, []⟩,
    ⟨⟨some 10, .load false 1 (.s 9), none⟩, []⟩,
    ⟨⟨some 11, .load false 1 (.s 2), none⟩, []⟩,
    ⟨⟨some 12, .call 313 [(.s 11)], none⟩, [0, 2, 5]⟩,
    ⟨⟨some 13, .int .sub (.s 10) (.s 12), none⟩, []⟩,
    ⟨⟨some 14, .int .gtr (.s 6) (.s 13), none⟩, []⟩])
  (.cond (.s 14) (.seq (.reg [⟨some 4, .mv (.c (.int .i64 10)), none⟩])
  .ret)
  .skip))
  (.seq (.reg [⟨some 4, .mv (.c (.int .i64 0)), none⟩])
  .ret)))⟩

/-- (*sumpter/disk.Disk).Append$2 -/
def sf341 : SF :=
  ⟨2, 13, [],
  (.dreg [0, 1, 2, 3, 4, 6, 5, 7, 8, 9, 10] [⟨⟨some 3, .mv (.s 0), none⟩, []⟩,
    ⟨⟨some 4, .mv (.s 0), none⟩, []⟩,
    ⟨⟨some 5, .nilc (.s 4), none⟩, []⟩,
    ⟨⟨some 6, .fld 0 (.s 5), none⟩, []⟩,
    ⟨⟨some 7, .load false 1 (.s 6), none⟩, []⟩,
    ⟨⟨some 9, .load false 1 (.s 1), none⟩, []⟩,
    ⟨⟨some 8, .call 186 [(.s 7)], none⟩, [5]⟩,
    ⟨⟨some 10, .app 1 1 (.s 8) (.s 9), none⟩, []⟩,
    ⟨⟨some 11, .nilc (.s 3), none⟩, []⟩,
    ⟨⟨some 12, .fld 0 (.s 11), none⟩, []⟩,
    ⟨⟨none, .store 1 (.s 12) (.s 10), none⟩, []⟩])⟩

/-- (*sumpter/disk.Disk).Sync$1 -/
def sf342 : SF :=
  ⟨1, 3, [.t 2],
  (.seq (.reg [⟨some 2, .mv (.c (.int .i64 0)), none⟩])
  (.seq (.reg [⟨some 2, .mv (.c (.int .i64 0)), none⟩])
  .ret))⟩

/-- (*sumpter/disk.Disk).Sync$2 -/
def sf343 : SF :=
  ⟨1, 10, [],
  (.reg [⟨some 2, .mv (.s 0), none⟩,
    ⟨some 3, .mv (.s 0), none⟩,
    ⟨some 4, .nilc (.s 3), none⟩,
    ⟨some 5, .fld 0 (.s 4), none⟩,
    ⟨some 6, .load false 1 (.s 5), none⟩,
    ⟨some 7, .len (.s 6), none⟩,
    ⟨some 8, .nilc (.s 2), none⟩,
    ⟨some 9, .fld 1 (.s 8), none⟩,
    ⟨none, .store 1 (.s 9) (.s 7), none⟩])⟩

/-- (*sumpter/disk.Disk).SyncDirs$1 -/
def sf344 : SF :=
  ⟨1, 12, [],
  (.dreg [0, 1, 2, 3, 4, 5, 6, 7, 8, 9, 10, 11, 12] [⟨⟨some 1, .load false 1 (.s 0), none⟩, []⟩,
    ⟨⟨some 2, .load false 1 (.s 0), none⟩, []⟩,
    ⟨⟨some 3, .load false 1 (.s 0), none⟩, []⟩,
    ⟨⟨some 4, .nilc (.s 3), none⟩, []⟩,
    ⟨⟨some 5, .fld 2 (.s 4), none⟩, []⟩,
    ⟨⟨some 6, .load false 1 (.s 5), none⟩, []⟩,
    ⟨⟨some 7, .call 329 [(.s 6)], none⟩, [0, 1]⟩,
    ⟨⟨some 8, .nilc (.s 1), none⟩, []⟩,
    ⟨⟨some 9, .fld 1 (.s 8), none⟩, []⟩,
    ⟨⟨none, .store 1 (.s 9) (.s 7), none⟩, [1]⟩,
    ⟨⟨some 10, .nilc (.s 2), none⟩, []⟩,
    ⟨⟨some 11, .fld 3 (.s 10), none⟩, []⟩,
    ⟨⟨none, .store 1 (.s 11) (.c (.slice none 0 0)), none⟩, []⟩])⟩

/-- slices.Clone[[]sumpter/disk.change,sumpter/disk.change] -/
def sf349 : SF :=
  ⟨1, 8, [.t 2],
  (.seq (.reg [⟨some 2, .mv (.c (.slice none 0 0)), none⟩])
  (.seq (.seq (.reg [⟨some 3, .mv (.s 0), none⟩,
    ⟨some 4, .nd (.isnil false) [(.s 3)], none⟩])
  (.cond (.s 4) (.seq (.reg [⟨some 2, .mv (.c (.slice none 0 0)), none⟩])
  .ret)
  .skip))
  (.seq (.reg [⟨some 5, .bslice 2 [], none⟩,
    ⟨some 6, .mv (.s 0), none⟩,
    ⟨some 7, .app 2 48 (.s 5) (.s 6), none⟩,
    ⟨some 2, .mv (.s 7), none⟩])
  .ret)))⟩

/-- (*sumpter/disk.Disk).parent -/
def sf350 : SF :=
  ⟨2, 28, [.t 4],
  (.seq (.reg [⟨some 4, .mv (.c (.int .i64 0)), none⟩])
  (.seq (.reg [⟨some 8, .mv (.s 1), none⟩,
    ⟨some 9, .call 164 [(.s 8)], none⟩,
    ⟨some 5, .mv (.s 9), none⟩])
  (.seq (.seq (.reg [⟨some 10, .mv (.s 5), none⟩,
    ⟨some 11, .str .eql (.s 10) (.c (.string ⟨#[]⟩)), none⟩])
  (.cond (.s 11) (.seq (.reg [⟨some 4, .mv (.c (.int .i64 0)), none⟩])
  .ret)
  .skip))
  (.seq (.reg [⟨some 13, .mv (.s 0), none⟩,
    ⟨some 14, .nilc (.s 13), none⟩,
    ⟨some 15, .fld 2 (.s 14), none⟩,
    ⟨some 16, .load false 1 (.s 15), none⟩,
    ⟨some 17, .mv (.s 5), none⟩,
    ⟨some 18, .hop (.m (.lkp true true true [.v (.bool false), .v (.int .i64 0)])) [(.s 16), (.s 17)], none⟩,
    ⟨some 12, .mv (.s 18), none⟩,
    ⟨some 19, .ext (.s 12) 0, none⟩,
    ⟨some 20, .ext (.s 12) 1, none⟩,
    ⟨some 6, .alloc (some 0) [.v (.bool false), .v (.int .i64 0)], none⟩,
    ⟨none, .store 2 (.s 6) (.s 19), none⟩,
    ⟨some 7, .mv (.s 20), none⟩])
  (.seq (.block 0 (.seq (.reg [⟨some 22, .mv (.s 7), none⟩,
    ⟨some 23, .not (.s 22), none⟩,
    ⟨some 21, .mv (.s 23), none⟩])
  (.cond (.s 21) (.seq (.reg [⟨some 4, .mv (.c (.int .i64 8)), none⟩])
  .ret)
  (.seq (.reg [⟨some 25, .fld 0 (.s 6), none⟩,
    ⟨some 26, .load false 1 (.s 25), none⟩,
    ⟨some 27, .not (.s 26), none⟩,
    ⟨some 24, .mv (.s 27), none⟩])
  (.cond (.s 24) (.seq (.reg [⟨some 4, .mv (.c (.int .i64 9)), none⟩])
  .ret)
  .skip)))))
  (.seq (.reg [⟨some 4, .mv (.c (.int .i64 0)), none⟩])
  .ret))))))⟩

/-- (*sumpter/disk.Disk).Rename$1 -/
def sf351 : SF :=
  ⟨4, 11, [],
  (.reg [⟨some 4, .load false 1 (.s 0), none⟩,
    ⟨some 5, .load false 1 (.s 1), none⟩,
    ⟨some 6, .load false 1 (.s 2), none⟩,
    ⟨some 7, .bslice 1 [(.s 5), (.s 6)], none⟩,
    ⟨some 8, .bslice 1 [(.c (.pointer none)), (.s 3)], none⟩,
    ⟨some 9, .build [.v (.slice none 0 0), .v (.slice none 0 0)] [(0, 1, (.s 7)), (1, 1, (.s 8))], none⟩,
    ⟨some 10, .call 364 [(.s 4), (.s 9)], none⟩])⟩

/-- maps.Keys[sumpter/disk.names,string,sumpter/disk.node] -/
def sf361 : SF :=
  ⟨1, 4, [.t 2],
  (.seq (.reg [⟨some 1, .box none 1 (.s 0), none⟩,
    ⟨some 2, .mv (.c (.nilFunc)), none⟩])
  (.seq (.reg [⟨some 3, .mkfn 369 [(.s 1)], none⟩,
    ⟨some 2, .mv (.s 3), none⟩])
  .ret))⟩

/-- slices.SortFunc[[]string,string] -/
def sf362 : SF :=
  ⟨2, 14, [],
  (.seq (.reg [⟨some 5, .mv (.s 0), none⟩,
    ⟨some 6, .len (.s 5), none⟩,
    ⟨some 4, .mv (.s 6), none⟩])
  (.reg [⟨some 7, .mv (.s 0), none⟩,
    ⟨some 8, .mv (.s 4), none⟩,
    ⟨some 9, .mv (.s 4), none⟩,
    ⟨some 10, .conv .u64 (.s 9), none⟩,
    ⟨some 11, .dead, none⟩,
    ⟨some 12, .mv (.s 1), none⟩,
    ⟨some 13, .dead, none⟩]))⟩

/-- (*sumpter/disk.Disk).paths$1 -/
def sf363 : SF :=
  ⟨2, 13, [.t 4],
  (.seq (.reg [⟨some 4, .mv (.c (.int .i64 0)), none⟩])
  (.seq (.block 0 (.seq (.reg [⟨some 6, .mv (.s 0), none⟩,
    ⟨some 7, .mv (.s 1), none⟩,
    ⟨some 8, .call 163 [(.s 6), (.s 7)], none⟩,
    ⟨some 5, .mv (.s 8), none⟩])
  (.cond (.s 5) (.seq (.reg [⟨some 4, .mv (.c (.int .i64 (-1))), none⟩])
  .ret)
  (.seq (.reg [⟨some 10, .mv (.s 1), none⟩,
    ⟨some 11, .mv (.s 0), none⟩,
    ⟨some 12, .call 163 [(.s 10), (.s 11)], none⟩,
    ⟨some 9, .mv (.s 12), none⟩])
  (.cond (.s 9) (.seq (.reg [⟨some 4, .mv (.c (.int .i64 1)), none⟩])
  .ret)
  .skip)))))
  (.seq (.reg [⟨some 4, .mv (.c (.int .i64 0)), none⟩])
  .ret)))⟩

/-- (*sumpter/disk.Disk).rename -/
def sf364 : SF :=
  ⟨2, 31, [],
  (.seq (.reg [⟨some 3, .box (some 0) 2 (.s 1), none⟩])
  (.seq (.dreg [0, 1, 2, 3, 4, 5] [⟨⟨some 4, .mv (.s 0), none⟩, []⟩,
    ⟨⟨some 5, .nilc (.s 4), none⟩, []⟩,
    ⟨⟨some 6, .fld 2 (.s 5), none⟩, []⟩,
    ⟨⟨some 7, .load false 1 (.s 6), none⟩, []⟩,
    ⟨⟨some 8, .load true 2 (.s 3), none⟩, []⟩,
    ⟨⟨some 9, .call 330 [(.s 7), (.s 8)], none⟩, []⟩])
  (.dreg [0, 1, 2, 3, 5, 6, 7, 10, 11, 12, 4, 8, 9, 13, 14, 15, 16, 17, 18, 19, 20, 21] [⟨⟨some 10, .mv (.s 0), none⟩, []⟩,
    ⟨⟨some 11, .mv (.s 0), none⟩, []⟩,
    ⟨⟨some 12, .nilc (.s 11), none⟩, []⟩,
    ⟨⟨some 13, .fld 3 (.s 12), none⟩, []⟩,
    ⟨⟨some 15, .mv (.s 0), none⟩, []⟩,
    ⟨⟨some 16, .nilc (.s 15), none⟩, []⟩,
    ⟨⟨some 17, .fld 3 (.s 16), none⟩, []⟩,
    ⟨⟨some 20, .mv (.s 0), none⟩, []⟩,
    ⟨⟨some 21, .nilc (.s 20), none⟩, []⟩,
    ⟨⟨some 22, .fld 3 (.s 21), none⟩, []⟩,
    ⟨⟨some 14, .load false 1 (.s 13), none⟩, []⟩,
    ⟨⟨some 18, .load false 1 (.s 17), none⟩, []⟩,
    ⟨⟨some 19, .len (.s 18), none⟩, []⟩,
    ⟨⟨some 23, .load false 1 (.s 22), none⟩, []⟩,
    ⟨⟨some 24, .len (.s 23), none⟩, []⟩,
    ⟨⟨some 25, .slc 2 (.s 14) none (some (.s 19)) (some (.s 24)), none⟩, []⟩,
    ⟨⟨some 26, .load true 2 (.s 3), none⟩, []⟩,
    ⟨⟨some 27, .bslice 2 [(.s 26)], none⟩, []⟩,
    ⟨⟨some 28, .app 2 48 (.s 25) (.s 27), none⟩, []⟩,
    ⟨⟨some 29, .nilc (.s 10), none⟩, []⟩,
    ⟨⟨some 30, .fld 3 (.s 29), none⟩, []⟩,
    ⟨⟨none, .store 1 (.s 30) (.s 28), none⟩, []⟩])))⟩

/-- sumpter/disk.tick -/
def sf365 : SF :=
  ⟨1, 16, [.t 2],
  (.seq (.reg [⟨some 2, .mv (.c (.bool false)), none⟩])
  (.seq (.seq (.reg [⟨some 3, .mv (.s 0), none⟩,
    ⟨some 4, .nilc (.s 3), none⟩,
    ⟨some 5, .load false 1 (.s 4), none⟩,
    ⟨some 6, .int .eql (.s 5) (.c (.int .i64 (-1))), none⟩])
  (.cond (.s 6) (.seq (.reg [⟨some 2, .mv (.c (.bool false)), none⟩])
  .ret)
  .skip))
  (.seq (.reg [⟨some 7, .mv (.s 0), none⟩,
    ⟨some 8, .nilc (.s 7), none⟩,
    ⟨some 9, .load false 1 (.s 8), none⟩,
    ⟨some 10, .int .sub (.s 9) (.c (.int .i64 1)), none⟩,
    ⟨some 11, .nilc (.s 7), none⟩,
    ⟨none, .store 1 (.s 11) (.s 10), none⟩])
  (.seq (.reg [⟨some 12, .mv (.s 0), none⟩,
    ⟨some 13, .nilc (.s 12), none⟩,
    ⟨some 14, .load false 1 (.s 13), none⟩,
    ⟨some 15, .int .eql (.s 14) (.c (.int .i64 (-1))), none⟩,
    ⟨some 2, .mv (.s 15), none⟩])
  .ret))))⟩

/-- (*sumpter/disk.Disk).put$1 -/
def sf366 : SF :=
  ⟨3, 34, [],
  (.seq (.reg [⟨some 4, .load false 1 (.s 0), none⟩,
    ⟨some 5, .build [.v (.bool false), .v (.int .i64 0)] [(0, 1, (.s 4))], none⟩,
    ⟨some 6, .box none 2 (.s 5), none⟩,
    ⟨some 3, .mv (.s 6), none⟩])
  (.seq (.seq (.reg [⟨some 7, .load false 1 (.s 0), none⟩,
    ⟨some 8, .not (.s 7), none⟩])
  (.cond (.s 8) (.seq (.reg [⟨some 9, .mv (.s 3), none⟩,
    ⟨some 10, .load false 1 (.s 1), none⟩,
    ⟨some 11, .nilc (.s 10), none⟩,
    ⟨some 12, .fld 4 (.s 11), none⟩,
    ⟨some 13, .load false 1 (.s 12), none⟩,
    ⟨some 14, .len (.s 13), none⟩,
    ⟨some 15, .nilc (.s 9), none⟩,
    ⟨some 16, .fld 1 (.s 15), none⟩,
    ⟨none, .store 1 (.s 16) (.s 14), none⟩])
  (.dreg [5, 6, 0, 1, 2, 3, 4, 7, 8, 9, 10] [⟨⟨some 22, .build [.v (.slice none 0 0), .v (.int .i64 0)] [], none⟩, []⟩,
    ⟨⟨some 23, .bslice 2 [(.s 22)], none⟩, []⟩,
    ⟨⟨some 17, .load false 1 (.s 1), none⟩, []⟩,
    ⟨⟨some 18, .load false 1 (.s 1), none⟩, []⟩,
    ⟨⟨some 19, .nilc (.s 18), none⟩, []⟩,
    ⟨⟨some 20, .fld 4 (.s 19), none⟩, []⟩,
    ⟨⟨some 21, .load false 1 (.s 20), none⟩, []⟩,
    ⟨⟨some 24, .app 2 32 (.s 21) (.s 23), none⟩, [2]⟩,
    ⟨⟨some 25, .nilc (.s 17), none⟩, []⟩,
    ⟨⟨some 26, .fld 4 (.s 25), none⟩, []⟩,
    ⟨⟨none, .store 1 (.s 26) (.s 24), none⟩, []⟩]))
  .skip))
  (.reg [⟨some 27, .load false 1 (.s 1), none⟩,
    ⟨some 28, .load false 1 (.s 2), none⟩,
    ⟨some 29, .bslice 1 [(.s 28)], none⟩,
    ⟨some 30, .mv (.s 3), none⟩,
    ⟨some 31, .bslice 1 [(.s 30)], none⟩,
    ⟨some 32, .build [.v (.slice none 0 0), .v (.slice none 0 0)] [(0, 1, (.s 29)), (1, 1, (.s 31))], none⟩,
    ⟨some 33, .call 364 [(.s 27), (.s 32)], none⟩])))⟩

/-- (*sumpter/disk.Disk).with$1 -/
def sf367 : SF :=
  ⟨2, 5, [],
  (.reg [⟨some 2, .load false 1 (.s 0), none⟩,
    ⟨some 3, .load false 1 (.s 1), none⟩,
    ⟨some 4, .callv (.s 2) [(.s 3)], none⟩])⟩

/-- maps.Keys[sumpter/disk.names,string,sumpter/disk.node]$1 -/
def sf369 : SF :=
  ⟨2, 14, [],
  (.seq (.reg [⟨some 4, .load false 1 (.s 1), none⟩,
    ⟨some 5, .hop (.m .rng) [(.s 4)], none⟩])
  (.block 0 (.loop (.seq (.reg [⟨some 6, .hop (.m .nxt) [(.s 5)], none⟩,
    ⟨some 7, .ext (.s 6) 0, none⟩])
  (.seq (.cond (.s 7) .skip
  (.exit 0))
  (.block 1 (.seq (.reg [⟨some 8, .hop (.m .ent) [(.s 5)], none⟩,
    ⟨some 9, .ext (.s 8) 0, none⟩,
    ⟨some 3, .mv (.s 9), none⟩])
  (.seq (.reg [⟨some 10, .mv (.s 0), none⟩,
    ⟨some 11, .mv (.s 3), none⟩,
    ⟨some 12, .callv (.s 10) [(.s 11)], none⟩,
    ⟨some 13, .not (.s 12), none⟩])
  (.cond (.s 13) .ret
  .skip)))))))))⟩

/-- sumpter/sumpterlaw14.DiskReplaced -/
def sf376 : SF :=
  ⟨3, 105, [.t 6],
  (.seq (.reg [⟨some 5, .box (some 0) 3 (.s 2), none⟩,
    ⟨some 6, .mv (.c (.bool false)), none⟩])
  (.seq (.seq (.reg [⟨some 10, .mv (.s 0), none⟩,
    ⟨some 11, .len (.s 10), none⟩,
    ⟨some 12, .int .gtr (.s 11) (.c (.int .i64 500)), none⟩,
    ⟨some 13, .mv (.s 12), none⟩,
    ⟨some 14, .mv (.s 1), (some (13, false))⟩,
    ⟨some 15, .len (.s 14), (some (13, false))⟩,
    ⟨some 16, .int .gtr (.s 15) (.c (.int .i64 500)), (some (13, false))⟩,
    ⟨some 17, .pick (.s 13) (.c (.bool true)) (.s 16), none⟩])
  (.cond (.s 17) (.seq (.reg [⟨some 18, .call 293 [], none⟩,
    ⟨some 6, .mv (.s 18), none⟩])
  .ret)
  .skip))
  (.seq (.reg [⟨some 19, .call 294 [(.c (.int .i64 10000))], none⟩,
    ⟨some 7, .mv (.s 19), none⟩])
  (.seq (.seq (.reg [⟨some 20, .mv (.s 7), none⟩,
    ⟨some 21, .call 299 [(.s 20), (.c (.string ⟨#[97]⟩))], none⟩,
    ⟨some 22, .int .neq (.s 21) (.c (.int .i64 0)), none⟩,
    ⟨some 23, .mv (.s 22), none⟩,
    ⟨some 24, .mv (.s 7), (some (23, false))⟩,
    ⟨some 25, .mv (.s 0), (some (23, false))⟩,
    ⟨some 26, .call 302 [(.s 24), (.c (.string ⟨#[97]⟩)), (.s 25)], (some (23, false))⟩,
    ⟨some 27, .int .neq (.s 26) (.c (.int .i64 0)), (some (23, false))⟩,
    ⟨some 28, .pick (.s 23) (.c (.bool true)) (.s 27), none⟩,
    ⟨some 29, .mv (.s 28), none⟩,
    ⟨some 30, .mv (.s 7), (some (29, false))⟩,
    ⟨some 31, .call 303 [(.s 30), (.c (.string ⟨#[97]⟩))], (some (29, false))⟩,
    ⟨some 32, .int .neq (.s 31) (.c (.int .i64 0)), (some (29, false))⟩,
    ⟨some 33, .pick (.s 29) (.c (.bool true)) (.s 32), none⟩,
    ⟨some 34, .mv (.s 33), none⟩,
    ⟨some 35, .mv (.s 7), (some (34, false))⟩,
    ⟨some 36, .call 304 [(.s 35)], (some (34, false))⟩,
    ⟨some 37, .int .neq (.s 36) (.c (.int .i64 0)), (some (34, false))⟩,
    ⟨some 38, .pick (.s 34) (.c (.bool true)) (.s 37), none⟩])
  (.cond (.s 38) (.seq (.reg [⟨some 6, .mv (.c (.bool false)), none⟩])
  .ret)
  .skip))
  (.seq (.reg [⟨some 39, .mv (.s 7), none⟩,
    ⟨some 40, .aidx 3 1 (.s 5) (.c (.int .i64 0)), none⟩,
    ⟨some 41, .load false 1 (.s 40), none⟩,
    ⟨some 42, .int .rem (.s 41) (.c (.int .u8 8)), none⟩,
    ⟨some 43, .conv .i64 (.s 42), none⟩,
    ⟨some 44, .aidx 3 1 (.s 5) (.c (.int .i64 0)), none⟩,
    ⟨some 45, .load false 1 (.s 44), none⟩,
    ⟨some 46, .int .rem (.s 45) (.c (.int .u8 2)), none⟩,
    ⟨some 47, .int .eql (.s 46) (.c (.int .u8 1)), none⟩,
    ⟨some 48, .call 310 [(.s 39), (.s 43), (.s 47)], none⟩])
  (.seq (.reg [⟨some 49, .mv (.s 7), none⟩,
    ⟨some 50, .call 299 [(.s 49), (.c (.string ⟨#[116]⟩))], none⟩])
  (.seq (.reg [⟨some 51, .mv (.s 7), none⟩,
    ⟨some 52, .mv (.s 1), none⟩,
    ⟨some 53, .call 302 [(.s 51), (.c (.string ⟨#[116]⟩)), (.s 52)], none⟩])
  (.seq (.reg [⟨some 54, .mv (.s 7), none⟩,
    ⟨some 55, .call 303 [(.s 54), (.c (.string ⟨#[116]⟩))], none⟩])
  (.seq (.seq (.reg [⟨some 56, .mv (.s 7), none⟩,
    ⟨some 57, .call 305 [(.s 56), (.c (.string ⟨#[116]⟩))], none⟩,
    ⟨some 58, .mv (.s 1), none⟩,
    ⟨some 59, .len (.s 58), none⟩,
    ⟨some 60, .int .eql (.s 57) (.s 59), none⟩,
    ⟨some 61, .mv (.s 60), none⟩,
    ⟨some 62, .mv (.s 7), (some (61, true))⟩,
    ⟨some 63, .call 314 [(.s 62)], (some (61, true))⟩,
    ⟨some 64, .not (.s 63), (some (61, true))⟩,
    ⟨some 65, .pick (.s 61) (.s 64) (.c (.bool false)), none⟩])
  (.cond (.s 65) (.seq (.reg [⟨some 66, .mv (.s 7), none⟩,
    ⟨some 67, .call 309 [(.s 66), (.c (.string ⟨#[116]⟩)), (.c (.string ⟨#[97]⟩))], none⟩])
  (.reg [⟨some 68, .mv (.s 7), none⟩,
    ⟨some 69, .call 304 [(.s 68)], none⟩]))
  .skip))
  (.seq (.reg [⟨some 70, .mv (.s 7), none⟩,
    ⟨some 71, .aidx 3 1 (.s 5) (.c (.int .i64 1)), none⟩,
    ⟨some 72, .load false 1 (.s 71), none⟩,
    ⟨some 73, .int .rem (.s 72) (.c (.int .u8 5)), none⟩,
    ⟨some 74, .conv .i64 (.s 73), none⟩,
    ⟨some 75, .aidx 3 1 (.s 5) (.c (.int .i64 2)), none⟩,
    ⟨some 76, .load false 1 (.s 75), none⟩,
    ⟨some 77, .aidx 3 1 (.s 5) (.c (.int .i64 1)), none⟩,
    ⟨some 78, .load false 1 (.s 77), none⟩,
    ⟨some 79, .bslice 1 [(.s 76), (.s 78)], none⟩,
    ⟨some 80, .call 297 [(.s 70), (.s 74), (.s 79)], none⟩])
  (.seq (.reg [⟨some 82, .mv (.s 7), none⟩,
    ⟨some 83, .call 300 [(.s 82), (.c (.string ⟨#[97]⟩))], none⟩,
    ⟨some 81, .mv (.s 83), none⟩,
    ⟨some 84, .ext (.s 81) 0, none⟩,
    ⟨some 85, .ext (.s 81) 1, none⟩,
    ⟨some 8, .mv (.s 84), none⟩,
    ⟨some 9, .mv (.s 85), none⟩])
  (.seq (.reg [⟨some 86, .mv (.s 9), none⟩,
    ⟨some 87, .int .eql (.s 86) (.c (.int .i64 0)), none⟩,
    ⟨some 88, .mv (.s 87), none⟩,
    ⟨some 89, .mv (.s 8), (some (88, true))⟩,
    ⟨some 90, .nd .b2s [(.s 89)], (some (88, true))⟩,
    ⟨some 91, .mv (.s 0), (some (88, true))⟩,
    ⟨some 92, .nd .b2s [(.s 91)], (some (88, true))⟩,
    ⟨some 93, .str .eql (.s 90) (.s 92), (some (88, true))⟩,
    ⟨some 94, .mv (.s 93), (some (88, true))⟩,
    ⟨some 95, .mv (.s 8), (some (94, false))⟩,
    ⟨some 96, .nd .b2s [(.s 95)], (some (94, false))⟩,
    ⟨some 97, .mv (.s 1), (some (94, false))⟩,
    ⟨some 98, .nd .b2s [(.s 97)], (some (94, false))⟩,
    ⟨some 99, .str .eql (.s 96) (.s 98), (some (94, false))⟩,
    ⟨some 100, .pick (.s 94) (.c (.bool true)) (.s 99), (some (88, true))⟩,
    ⟨some 101, .pick (.s 88) (.s 100) (.c (.bool false)), none⟩,
    ⟨some 102, .mv (.s 101), none⟩,
    ⟨some 103, .call 293 [], (some (102, true))⟩,
    ⟨some 104, .pick (.s 102) (.s 103) (.c (.bool false)), none⟩,
    ⟨some 6, .mv (.s 104), none⟩])
  .ret))))))))))))⟩

def sfTab : List (Nat × SF) := [(90, sf90), (163, sf163), (164, sf164), (181, sf181), (182, sf182), (183, sf183), (186, sf186), (192, sf192), (195, sf195), (196, sf196), (197, sf197), (201, sf201), (202, sf202), (204, sf204), (205, sf205), (206, sf206), (210, sf210), (211, sf211), (214, sf214), (218, sf218), (219, sf219), (221, sf221), (293, sf293), (294, sf294), (297, sf297), (299, sf299), (300, sf300), (302, sf302), (303, sf303), (304, sf304), (305, sf305), (307, sf307), (309, sf309), (310, sf310), (312, sf312), (313, sf313), (314, sf314), (329, sf329), (330, sf330), (331, sf331), (332, sf332), (333, sf333), (335, sf335), (336, sf336), (339, sf339), (340, sf340), (341, sf341), (342, sf342), (343, sf343), (344, sf344), (349, sf349), (350, sf350), (351, sf351), (361, sf361), (362, sf362), (363, sf363), (364, sf364), (365, sf365), (366, sf366), (367, sf367), (369, sf369), (376, sf376)]
def code (g : Nat) : SF := (lk sfTab g).getD ⟨0, 0, [], .skip⟩

theorem code163 : code 163 = sf163 := rfl
theorem code164 : code 164 = sf164 := rfl
theorem code181 : code 181 = sf181 := rfl
theorem code182 : code 182 = sf182 := rfl
theorem code183 : code 183 = sf183 := rfl
theorem code186 : code 186 = sf186 := rfl
theorem code192 : code 192 = sf192 := rfl
theorem code195 : code 195 = sf195 := rfl
theorem code196 : code 196 = sf196 := rfl
theorem code197 : code 197 = sf197 := rfl
theorem code201 : code 201 = sf201 := rfl
theorem code202 : code 202 = sf202 := rfl
theorem code204 : code 204 = sf204 := rfl
theorem code205 : code 205 = sf205 := rfl
theorem code206 : code 206 = sf206 := rfl
theorem code210 : code 210 = sf210 := rfl
theorem code211 : code 211 = sf211 := rfl
theorem code214 : code 214 = sf214 := rfl
theorem code218 : code 218 = sf218 := rfl
theorem code219 : code 219 = sf219 := rfl
theorem code221 : code 221 = sf221 := rfl
theorem code293 : code 293 = sf293 := rfl
theorem code294 : code 294 = sf294 := rfl
theorem code297 : code 297 = sf297 := rfl
theorem code299 : code 299 = sf299 := rfl
theorem code300 : code 300 = sf300 := rfl
theorem code302 : code 302 = sf302 := rfl
theorem code303 : code 303 = sf303 := rfl
theorem code304 : code 304 = sf304 := rfl
theorem code305 : code 305 = sf305 := rfl
theorem code307 : code 307 = sf307 := rfl
theorem code309 : code 309 = sf309 := rfl
theorem code310 : code 310 = sf310 := rfl
theorem code312 : code 312 = sf312 := rfl
theorem code313 : code 313 = sf313 := rfl
theorem code314 : code 314 = sf314 := rfl
theorem code329 : code 329 = sf329 := rfl
theorem code330 : code 330 = sf330 := rfl
theorem code331 : code 331 = sf331 := rfl
theorem code332 : code 332 = sf332 := rfl
theorem code333 : code 333 = sf333 := rfl
theorem code335 : code 335 = sf335 := rfl
theorem code336 : code 336 = sf336 := rfl
theorem code339 : code 339 = sf339 := rfl
theorem code340 : code 340 = sf340 := rfl
theorem code341 : code 341 = sf341 := rfl
theorem code342 : code 342 = sf342 := rfl
theorem code343 : code 343 = sf343 := rfl
theorem code344 : code 344 = sf344 := rfl
theorem code349 : code 349 = sf349 := rfl
theorem code350 : code 350 = sf350 := rfl
theorem code351 : code 351 = sf351 := rfl
theorem code361 : code 361 = sf361 := rfl
theorem code363 : code 363 = sf363 := rfl
theorem code364 : code 364 = sf364 := rfl
theorem code365 : code 365 = sf365 := rfl
theorem code366 : code 366 = sf366 := rfl
theorem code367 : code 367 = sf367 := rfl
theorem code376 : code 376 = sf376 := rfl

end Sm
