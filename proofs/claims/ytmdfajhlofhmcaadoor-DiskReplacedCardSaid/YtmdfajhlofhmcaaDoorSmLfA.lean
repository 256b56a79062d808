/-
  A layer of one's own: texts SfA.
-/
import Derived.Test.YtmdfajhlofhmcaaDoorSmLA
set_option linter.unusedVariables false
set_option maxRecDepth 100000
namespace Sm
open Go

/-- slices.Collect[string] -/
def sf90 : SF :=
  ⟨1, 5, [.t 2],
  (.seq (.reg [⟨some 2, .mv (.c (.slice none 0 0)), none⟩])
  (.seq (.reg [⟨some 3, .mv (.s 0), none⟩,
    ⟨some 4, .dead, none⟩,
    ⟨some 2, .mv (.s 4), none⟩])
  .ret))⟩

/-- sumpter/path.Less -/
def sf163 : SF :=
  ⟨2, 11, [.t 4],
  (.seq (.reg [⟨some 4, .mv (.c (.bool false)), none⟩])
  (.seq (.reg [⟨some 5, .mv (.s 0), none⟩,
    ⟨some 6, .call 181 [(.s 5)], none⟩,
    ⟨some 7, .mv (.s 1), none⟩,
    ⟨some 8, .call 181 [(.s 7)], none⟩,
    ⟨some 9, .call 182 [(.s 6), (.s 8)], none⟩,
    ⟨some 10, .int .lss (.s 9) (.c (.int .i64 0)), none⟩,
    ⟨some 4, .mv (.s 10), none⟩])
  .ret))⟩

/-- sumpter/path.Parent -/
def sf164 : SF :=
  ⟨1, 11, [.t 2],
  (.seq (.reg [⟨some 2, .mv (.c (.string ⟨#[]⟩)), none⟩])
  (.seq (.reg [⟨some 6, .mv (.s 0), none⟩,
    ⟨some 7, .call 183 [(.s 6)], none⟩,
    ⟨some 5, .mv (.s 7), none⟩,
    ⟨some 8, .ext (.s 5) 0, none⟩,
    ⟨some 9, .ext (.s 5) 1, none⟩,
    ⟨some 3, .mv (.s 8), none⟩,
    ⟨some 4, .mv (.s 9), none⟩])
  (.seq (.reg [⟨some 10, .mv (.s 3), none⟩,
    ⟨some 2, .mv (.s 10), none⟩])
  .ret)))⟩

/-- sumpter/path.Split -/
def sf181 : SF :=
  ⟨1, 7, [.t 2],
  (.seq (.reg [⟨some 2, .mv (.c (.slice none 0 0)), none⟩])
  (.seq (.seq (.reg [⟨some 3, .mv (.s 0), none⟩,
    ⟨some 4, .str .eql (.s 3) (.c (.string ⟨#[]⟩)), none⟩])
  (.cond (.s 4) (.seq (.reg [⟨some 2, .mv (.c (.slice none 0 0)), none⟩])
  .ret)
  .skip))
  (.seq (.reg [⟨some 5, .mv (.s 0), none⟩,
    ⟨some 6, .call 195 [(.s 5), (.c (.string ⟨#[47]⟩))], none⟩,
    ⟨some 2, .mv (.s 6), none⟩])
  .ret)))⟩

/-- slices.Compare[[]string,string] -/
def sf182 : SF :=
  ⟨2, 36, [.t 4],
  (.seq (.reg [⟨some 4, .mv (.c (.int .i64 0)), none⟩])
  (.seq (.seq (.reg [⟨some 9, .mv (.s 0), none⟩,
    ⟨some 10, .len (.s 9), none⟩,
    ⟨some 11, .mv (.c (.int .i64 0)), none⟩])
  (.block 0 (.loop (.seq (.reg [⟨some 12, .int .lss (.s 11) (.s 10), none⟩])
  (.seq (.cond (.s 12) .skip
  (.exit 0))
  (.seq (.block 1 (.seq (.reg [⟨some 13, .mv (.s 11), none⟩,
    ⟨some 14, .idx 1 (.s 9) (.s 11), none⟩,
    ⟨some 15, .load false 1 (.s 14), none⟩,
    ⟨some 5, .mv (.s 13), none⟩,
    ⟨some 6, .mv (.s 15), none⟩])
  (.seq (.seq (.reg [⟨some 16, .mv (.s 5), none⟩,
    ⟨some 17, .mv (.s 1), none⟩,
    ⟨some 18, .len (.s 17), none⟩,
    ⟨some 19, .int .geq (.s 16) (.s 18), none⟩])
  (.cond (.s 19) (.seq (.reg [⟨some 4, .mv (.c (.int .i64 1)), none⟩])
  .ret)
  .skip))
  (.seq (.reg [⟨some 20, .mv (.s 1), none⟩,
    ⟨some 21, .mv (.s 5), none⟩,
    ⟨some 22, .idx 1 (.s 20) (.s 21), none⟩,
    ⟨some 23, .load false 1 (.s 22), none⟩,
    ⟨some 7, .mv (.s 23), none⟩])
  (.seq (.reg [⟨some 24, .mv (.s 6), none⟩,
    ⟨some 25, .mv (.s 7), none⟩,
    ⟨some 26, .call 196 [(.s 24), (.s 25)], none⟩,
    ⟨some 8, .mv (.s 26), none⟩])
  (.seq (.reg [⟨some 27, .mv (.s 8), none⟩,
    ⟨some 28, .int .neq (.s 27) (.c (.int .i64 0)), none⟩])
  (.cond (.s 28) (.seq (.reg [⟨some 29, .mv (.s 8), none⟩,
    ⟨some 4, .mv (.s 29), none⟩])
  .ret)
  .skip)))))))
  (.reg [⟨some 30, .int .add (.s 11) (.c (.int .i64 1)), none⟩,
    ⟨some 11, .mv (.s 30), none⟩])))))))
  (.seq (.seq (.reg [⟨some 31, .mv (.s 0), none⟩,
    ⟨some 32, .len (.s 31), none⟩,
    ⟨some 33, .mv (.s 1), none⟩,
    ⟨some 34, .len (.s 33), none⟩,
    ⟨some 35, .int .lss (.s 32) (.s 34), none⟩])
  (.cond (.s 35) (.seq (.reg [⟨some 4, .mv (.c (.int .i64 (-1))), none⟩])
  .ret)
  .skip))
  (.seq (.reg [⟨some 4, .mv (.c (.int .i64 0)), none⟩])
  .ret))))⟩

/-- sumpter/path.cut -/
def sf183 : SF :=
  ⟨1, 15, [.t 2, .t 3],
  (.seq (.reg [⟨some 2, .mv (.c (.string ⟨#[]⟩)), none⟩,
    ⟨some 3, .mv (.c (.string ⟨#[]⟩)), none⟩])
  (.seq (.reg [⟨some 5, .mv (.s 0), none⟩,
    ⟨some 6, .call 197 [(.s 5), (.c (.string ⟨#[47]⟩))], none⟩,
    ⟨some 4, .mv (.s 6), none⟩])
  (.seq (.dreg [0, 1, 2, 3, 4, 5, 6, 7, 8, 9] [⟨⟨some 7, .mv (.s 0), none⟩, []⟩,
    ⟨⟨some 8, .mv (.s 4), none⟩, []⟩,
    ⟨⟨some 9, .mm true (.s 8) (.c (.int .i64 0)), none⟩, []⟩,
    ⟨⟨some 10, .ssl (.s 7) none (some (.s 9)), none⟩, []⟩,
    ⟨⟨some 11, .mv (.s 0), none⟩, []⟩,
    ⟨⟨some 12, .mv (.s 4), none⟩, []⟩,
    ⟨⟨some 13, .int .add (.s 12) (.c (.int .i64 1)), none⟩, []⟩,
    ⟨⟨some 14, .ssl (.s 11) (some (.s 13)) none, none⟩, []⟩,
    ⟨⟨some 2, .mv (.s 10), none⟩, []⟩,
    ⟨⟨some 3, .mv (.s 14), none⟩, []⟩])
  .ret)))⟩

/-- bytes.Clone -/
def sf186 : SF :=
  ⟨1, 8, [.t 2],
  (.seq (.reg [⟨some 2, .mv (.c (.slice none 0 0)), none⟩])
  (.seq (.seq (.reg [⟨some 3, .mv (.s 0), none⟩,
    ⟨some 4, .nd (.isnil false) [(.s 3)], none⟩])
  (.cond (.s 4) (.seq (.reg [⟨some 2, .mv (.c (.slice none 0 0)), none⟩])
  .ret)
  .skip))
  (.seq (.reg [⟨some 5, .bslice 1 [], none⟩,
    ⟨some 6, .mv (.s 0), none⟩,
    ⟨some 7, .app 1 1 (.s 5) (.s 6), none⟩,
    ⟨some 2, .mv (.s 7), none⟩])
  .ret)))⟩

/-- sumpter/path.Check -/
def sf192 : SF :=
  ⟨1, 19, [.t 2],
  (.seq (.reg [⟨some 2, .mv (.c (.int .i64 0)), none⟩])
  (.seq (.seq (.reg [⟨some 4, .mv (.s 0), none⟩,
    ⟨some 5, .slen (.s 4), none⟩,
    ⟨some 6, .int .gtr (.s 5) (.c (.int .i64 128)), none⟩])
  (.cond (.s 6) (.seq (.reg [⟨some 2, .mv (.c (.int .i64 5)), none⟩])
  .ret)
  .skip))
  (.seq (.reg [⟨some 7, .mv (.s 0), none⟩,
    ⟨some 8, .call 181 [(.s 7)], none⟩,
    ⟨some 3, .mv (.s 8), none⟩])
  (.seq (.seq (.reg [⟨some 9, .mv (.s 3), none⟩,
    ⟨some 10, .len (.s 9), none⟩,
    ⟨some 11, .int .eql (.s 10) (.c (.int .i64 0)), none⟩,
    ⟨some 12, .mv (.s 11), none⟩,
    ⟨some 13, .mv (.s 3), (some (12, false))⟩,
    ⟨some 14, .call 201 [(.s 13), (.f 202)], (some (12, false))⟩,
    ⟨some 15, .pick (.s 12) (.c (.bool true)) (.s 14), none⟩])
  (.cond (.s 15) (.seq (.reg [⟨some 2, .mv (.c (.int .i64 6)), none⟩])
  .ret)
  .skip))
  (.seq (.seq (.reg [⟨some 16, .mv (.s 3), none⟩,
    ⟨some 17, .len (.s 16), none⟩,
    ⟨some 18, .int .gtr (.s 17) (.c (.int .i64 8)), none⟩])
  (.cond (.s 18) (.seq (.reg [⟨some 2, .mv (.c (.int .i64 5)), none⟩])
  .ret)
  .skip))
  (.seq (.reg [⟨some 2, .mv (.c (.int .i64 0)), none⟩])
  .ret))))))⟩

/-- strings.Split -/
def sf195 : SF :=
  ⟨2, 8, [.t 4],
  (.seq (.reg [⟨some 4, .mv (.c (.slice none 0 0)), none⟩])
  (.seq (.reg [⟨some 5, .mv (.s 0), none⟩,
    ⟨some 6, .mv (.s 1), none⟩,
    ⟨some 7, .call 204 [(.s 5), (.s 6), (.c (.int .i64 0)), (.c (.int .i64 (-1)))], none⟩,
    ⟨some 4, .mv (.s 7), none⟩])
  .ret))⟩

/-- cmp.Compare[string] -/
def sf196 : SF :=
  ⟨2, 20, [.t 4],
  (.seq (.reg [⟨some 4, .mv (.c (.int .i64 0)), none⟩])
  (.seq (.reg [⟨some 7, .mv (.s 0), none⟩,
    ⟨some 8, .call 205 [(.s 7)], none⟩,
    ⟨some 5, .mv (.s 8), none⟩])
  (.seq (.reg [⟨some 9, .mv (.s 1), none⟩,
    ⟨some 10, .call 205 [(.s 9)], none⟩,
    ⟨some 6, .mv (.s 10), none⟩])
  (.seq (.seq (.reg [⟨some 11, .mv (.s 5), none⟩])
  (.cond (.s 11) (.seq (.seq (.reg [⟨some 12, .mv (.s 6), none⟩])
  (.cond (.s 12) (.seq (.reg [⟨some 4, .mv (.c (.int .i64 0)), none⟩])
  .ret)
  .skip))
  (.seq (.reg [⟨some 4, .mv (.c (.int .i64 (-1))), none⟩])
  .ret))
  .skip))
  (.seq (.seq (.reg [⟨some 13, .mv (.s 6), none⟩])
  (.cond (.s 13) (.seq (.reg [⟨some 4, .mv (.c (.int .i64 1)), none⟩])
  .ret)
  .skip))
  (.seq (.seq (.reg [⟨some 14, .mv (.s 0), none⟩,
    ⟨some 15, .mv (.s 1), none⟩,
    ⟨some 16, .str .lss (.s 14) (.s 15), none⟩])
  (.cond (.s 16) (.seq (.reg [⟨some 4, .mv (.c (.int .i64 (-1))), none⟩])
  .ret)
  .skip))
  (.seq (.seq (.reg [⟨some 17, .mv (.s 0), none⟩,
    ⟨some 18, .mv (.s 1), none⟩,
    ⟨some 19, .str .gtr (.s 17) (.s 18), none⟩])
  (.cond (.s 19) (.seq (.reg [⟨some 4, .mv (.c (.int .i64 1)), none⟩])
  .ret)
  .skip))
  (.seq (.reg [⟨some 4, .mv (.c (.int .i64 0)), none⟩])
  .ret))))))))⟩

/-- strings.LastIndex -/
def sf197 : SF :=
  ⟨2, 36, [.t 4],
  (.seq (.reg [⟨some 4, .mv (.c (.int .i64 0)), none⟩])
  (.seq (.reg [⟨some 6, .mv (.s 1), none⟩,
    ⟨some 7, .slen (.s 6), none⟩,
    ⟨some 5, .mv (.s 7), none⟩])
  (.seq (.block 0 (.seq (.reg [⟨some 9, .mv (.s 5), none⟩,
    ⟨some 10, .int .eql (.s 9) (.c (.int .i64 0)), none⟩,
    ⟨some 8, .mv (.s 10), none⟩])
  (.cond (.s 8) (.seq (.reg [⟨some 11, .mv (.s 0), none⟩,
    ⟨some 12, .slen (.s 11), none⟩,
    ⟨some 4, .mv (.s 12), none⟩])
  .ret)
  (.seq (.reg [⟨some 14, .mv (.s 5), none⟩,
    ⟨some 15, .int .eql (.s 14) (.c (.int .i64 1)), none⟩,
    ⟨some 13, .mv (.s 15), none⟩])
  (.cond (.s 13) (.seq (.reg [⟨some 16, .mv (.s 0), none⟩,
    ⟨some 17, .mv (.s 1), none⟩,
    ⟨some 18, .sidx (.s 17) (.c (.int .i64 0)), none⟩,
    ⟨some 19, .call 206 [(.s 16), (.s 18)], none⟩,
    ⟨some 4, .mv (.s 19), none⟩])
  .ret)
  (.seq (.reg [⟨some 21, .mv (.s 5), none⟩,
    ⟨some 22, .mv (.s 0), none⟩,
    ⟨some 23, .slen (.s 22), none⟩,
    ⟨some 24, .int .eql (.s 21) (.s 23), none⟩,
    ⟨some 20, .mv (.s 24), none⟩])
  (.cond (.s 20) (.seq (.seq (.reg [⟨some 25, .mv (.s 1), none⟩,
    ⟨some 26, .mv (.s 0), none⟩,
    ⟨some 27, .str .eql (.s 25) (.s 26), none⟩])
  (.cond (.s 27) (.seq (.reg [⟨some 4, .mv (.c (.int .i64 0)), none⟩])
  .ret)
  .skip))
  (.seq (.reg [⟨some 4, .mv (.c (.int .i64 (-1))), none⟩])
  .ret))
  (.seq (.reg [⟨some 29, .mv (.s 5), none⟩,
    ⟨some 30, .mv (.s 0), none⟩,
    ⟨some 31, .slen (.s 30), none⟩,
    ⟨some 32, .int .gtr (.s 29) (.s 31), none⟩,
    ⟨some 28, .mv (.s 32), none⟩])
  (.cond (.s 28) (.seq (.reg [⟨some 4, .mv (.c (.int .i64 (-1))), none⟩])
  .ret)
  .skip)))))))))
  (.seq (.reg [⟨some 33, .mv (.s 0), none⟩,
    ⟨some 34, .mv (.s 1), none⟩,
    ⟨some 35, .dead, none⟩,
    ⟨some 4, .mv (.s 35), none⟩])
  .ret))))⟩

/-- slices.ContainsFunc[[]string,string] -/
def sf201 : SF :=
  ⟨2, 9, [.t 4],
  (.seq (.reg [⟨some 4, .mv (.c (.bool false)), none⟩])
  (.seq (.reg [⟨some 5, .mv (.s 0), none⟩,
    ⟨some 6, .mv (.s 1), none⟩,
    ⟨some 7, .call 210 [(.s 5), (.s 6)], none⟩,
    ⟨some 8, .int .geq (.s 7) (.c (.int .i64 0)), none⟩,
    ⟨some 4, .mv (.s 8), none⟩])
  .ret))⟩

/-- sumpter/path.Check$1 -/
def sf202 : SF :=
  ⟨1, 6, [.t 2],
  (.seq (.reg [⟨some 2, .mv (.c (.bool false)), none⟩])
  (.seq (.reg [⟨some 3, .mv (.s 0), none⟩,
    ⟨some 4, .call 211 [(.s 3)], none⟩,
    ⟨some 5, .not (.s 4), none⟩,
    ⟨some 2, .mv (.s 5), none⟩])
  .ret))⟩

/-- strings.genSplit -/
def sf204 : SF :=
  ⟨4, 66, [.t 8],
  (.seq (.reg [⟨some 8, .mv (.c (.slice none 0 0)), none⟩])
  (.seq (.seq (.reg [⟨some 12, .mv (.s 3), none⟩,
    ⟨some 13, .int .eql (.s 12) (.c (.int .i64 0)), none⟩])
  (.cond (.s 13) (.seq (.reg [⟨some 8, .mv (.c (.slice none 0 0)), none⟩])
  .ret)
  .skip))
  (.seq (.seq (.reg [⟨some 14, .mv (.s 1), none⟩,
    ⟨some 15, .str .eql (.s 14) (.c (.string ⟨#[]⟩)), none⟩])
  (.cond (.s 15) (.seq (.reg [⟨some 16, .mv (.s 0), none⟩,
    ⟨some 17, .mv (.s 3), none⟩,
    ⟨some 18, .dead, none⟩,
    ⟨some 8, .mv (.s 18), none⟩])
  .ret)
  .skip))
  (.seq (.seq (.reg [⟨some 19, .mv (.s 3), none⟩,
    ⟨some 20, .int .lss (.s 19) (.c (.int .i64 0)), none⟩])
  (.cond (.s 20) (.reg [⟨some 21, .mv (.s 0), none⟩,
    ⟨some 22, .mv (.s 1), none⟩,
    ⟨some 23, .call 214 [(.s 21), (.s 22)], none⟩,
    ⟨some 24, .int .add (.s 23) (.c (.int .i64 1)), none⟩,
    ⟨some 3, .mv (.s 24), none⟩])
  .skip))
  (.seq (.reg [⟨some 25, .mv (.s 3), none⟩,
    ⟨some 26, .mv (.s 0), none⟩,
    ⟨some 27, .slen (.s 26), none⟩,
    ⟨some 28, .int .add (.s 27) (.c (.int .i64 1)), none⟩,
    ⟨some 29, .mm false (.s 25) (.s 28), none⟩,
    ⟨some 3, .mv (.s 29), none⟩])
  (.seq (.reg [⟨some 30, .mv (.s 3), none⟩,
    ⟨some 31, .hop (.mks 1 16 [.v (.string ⟨#[]⟩)]) [(.s 30), (.s 30)], none⟩,
    ⟨some 9, .mv (.s 31), none⟩])
  (.seq (.reg [⟨some 32, .mv (.s 3), none⟩,
    ⟨some 33, .int .sub (.s 32) (.c (.int .i64 1)), none⟩,
    ⟨some 3, .mv (.s 33), none⟩])
  (.seq (.reg [⟨some 10, .mv (.c (.int .i64 0)), none⟩])
  (.seq (.block 0 (.loop (.seq (.seq (.reg [⟨some 34, .mv (.s 10), none⟩,
    ⟨some 35, .mv (.s 3), none⟩,
    ⟨some 36, .int .lss (.s 34) (.s 35), none⟩])
  (.cond (.s 36) .skip
  (.exit 0)))
  (.block 1 (.seq (.reg [⟨some 37, .mv (.s 0), none⟩,
    ⟨some 38, .mv (.s 1), none⟩,
    ⟨some 39, .call 218 [(.s 37), (.s 38)], none⟩,
    ⟨some 11, .mv (.s 39), none⟩])
  (.seq (.seq (.reg [⟨some 40, .mv (.s 11), none⟩,
    ⟨some 41, .int .lss (.s 40) (.c (.int .i64 0)), none⟩])
  (.cond (.s 41) (.exit 0)
  .skip))
  (.seq (.reg [⟨some 42, .mv (.s 9), none⟩,
    ⟨some 43, .mv (.s 10), none⟩,
    ⟨some 44, .mv (.s 0), none⟩,
    ⟨some 45, .mv (.s 11), none⟩,
    ⟨some 46, .mv (.s 2), none⟩,
    ⟨some 47, .int .add (.s 45) (.s 46), none⟩,
    ⟨some 48, .ssl (.s 44) none (some (.s 47)), none⟩,
    ⟨some 49, .idx 1 (.s 42) (.s 43), none⟩,
    ⟨none, .store 1 (.s 49) (.s 48), none⟩])
  (.seq (.reg [⟨some 50, .mv (.s 0), none⟩,
    ⟨some 51, .mv (.s 11), none⟩,
    ⟨some 52, .mv (.s 1), none⟩,
    ⟨some 53, .slen (.s 52), none⟩,
    ⟨some 54, .int .add (.s 51) (.s 53), none⟩,
    ⟨some 55, .ssl (.s 50) (some (.s 54)) none, none⟩,
    ⟨some 0, .mv (.s 55), none⟩])
  (.reg [⟨some 56, .mv (.s 10), none⟩,
    ⟨some 57, .int .add (.s 56) (.c (.int .i64 1)), none⟩,
    ⟨some 10, .mv (.s 57), none⟩])))))))))
  (.seq (.reg [⟨some 58, .mv (.s 9), none⟩,
    ⟨some 59, .mv (.s 10), none⟩,
    ⟨some 60, .mv (.s 0), none⟩,
    ⟨some 61, .idx 1 (.s 58) (.s 59), none⟩,
    ⟨none, .store 1 (.s 61) (.s 60), none⟩])
  (.seq (.reg [⟨some 62, .mv (.s 9), none⟩,
    ⟨some 63, .mv (.s 10), none⟩,
    ⟨some 64, .int .add (.s 63) (.c (.int .i64 1)), none⟩,
    ⟨some 65, .slc 1 (.s 62) none (some (.s 64)) none, none⟩,
    ⟨some 8, .mv (.s 65), none⟩])
  .ret)))))))))))⟩

/-- cmp.isNaN[string] -/
def sf205 : SF :=
  ⟨1, 6, [.t 2],
  (.seq (.reg [⟨some 2, .mv (.c (.bool false)), none⟩])
  (.seq (.reg [⟨some 3, .mv (.s 0), none⟩,
    ⟨some 4, .mv (.s 0), none⟩,
    ⟨some 5, .str .neq (.s 3) (.s 4), none⟩,
    ⟨some 2, .mv (.s 5), none⟩])
  .ret))⟩

/-- internal/bytealg.LastIndexByteString -/
def sf206 : SF :=
  ⟨2, 19, [.t 4],
  (.seq (.reg [⟨some 4, .mv (.c (.int .i64 0)), none⟩])
  (.seq (.seq (.reg [⟨some 6, .mv (.s 0), none⟩,
    ⟨some 7, .slen (.s 6), none⟩,
    ⟨some 8, .int .sub (.s 7) (.c (.int .i64 1)), none⟩,
    ⟨some 5, .mv (.s 8), none⟩])
  (.block 0 (.loop (.seq (.seq (.reg [⟨some 9, .mv (.s 5), none⟩,
    ⟨some 10, .int .geq (.s 9) (.c (.int .i64 0)), none⟩])
  (.cond (.s 10) .skip
  (.exit 0)))
  (.seq (.block 1 (.seq (.reg [⟨some 13, .mv (.s 0), none⟩,
    ⟨some 14, .mv (.s 5), none⟩,
    ⟨some 15, .sidx (.s 13) (.s 14), none⟩,
    ⟨some 16, .mv (.s 1), none⟩,
    ⟨some 17, .int .eql (.s 15) (.s 16), none⟩])
  (.cond (.s 17) (.seq (.reg [⟨some 18, .mv (.s 5), none⟩,
    ⟨some 4, .mv (.s 18), none⟩])
  .ret)
  .skip)))
  (.reg [⟨some 11, .mv (.s 5), none⟩,
    ⟨some 12, .int .sub (.s 11) (.c (.int .i64 1)), none⟩,
    ⟨some 5, .mv (.s 12), none⟩]))))))
  (.seq (.reg [⟨some 4, .mv (.c (.int .i64 (-1))), none⟩])
  .ret)))⟩

/-- slices.IndexFunc[[]string,string] -/
def sf210 : SF :=
  ⟨2, 19, [.t 4],
  (.seq (.reg [⟨some 4, .mv (.c (.int .i64 0)), none⟩])
  (.seq (.seq (.reg [⟨some 6, .mv (.s 0), none⟩,
    ⟨some 7, .len (.s 6), none⟩,
    ⟨some 8, .mv (.c (.int .i64 0)), none⟩])
  (.block 0 (.loop (.seq (.reg [⟨some 9, .int .lss (.s 8) (.s 7), none⟩])
  (.seq (.cond (.s 9) .skip
  (.exit 0))
  (.seq (.block 1 (.seq (.reg [⟨some 10, .mv (.s 8), none⟩,
    ⟨some 5, .mv (.s 10), none⟩])
  (.seq (.reg [⟨some 11, .mv (.s 1), none⟩,
    ⟨some 12, .mv (.s 0), none⟩,
    ⟨some 13, .mv (.s 5), none⟩,
    ⟨some 14, .idx 1 (.s 12) (.s 13), none⟩,
    ⟨some 15, .load false 1 (.s 14), none⟩,
    ⟨some 16, .callv (.s 11) [(.s 15)], none⟩])
  (.cond (.s 16) (.seq (.reg [⟨some 17, .mv (.s 5), none⟩,
    ⟨some 4, .mv (.s 17), none⟩])
  .ret)
  .skip))))
  (.reg [⟨some 18, .int .add (.s 8) (.c (.int .i64 1)), none⟩,
    ⟨some 8, .mv (.s 18), none⟩])))))))
  (.seq (.reg [⟨some 4, .mv (.c (.int .i64 (-1))), none⟩])
  .ret)))⟩

/-- sumpter/path.Name -/
def sf211 : SF :=
  ⟨1, 39, [.t 2],
  (.seq (.reg [⟨some 2, .mv (.c (.bool false)), none⟩])
  (.seq (.seq (.reg [⟨some 5, .mv (.s 0), none⟩,
    ⟨some 6, .str .eql (.s 5) (.c (.string ⟨#[]⟩)), none⟩,
    ⟨some 7, .mv (.s 6), none⟩,
    ⟨some 8, .mv (.s 0), (some (7, false))⟩,
    ⟨some 9, .slen (.s 8), (some (7, false))⟩,
    ⟨some 10, .int .gtr (.s 9) (.c (.int .i64 32)), (some (7, false))⟩,
    ⟨some 11, .pick (.s 7) (.c (.bool true)) (.s 10), none⟩,
    ⟨some 12, .mv (.s 11), none⟩,
    ⟨some 13, .mv (.s 0), (some (12, false))⟩,
    ⟨some 14, .str .eql (.s 13) (.c (.string ⟨#[46]⟩)), (some (12, false))⟩,
    ⟨some 15, .pick (.s 12) (.c (.bool true)) (.s 14), none⟩,
    ⟨some 16, .mv (.s 15), none⟩,
    ⟨some 17, .mv (.s 0), (some (16, false))⟩,
    ⟨some 18, .str .eql (.s 17) (.c (.string ⟨#[46, 46]⟩)), (some (16, false))⟩,
    ⟨some 19, .pick (.s 16) (.c (.bool true)) (.s 18), none⟩])
  (.cond (.s 19) (.seq (.reg [⟨some 2, .mv (.c (.bool false)), none⟩])
  .ret)
  .skip))
  (.seq (.seq (.reg [⟨some 20, .mv (.s 0), none⟩,
    ⟨some 21, .slen (.s 20), none⟩,
    ⟨some 22, .mv (.c (.int .i64 0)), none⟩])
  (.block 0 (.loop (.seq (.reg [⟨some 23, .int .lss (.s 22) (.s 21), none⟩])
  (.seq (.cond (.s 23) .skip
  (.exit 0))
  (.seq (.block 1 (.seq (.reg [⟨some 24, .mv (.s 22), none⟩,
    ⟨some 3, .mv (.s 24), none⟩])
  (.seq (.reg [⟨some 25, .mv (.s 0), none⟩,
    ⟨some 26, .mv (.s 3), none⟩,
    ⟨some 27, .sidx (.s 25) (.s 26), none⟩,
    ⟨some 4, .mv (.s 27), none⟩])
  (.seq (.reg [⟨some 28, .mv (.s 4), none⟩,
    ⟨some 29, .int .eql (.s 28) (.c (.int .u8 47)), none⟩,
    ⟨some 30, .mv (.s 29), none⟩,
    ⟨some 31, .mv (.s 4), (some (30, false))⟩,
    ⟨some 32, .int .leq (.s 31) (.c (.int .u8 32)), (some (30, false))⟩,
    ⟨some 33, .pick (.s 30) (.c (.bool true)) (.s 32), none⟩,
    ⟨some 34, .mv (.s 33), none⟩,
    ⟨some 35, .mv (.s 4), (some (34, false))⟩,
    ⟨some 36, .int .gtr (.s 35) (.c (.int .u8 126)), (some (34, false))⟩,
    ⟨some 37, .pick (.s 34) (.c (.bool true)) (.s 36), none⟩])
  (.cond (.s 37) (.seq (.reg [⟨some 2, .mv (.c (.bool false)), none⟩])
  .ret)
  .skip)))))
  (.reg [⟨some 38, .int .add (.s 22) (.c (.int .i64 1)), none⟩,
    ⟨some 22, .mv (.s 38), none⟩])))))))
  (.seq (.reg [⟨some 2, .mv (.c (.bool true)), none⟩])
  .ret))))⟩

/-- strings.Count -/
def sf214 : SF :=
  ⟨2, 34, [.t 4],
  (.seq (.reg [⟨some 4, .mv (.c (.int .i64 0)), none⟩])
  (.seq (.seq (.reg [⟨some 7, .mv (.s 1), none⟩,
    ⟨some 8, .slen (.s 7), none⟩,
    ⟨some 9, .int .eql (.s 8) (.c (.int .i64 0)), none⟩])
  (.cond (.s 9) (.seq (.reg [⟨some 10, .mv (.s 0), none⟩,
    ⟨some 11, .dead, none⟩,
    ⟨some 12, .int .add (.s 11) (.c (.int .i64 1)), none⟩,
    ⟨some 4, .mv (.s 12), none⟩])
  .ret)
  .skip))
  (.seq (.seq (.reg [⟨some 13, .mv (.s 1), none⟩,
    ⟨some 14, .slen (.s 13), none⟩,
    ⟨some 15, .int .eql (.s 14) (.c (.int .i64 1)), none⟩])
  (.cond (.s 15) (.seq (.reg [⟨some 16, .mv (.s 0), none⟩,
    ⟨some 17, .mv (.s 1), none⟩,
    ⟨some 18, .sidx (.s 17) (.c (.int .i64 0)), none⟩,
    ⟨some 19, .nd .cntb [(.s 16), (.s 18)], none⟩,
    ⟨some 4, .mv (.s 19), none⟩])
  .ret)
  .skip))
  (.seq (.reg [⟨some 5, .mv (.c (.int .i64 0)), none⟩])
  (.block 0 (.loop (.block 1 (.seq (.reg [⟨some 20, .mv (.s 0), none⟩,
    ⟨some 21, .mv (.s 1), none⟩,
    ⟨some 22, .call 218 [(.s 20), (.s 21)], none⟩,
    ⟨some 6, .mv (.s 22), none⟩])
  (.seq (.seq (.reg [⟨some 23, .mv (.s 6), none⟩,
    ⟨some 24, .int .eql (.s 23) (.c (.int .i64 (-1))), none⟩])
  (.cond (.s 24) (.seq (.reg [⟨some 25, .mv (.s 5), none⟩,
    ⟨some 4, .mv (.s 25), none⟩])
  .ret)
  .skip))
  (.seq (.reg [⟨some 26, .mv (.s 5), none⟩,
    ⟨some 27, .int .add (.s 26) (.c (.int .i64 1)), none⟩,
    ⟨some 5, .mv (.s 27), none⟩])
  (.reg [⟨some 28, .mv (.s 0), none⟩,
    ⟨some 29, .mv (.s 6), none⟩,
    ⟨some 30, .mv (.s 1), none⟩,
    ⟨some 31, .slen (.s 30), none⟩,
    ⟨some 32, .int .add (.s 29) (.s 31), none⟩,
    ⟨some 33, .ssl (.s 28) (some (.s 32)) none, none⟩,
    ⟨some 0, .mv (.s 33), none⟩])))))))))))⟩

/-- strings.Index -/
def sf218 : SF :=
  ⟨2, 8, [.t 4],
  (.seq (.reg [⟨some 4, .mv (.c (.int .i64 0)), none⟩])
  (.seq (.reg [⟨some 5, .mv (.s 0), none⟩,
    ⟨some 6, .mv (.s 1), none⟩,
    ⟨some 7, .call 219 [(.s 5), (.s 6)], none⟩,
    ⟨some 4, .mv (.s 7), none⟩])
  .ret))⟩

/-- internal/stringslite.Index -/
def sf219 : SF :=
  ⟨2, 143, [.t 4],
  (.seq (.reg [⟨some 4, .mv (.c (.int .i64 0)), none⟩])
  (.seq (.reg [⟨some 14, .mv (.s 1), none⟩,
    ⟨some 15, .slen (.s 14), none⟩,
    ⟨some 5, .mv (.s 15), none⟩])
  (.seq (.block 0 (.seq (.reg [⟨some 17, .mv (.s 5), none⟩,
    ⟨some 18, .int .eql (.s 17) (.c (.int .i64 0)), none⟩,
    ⟨some 19, .mv (.s 18), none⟩,
    ⟨some 20, .mv (.s 1), (some (19, false))⟩,
    ⟨some 21, .mv (.s 0), (some (19, false))⟩,
    ⟨some 22, .str .eql (.s 20) (.s 21), (some (19, false))⟩,
    ⟨some 23, .pick (.s 19) (.c (.bool true)) (.s 22), none⟩,
    ⟨some 16, .mv (.s 23), none⟩])
  (.cond (.s 16) (.seq (.reg [⟨some 4, .mv (.c (.int .i64 0)), none⟩])
  .ret)
  (.seq (.reg [⟨some 25, .mv (.s 5), none⟩,
    ⟨some 26, .int .eql (.s 25) (.c (.int .i64 1)), none⟩,
    ⟨some 24, .mv (.s 26), none⟩])
  (.cond (.s 24) (.seq (.reg [⟨some 27, .mv (.s 0), none⟩,
    ⟨some 28, .mv (.s 1), none⟩,
    ⟨some 29, .sidx (.s 28) (.c (.int .i64 0)), none⟩,
    ⟨some 30, .call 221 [(.s 27), (.s 29)], none⟩,
    ⟨some 4, .mv (.s 30), none⟩])
  .ret)
  (.seq (.reg [⟨some 32, .mv (.s 5), none⟩,
    ⟨some 33, .mv (.s 0), none⟩,
    ⟨some 34, .slen (.s 33), none⟩,
    ⟨some 35, .int .geq (.s 32) (.s 34), none⟩,
    ⟨some 31, .mv (.s 35), none⟩])
  (.cond (.s 31) (.seq (.reg [⟨some 4, .mv (.c (.int .i64 (-1))), none⟩])
  .ret)
  (.seq (.reg [⟨some 37, .mv (.s 5), none⟩,
    ⟨some 38, .dead, none⟩,
    ⟨some 39, .int .leq (.s 37) (.s 38), none⟩,
    ⟨some 40, .mv (.s 39), none⟩,
    ⟨some 41, .mv (.s 0), (some (40, true))⟩,
    ⟨some 42, .slen (.s 41), (some (40, true))⟩,
    ⟨some 43, .int .leq (.s 42) (.c (.int .i64 64)), (some (40, true))⟩,
    ⟨some 44, .pick (.s 40) (.s 43) (.c (.bool false)), none⟩,
    ⟨some 36, .mv (.s 44), none⟩])
  (.cond (.s 36) (.seq (.reg [⟨some 45, .mv (.s 0), none⟩,
    ⟨some 46, .mv (.s 1), none⟩,
    ⟨some 47, .dead, none⟩,
    ⟨some 4, .mv (.s 47), none⟩])
  .ret)
  .skip)))))))))
  (.seq (.reg [⟨some 48, .mv (.s 1), none⟩,
    ⟨some 49, .sidx (.s 48) (.c (.int .i64 0)), none⟩,
    ⟨some 6, .mv (.s 49), none⟩])
  (.seq (.reg [⟨some 50, .mv (.s 1), none⟩,
    ⟨some 51, .sidx (.s 50) (.c (.int .i64 1)), none⟩,
    ⟨some 7, .mv (.s 51), none⟩])
  (.seq (.reg [⟨some 8, .mv (.c (.int .i64 0)), none⟩])
  (.seq (.reg [⟨some 52, .mv (.s 0), none⟩,
    ⟨some 53, .slen (.s 52), none⟩,
    ⟨some 54, .mv (.s 5), none⟩,
    ⟨some 55, .int .sub (.s 53) (.s 54), none⟩,
    ⟨some 56, .int .add (.s 55) (.c (.int .i64 1)), none⟩,
    ⟨some 9, .mv (.s 56), none⟩])
  (.seq (.reg [⟨some 10, .mv (.c (.int .i64 0)), none⟩])
  (.seq (.block 1 (.loop (.seq (.seq (.reg [⟨some 57, .mv (.s 8), none⟩,
    ⟨some 58, .mv (.s 9), none⟩,
    ⟨some 59, .int .lss (.s 57) (.s 58), none⟩])
  (.cond (.s 59) .skip
  (.exit 1)))
  (.block 2 (.seq (.seq (.reg [⟨some 60, .mv (.s 0), none⟩,
    ⟨some 61, .mv (.s 8), none⟩,
    ⟨some 62, .sidx (.s 60) (.s 61), none⟩,
    ⟨some 63, .mv (.s 6), none⟩,
    ⟨some 64, .int .neq (.s 62) (.s 63), none⟩])
  (.cond (.s 64) (.seq (.reg [⟨some 65, .mv (.s 0), none⟩,
    ⟨some 66, .mv (.s 8), none⟩,
    ⟨some 67, .int .add (.s 66) (.c (.int .i64 1)), none⟩,
    ⟨some 68, .mv (.s 9), none⟩,
    ⟨some 69, .ssl (.s 65) (some (.s 67)) (some (.s 68)), none⟩,
    ⟨some 70, .mv (.s 6), none⟩,
    ⟨some 71, .call 221 [(.s 69), (.s 70)], none⟩,
    ⟨some 11, .mv (.s 71), none⟩])
  (.seq (.seq (.reg [⟨some 72, .mv (.s 11), none⟩,
    ⟨some 73, .int .lss (.s 72) (.c (.int .i64 0)), none⟩])
  (.cond (.s 73) (.seq (.reg [⟨some 4, .mv (.c (.int .i64 (-1))), none⟩])
  .ret)
  .skip))
  (.reg [⟨some 74, .mv (.s 8), none⟩,
    ⟨some 75, .mv (.s 11), none⟩,
    ⟨some 76, .int .add (.s 75) (.c (.int .i64 1)), none⟩,
    ⟨some 77, .int .add (.s 74) (.s 76), none⟩,
    ⟨some 8, .mv (.s 77), none⟩])))
  .skip))
  (.seq (.seq (.reg [⟨some 78, .mv (.s 0), none⟩,
    ⟨some 79, .mv (.s 8), none⟩,
    ⟨some 80, .int .add (.s 79) (.c (.int .i64 1)), none⟩,
    ⟨some 81, .sidx (.s 78) (.s 80), none⟩,
    ⟨some 82, .mv (.s 7), none⟩,
    ⟨some 83, .int .eql (.s 81) (.s 82), none⟩,
    ⟨some 84, .mv (.s 83), none⟩,
    ⟨some 85, .mv (.s 0), (some (84, true))⟩,
    ⟨some 86, .mv (.s 8), (some (84, true))⟩,
    ⟨some 87, .mv (.s 8), (some (84, true))⟩,
    ⟨some 88, .mv (.s 5), (some (84, true))⟩,
    ⟨some 89, .int .add (.s 87) (.s 88), (some (84, true))⟩,
    ⟨some 90, .ssl (.s 85) (some (.s 86)) (some (.s 89)), (some (84, true))⟩,
    ⟨some 91, .mv (.s 1), (some (84, true))⟩,
    ⟨some 92, .str .eql (.s 90) (.s 91), (some (84, true))⟩,
    ⟨some 93, .pick (.s 84) (.s 92) (.c (.bool false)), none⟩])
  (.cond (.s 93) (.seq (.reg [⟨some 94, .mv (.s 8), none⟩,
    ⟨some 4, .mv (.s 94), none⟩])
  .ret)
  .skip))
  (.seq (.reg [⟨some 95, .mv (.s 8), none⟩,
    ⟨some 96, .int .add (.s 95) (.c (.int .i64 1)), none⟩,
    ⟨some 8, .mv (.s 96), none⟩])
  (.seq (.reg [⟨some 97, .mv (.s 10), none⟩,
    ⟨some 98, .int .add (.s 97) (.c (.int .i64 1)), none⟩,
    ⟨some 10, .mv (.s 98), none⟩])
  (.seq (.reg [⟨some 99, .mv (.s 5), none⟩,
    ⟨some 100, .dead, none⟩,
    ⟨some 101, .int .leq (.s 99) (.s 100), none⟩,
    ⟨some 102, .mv (.s 101), none⟩,
    ⟨some 103, .mv (.s 10), (some (102, true))⟩,
    ⟨some 104, .mv (.s 8), (some (102, true))⟩,
    ⟨some 105, .dead, (some (102, true))⟩,
    ⟨some 106, .int .gtr (.s 103) (.s 105), (some (102, true))⟩,
    ⟨some 107, .pick (.s 102) (.s 106) (.c (.bool false)), none⟩])
  (.cond (.s 107) (.seq (.reg [⟨some 108, .mv (.s 0), none⟩,
    ⟨some 109, .mv (.s 8), none⟩,
    ⟨some 110, .ssl (.s 108) (some (.s 109)) none, none⟩,
    ⟨some 111, .mv (.s 1), none⟩,
    ⟨some 112, .dead, none⟩,
    ⟨some 12, .mv (.s 112), none⟩])
  (.seq (.seq (.reg [⟨some 113, .mv (.s 12), none⟩,
    ⟨some 114, .int .geq (.s 113) (.c (.int .i64 0)), none⟩])
  (.cond (.s 114) (.seq (.reg [⟨some 115, .mv (.s 12), none⟩,
    ⟨some 116, .mv (.s 8), none⟩,
    ⟨some 117, .int .add (.s 115) (.s 116), none⟩,
    ⟨some 4, .mv (.s 117), none⟩])
  .ret)
  .skip))
  (.seq (.reg [⟨some 4, .mv (.c (.int .i64 (-1))), none⟩])
  .ret)))
  (.seq (.reg [⟨some 118, .mv (.s 5), none⟩,
    ⟨some 119, .dead, none⟩,
    ⟨some 120, .int .gtr (.s 118) (.s 119), none⟩,
    ⟨some 121, .mv (.s 120), none⟩,
    ⟨some 122, .mv (.s 10), (some (121, true))⟩,
    ⟨some 123, .mv (.s 8), (some (121, true))⟩,
    ⟨some 124, .int .shr (.s 123) (.c (.int .u64 4)), (some (121, true))⟩,
    ⟨some 125, .int .add (.c (.int .i64 4)) (.s 124), (some (121, true))⟩,
    ⟨some 126, .int .geq (.s 122) (.s 125), (some (121, true))⟩,
    ⟨some 127, .pick (.s 121) (.s 126) (.c (.bool false)), none⟩,
    ⟨some 128, .mv (.s 127), none⟩,
    ⟨some 129, .mv (.s 8), (some (128, true))⟩,
    ⟨some 130, .mv (.s 9), (some (128, true))⟩,
    ⟨some 131, .int .lss (.s 129) (.s 130), (some (128, true))⟩,
    ⟨some 132, .pick (.s 128) (.s 131) (.c (.bool false)), none⟩])
  (.cond (.s 132) (.seq (.reg [⟨some 133, .mv (.s 0), none⟩,
    ⟨some 134, .mv (.s 8), none⟩,
    ⟨some 135, .ssl (.s 133) (some (.s 134)) none, none⟩,
    ⟨some 136, .mv (.s 1), none⟩,
    ⟨some 137, .dead, none⟩,
    ⟨some 13, .mv (.s 137), none⟩])
  (.seq (.seq (.reg [⟨some 138, .mv (.s 13), none⟩,
    ⟨some 139, .int .lss (.s 138) (.c (.int .i64 0)), none⟩])
  (.cond (.s 139) (.seq (.reg [⟨some 4, .mv (.c (.int .i64 (-1))), none⟩])
  .ret)
  .skip))
  (.seq (.reg [⟨some 140, .mv (.s 8), none⟩,
    ⟨some 141, .mv (.s 13), none⟩,
    ⟨some 142, .int .add (.s 140) (.s 141), none⟩,
    ⟨some 4, .mv (.s 142), none⟩])
  .ret)))
  .skip))))))))))))
  (.seq (.reg [⟨some 4, .mv (.c (.int .i64 (-1))), none⟩])
  .ret))))))))))⟩

/-- internal/stringslite.IndexByte -/
def sf221 : SF :=
  ⟨2, 8, [.t 4],
  (.seq (.reg [⟨some 4, .mv (.c (.int .i64 0)), none⟩])
  (.seq (.reg [⟨some 5, .mv (.s 0), none⟩,
    ⟨some 6, .mv (.s 1), none⟩,
    ⟨some 7, .nd .ixb [(.s 5), (.s 6)], none⟩,
    ⟨some 4, .mv (.s 7), none⟩])
  .ret))⟩

/-- sumpter/sumpterlaw14.awake -/
def sf293 : SF :=
  ⟨0, 95, [.t 0],
  (.seq (.reg [⟨some 0, .mv (.c (.bool false)), none⟩])
  (.seq (.reg [⟨some 7, .call 294 [(.c (.int .i64 100))], none⟩,
    ⟨some 1, .mv (.s 7), none⟩])
  (.seq (.seq (.reg [⟨some 8, .mv (.s 1), none⟩,
    ⟨some 9, .eq .ptr false (.s 8) (.c (.pointer none)), none⟩,
    ⟨some 10, .mv (.s 9), none⟩,
    ⟨some 11, .mv (.s 1), (some (10, false))⟩,
    ⟨some 12, .call 299 [(.s 11), (.c (.string ⟨#[116]⟩))], (some (10, false))⟩,
    ⟨some 13, .int .neq (.s 12) (.c (.int .i64 0)), (some (10, false))⟩,
    ⟨some 14, .pick (.s 10) (.c (.bool true)) (.s 13), none⟩,
    ⟨some 15, .mv (.s 14), none⟩,
    ⟨some 16, .mv (.s 1), (some (15, false))⟩,
    ⟨some 17, .hop (.bsl 1) [(.c (.int .u8 97)), (.c (.int .u8 98))], (some (15, false))⟩,
    ⟨some 18, .hop .mark [(.s 17)], (some (15, false))⟩,
    ⟨some 19, .call 302 [(.s 16), (.c (.string ⟨#[116]⟩)), (.s 18)], (some (15, false))⟩,
    ⟨some 20, .int .neq (.s 19) (.c (.int .i64 0)), (some (15, false))⟩,
    ⟨some 21, .pick (.s 15) (.c (.bool true)) (.s 20), none⟩,
    ⟨some 22, .mv (.s 21), none⟩,
    ⟨some 23, .mv (.s 1), (some (22, false))⟩,
    ⟨some 24, .call 303 [(.s 23), (.c (.string ⟨#[116]⟩))], (some (22, false))⟩,
    ⟨some 25, .int .neq (.s 24) (.c (.int .i64 0)), (some (22, false))⟩,
    ⟨some 26, .pick (.s 22) (.c (.bool true)) (.s 25), none⟩,
    ⟨some 27, .mv (.s 26), none⟩,
    ⟨some 28, .mv (.s 1), (some (27, false))⟩,
    ⟨some 29, .call 309 [(.s 28), (.c (.string ⟨#[116]⟩)), (.c (.string ⟨#[97]⟩))], (some (27, false))⟩,
    ⟨some 30, .int .neq (.s 29) (.c (.int .i64 0)), (some (27, false))⟩,
    ⟨some 31, .pick (.s 27) (.c (.bool true)) (.s 30), none⟩])
  (.cond (.s 31) (.seq (.reg [⟨some 0, .mv (.c (.bool false)), none⟩])
  .ret)
  .skip))
  (.seq (.reg [⟨some 32, .mv (.s 1), none⟩,
    ⟨some 33, .call 307 [(.s 32)], none⟩,
    ⟨some 2, .mv (.s 33), none⟩])
  (.seq (.reg [⟨some 34, .mv (.s 1), none⟩,
    ⟨some 35, .call 297 [(.s 34), (.c (.int .i64 1)), (.c (.slice none 0 0))], none⟩])
  (.seq (.reg [⟨some 37, .mv (.s 1), none⟩,
    ⟨some 38, .call 300 [(.s 37), (.c (.string ⟨#[116]⟩))], none⟩,
    ⟨some 36, .mv (.s 38), none⟩,
    ⟨some 39, .ext (.s 36) 0, none⟩,
    ⟨some 40, .ext (.s 36) 1, none⟩,
    ⟨some 3, .mv (.s 39), none⟩,
    ⟨some 4, .mv (.s 40), none⟩])
  (.seq (.reg [⟨some 41, .mv (.s 2), none⟩,
    ⟨some 42, .call 304 [(.s 41)], none⟩])
  (.seq (.reg [⟨some 43, .mv (.s 2), none⟩,
    ⟨some 44, .call 297 [(.s 43), (.c (.int .i64 0)), (.c (.slice none 0 0))], none⟩])
  (.seq (.reg [⟨some 46, .mv (.s 2), none⟩,
    ⟨some 47, .call 300 [(.s 46), (.c (.string ⟨#[97]⟩))], none⟩,
    ⟨some 45, .mv (.s 47), none⟩,
    ⟨some 48, .ext (.s 45) 0, none⟩,
    ⟨some 49, .ext (.s 45) 1, none⟩,
    ⟨some 5, .mv (.s 48), none⟩,
    ⟨some 6, .mv (.s 49), none⟩])
  (.seq (.reg [⟨some 50, .mv (.s 3), none⟩,
    ⟨some 51, .nd .b2s [(.s 50)], none⟩,
    ⟨some 52, .str .eql (.s 51) (.c (.string ⟨#[97, 98]⟩)), none⟩,
    ⟨some 53, .mv (.s 52), none⟩,
    ⟨some 54, .mv (.s 4), (some (53, true))⟩,
    ⟨some 55, .int .eql (.s 54) (.c (.int .i64 0)), (some (53, true))⟩,
    ⟨some 56, .pick (.s 53) (.s 55) (.c (.bool false)), none⟩,
    ⟨some 57, .mv (.s 56), none⟩,
    ⟨some 58, .mv (.s 5), (some (57, true))⟩,
    ⟨some 59, .nd .b2s [(.s 58)], (some (57, true))⟩,
    ⟨some 60, .str .eql (.s 59) (.c (.string ⟨#[97, 98]⟩)), (some (57, true))⟩,
    ⟨some 61, .pick (.s 57) (.s 60) (.c (.bool false)), none⟩,
    ⟨some 62, .mv (.s 61), none⟩,
    ⟨some 63, .mv (.s 6), (some (62, true))⟩,
    ⟨some 64, .int .eql (.s 63) (.c (.int .i64 0)), (some (62, true))⟩,
    ⟨some 65, .pick (.s 62) (.s 64) (.c (.bool false)), none⟩,
    ⟨some 66, .mv (.s 65), none⟩,
    ⟨some 67, .mv (.s 1), (some (66, true))⟩,
    ⟨some 68, .call 299 [(.s 67), (.c (.string ⟨#[120, 47, 121]⟩))], (some (66, true))⟩,
    ⟨some 69, .int .eql (.s 68) (.c (.int .i64 8)), (some (66, true))⟩,
    ⟨some 70, .pick (.s 66) (.s 69) (.c (.bool false)), none⟩,
    ⟨some 71, .mv (.s 70), none⟩,
    ⟨some 72, .mv (.s 1), (some (71, true))⟩,
    ⟨some 73, .call 312 [(.s 72)], (some (71, true))⟩,
    ⟨some 74, .len (.s 73), (some (71, true))⟩,
    ⟨some 75, .int .eql (.s 74) (.c (.int .i64 1)), (some (71, true))⟩,
    ⟨some 76, .pick (.s 71) (.s 75) (.c (.bool false)), none⟩,
    ⟨some 77, .mv (.s 76), none⟩,
    ⟨some 78, .pick (.s 77) (.c (.bool true)) (.c (.bool false)), none⟩,
    ⟨some 79, .mv (.s 78), none⟩,
    ⟨some 80, .pick (.s 79) (.c (.bool true)) (.c (.bool false)), none⟩,
    ⟨some 81, .mv (.s 80), none⟩,
    ⟨some 82, .pick (.s 81) (.c (.bool true)) (.c (.bool false)), none⟩,
    ⟨some 83, .mv (.s 82), none⟩,
    ⟨some 84, .pick (.s 83) (.c (.bool true)) (.c (.bool false)), none⟩,
    ⟨some 85, .mv (.s 84), none⟩,
    ⟨some 86, .pick (.s 85) (.c (.bool true)) (.c (.bool false)), none⟩,
    ⟨some 87, .mv (.s 86), none⟩,
    ⟨some 88, .pick (.s 87) (.c (.bool true)) (.c (.bool false)), none⟩,
    ⟨some 89, .mv (.s 88), none⟩,
    ⟨some 90, .pick (.s 89) (.c (.bool true)) (.c (.bool false)), none⟩,
    ⟨some 91, .mv (.s 90), none⟩,
    ⟨some 92, .pick (.s 91) (.c (.bool true)) (.c (.bool false)), none⟩,
    ⟨some 93, .mv (.s 92), none⟩,
    ⟨some 94, .pick (.s 93) (.c (.bool true)) (.c (.bool false)), none⟩,
    ⟨some 0, .mv (.s 94), none⟩])
  .ret))))))))))⟩

/-- sumpter/disk.New -/
def sf294 : SF :=
  ⟨1, 10, [.t 2],
  (.seq (.reg [⟨some 2, .mv (.c (.pointer none)), none⟩])
  (.seq (.reg [⟨some 3, .mv (.s 0), none⟩,
    ⟨some 4, .mm false (.s 3) (.c (.int .i64 16777216)), none⟩,
    ⟨some 5, .mm true (.c (.int .i64 0)) (.s 4), none⟩,
    ⟨some 6, .hop (.m .mk) [], none⟩,
    ⟨some 7, .hop (.m .mk) [], none⟩,
    ⟨some 8, .build [.v (.int .i64 0), .v (.map none), .v (.map none), .v (.slice none 0 0), .v (.slice none 0 0), .v (.bool false), .v (.int .i64 0), .v (.int .i64 0), .v (.bool false), .v (.int .i64 0)] [(0, 1, (.s 5)), (1, 1, (.s 6)), (2, 1, (.s 7)), (7, 1, (.c (.int .i64 (-1)))), (9, 1, (.c (.int .i64 (-1))))], none⟩,
    ⟨some 9, .box none 10 (.s 8), none⟩,
    ⟨some 2, .mv (.s 9), none⟩])
  .ret))⟩

/-- (*sumpter/disk.Disk).Crash -/
def sf297 : SF :=
  ⟨3, 136, [],
  (.seq (.seq (.reg [⟨some 13, .mv (.s 0), none⟩,
    ⟨some 14, .eq .ptr false (.s 13) (.c (.pointer none)), none⟩])
  (.cond (.s 14) .ret
  .skip))
  (.seq (.reg [⟨some 15, .mv (.s 0), none⟩,
    ⟨some 16, .mv (.s 0), none⟩,
    ⟨some 17, .nilc (.s 16), none⟩,
    ⟨some 18, .fld 1 (.s 17), none⟩,
    ⟨some 19, .load false 1 (.s 18), none⟩,
    ⟨some 20, .call 329 [(.s 19)], none⟩,
    ⟨some 21, .nilc (.s 15), none⟩,
    ⟨some 22, .fld 2 (.s 21), none⟩,
    ⟨none, .store 1 (.s 22) (.s 20), none⟩])
  (.seq (.seq (.dreg [0, 1, 2, 4, 5, 6, 7, 14, 3, 8, 9, 10, 11, 12, 13] [⟨⟨some 23, .mv (.s 0), none⟩, []⟩,
    ⟨⟨some 24, .nilc (.s 23), none⟩, []⟩,
    ⟨⟨some 25, .fld 3 (.s 24), none⟩, []⟩,
    ⟨⟨some 27, .mv (.s 1), none⟩, []⟩,
    ⟨⟨some 28, .mv (.s 0), none⟩, []⟩,
    ⟨⟨some 29, .nilc (.s 28), none⟩, []⟩,
    ⟨⟨some 30, .fld 3 (.s 29), none⟩, []⟩,
    ⟨⟨some 37, .mv (.c (.int .i64 0)), none⟩, []⟩,
    ⟨⟨some 26, .load false 1 (.s 25), none⟩, []⟩,
    ⟨⟨some 31, .load false 1 (.s 30), none⟩, []⟩,
    ⟨⟨some 32, .len (.s 31), none⟩, []⟩,
    ⟨⟨some 33, .mm false (.s 27) (.s 32), none⟩, []⟩,
    ⟨⟨some 34, .mm true (.c (.int .i64 0)) (.s 33), none⟩, []⟩,
    ⟨⟨some 35, .slc 2 (.s 26) none (some (.s 34)) none, none⟩, []⟩,
    ⟨⟨some 36, .len (.s 35), none⟩, []⟩])
  (.block 0 (.loop (.seq (.reg [⟨some 38, .int .lss (.s 37) (.s 36), none⟩])
  (.seq (.cond (.s 38) .skip
  (.exit 0))
  (.seq (.block 1 (.seq (.reg [⟨some 39, .idx 2 (.s 35) (.s 37), none⟩,
    ⟨some 40, .load true 2 (.s 39), none⟩,
    ⟨some 7, .alloc (some 0) [.v (.slice none 0 0), .v (.slice none 0 0)], none⟩,
    ⟨none, .store 2 (.s 7) (.s 40), none⟩])
  (.dreg [0, 1, 2, 3, 4, 5] [⟨⟨some 41, .mv (.s 0), none⟩, []⟩,
    ⟨⟨some 42, .nilc (.s 41), none⟩, []⟩,
    ⟨⟨some 43, .fld 2 (.s 42), none⟩, []⟩,
    ⟨⟨some 44, .load false 1 (.s 43), none⟩, []⟩,
    ⟨⟨some 45, .load true 2 (.s 7), none⟩, []⟩,
    ⟨⟨some 46, .call 330 [(.s 44), (.s 45)], none⟩, []⟩])))
  (.reg [⟨some 47, .int .add (.s 37) (.c (.int .i64 1)), none⟩,
    ⟨some 37, .mv (.s 47), none⟩])))))))
  (.seq (.reg [⟨some 48, .mv (.s 0), none⟩,
    ⟨some 49, .mv (.s 0), none⟩,
    ⟨some 50, .mv (.s 0), none⟩,
    ⟨some 51, .nilc (.s 50), none⟩,
    ⟨some 52, .fld 2 (.s 51), none⟩,
    ⟨some 53, .load false 1 (.s 52), none⟩,
    ⟨some 54, .call 329 [(.s 53)], none⟩,
    ⟨some 55, .nilc (.s 48), none⟩,
    ⟨some 56, .fld 1 (.s 55), none⟩,
    ⟨none, .store 1 (.s 56) (.s 54), none⟩,
    ⟨some 57, .nilc (.s 49), none⟩,
    ⟨some 58, .fld 3 (.s 57), none⟩,
    ⟨none, .store 1 (.s 58) (.c (.slice none 0 0)), none⟩])
  (.seq (.seq (.reg [⟨some 59, .mv (.s 0), none⟩,
    ⟨some 60, .call 331 [(.s 59)], none⟩,
    ⟨some 61, .len (.s 60), none⟩,
    ⟨some 62, .mv (.c (.int .i64 0)), none⟩])
  (.block 2 (.loop (.seq (.reg [⟨some 63, .int .lss (.s 62) (.s 61), none⟩])
  (.seq (.cond (.s 63) .skip
  (.exit 2))
  (.seq (.block 3 (.seq (.reg [⟨some 64, .idx 1 (.s 60) (.s 62), none⟩,
    ⟨some 65, .load false 1 (.s 64), none⟩,
    ⟨some 9, .mv (.s 65), none⟩])
  (.seq (.reg [⟨some 67, .mv (.s 0), none⟩,
    ⟨some 68, .mv (.s 9), none⟩,
    ⟨some 69, .call 332 [(.s 67), (.s 68)], none⟩,
    ⟨some 66, .mv (.s 69), none⟩,
    ⟨some 70, .ext (.s 66) 0, none⟩,
    ⟨some 71, .ext (.s 66) 1, none⟩,
    ⟨some 10, .mv (.s 70), none⟩,
    ⟨some 11, .mv (.s 71), none⟩])
  (.seq (.seq (.reg [⟨some 72, .mv (.s 11), none⟩,
    ⟨some 73, .int .neq (.s 72) (.c (.int .i64 0)), none⟩])
  (.cond (.s 73) (.exit 3)
  .skip))
  (.seq (.seq (.dreg [0, 1, 2, 5, 6, 7, 3, 4, 8, 9, 10] [⟨⟨some 74, .mv (.s 10), none⟩, []⟩,
    ⟨⟨some 75, .nilc (.s 74), none⟩, []⟩,
    ⟨⟨some 76, .fld 0 (.s 75), none⟩, []⟩,
    ⟨⟨some 79, .mv (.s 10), none⟩, []⟩,
    ⟨⟨some 80, .nilc (.s 79), none⟩, []⟩,
    ⟨⟨some 81, .fld 1 (.s 80), none⟩, []⟩,
    ⟨⟨some 77, .load false 1 (.s 76), none⟩, []⟩,
    ⟨⟨some 78, .len (.s 77), none⟩, []⟩,
    ⟨⟨some 82, .load false 1 (.s 81), none⟩, []⟩,
    ⟨⟨some 83, .int .sub (.s 78) (.s 82), none⟩, []⟩,
    ⟨⟨some 12, .mv (.s 83), none⟩, []⟩])
  (.seq (.reg [⟨some 84, .mv (.s 12), none⟩,
    ⟨some 85, .int .gtr (.s 84) (.c (.int .i64 0)), none⟩,
    ⟨some 86, .mv (.s 85), none⟩,
    ⟨some 87, .mv (.s 2), (some (86, true))⟩,
    ⟨some 88, .len (.s 87), (some (86, true))⟩,
    ⟨some 89, .int .gtr (.s 88) (.c (.int .i64 0)), (some (86, true))⟩,
    ⟨some 90, .pick (.s 86) (.s 89) (.c (.bool false)), none⟩])
  (.cond (.s 90) (.seq (.dreg [0, 1, 2, 4, 5, 8, 9, 3, 6, 7, 10, 11, 12, 13, 14] [⟨⟨some 91, .mv (.s 10), none⟩, []⟩,
    ⟨⟨some 92, .nilc (.s 91), none⟩, []⟩,
    ⟨⟨some 93, .fld 1 (.s 92), none⟩, []⟩,
    ⟨⟨some 95, .mv (.s 2), none⟩, []⟩,
    ⟨⟨some 96, .idx 1 (.s 95) (.c (.int .i64 0)), none⟩, []⟩,
    ⟨⟨some 99, .mv (.s 12), none⟩, []⟩,
    ⟨⟨some 100, .int .add (.s 99) (.c (.int .i64 1)), none⟩, []⟩,
    ⟨⟨some 94, .load false 1 (.s 93), none⟩, []⟩,
    ⟨⟨some 97, .load false 1 (.s 96), none⟩, []⟩,
    ⟨⟨some 98, .conv .i64 (.s 97), none⟩, []⟩,
    ⟨⟨some 101, .int .rem (.s 98) (.s 100), none⟩, []⟩,
    ⟨⟨some 102, .int .add (.s 94) (.s 101), none⟩, []⟩,
    ⟨⟨some 103, .nilc (.s 91), none⟩, []⟩,
    ⟨⟨some 104, .fld 1 (.s 103), none⟩, []⟩,
    ⟨⟨none, .store 1 (.s 104) (.s 102), none⟩, []⟩])
  (.reg [⟨some 105, .mv (.s 2), none⟩,
    ⟨some 106, .slc 1 (.s 105) (some (.c (.int .i64 1))) none none, none⟩,
    ⟨some 2, .mv (.s 106), none⟩]))
  .skip)))
  (.dreg [0, 1, 2, 3, 5, 6, 7, 9, 10, 11, 4, 8, 12, 13, 14, 15, 16] [⟨⟨some 107, .mv (.s 10), none⟩, []⟩,
    ⟨⟨some 108, .mv (.s 10), none⟩, []⟩,
    ⟨⟨some 109, .nilc (.s 108), none⟩, []⟩,
    ⟨⟨some 110, .fld 0 (.s 109), none⟩, []⟩,
    ⟨⟨some 112, .mv (.s 10), none⟩, []⟩,
    ⟨⟨some 113, .nilc (.s 112), none⟩, []⟩,
    ⟨⟨some 114, .fld 1 (.s 113), none⟩, []⟩,
    ⟨⟨some 116, .mv (.s 10), none⟩, []⟩,
    ⟨⟨some 117, .nilc (.s 116), none⟩, []⟩,
    ⟨⟨some 118, .fld 1 (.s 117), none⟩, []⟩,
    ⟨⟨some 111, .load false 1 (.s 110), none⟩, []⟩,
    ⟨⟨some 115, .load false 1 (.s 114), none⟩, []⟩,
    ⟨⟨some 119, .load false 1 (.s 118), none⟩, []⟩,
    ⟨⟨some 120, .slc 1 (.s 111) none (some (.s 115)) (some (.s 119)), none⟩, []⟩,
    ⟨⟨some 121, .nilc (.s 107), none⟩, []⟩,
    ⟨⟨some 122, .fld 0 (.s 121), none⟩, []⟩,
    ⟨⟨none, .store 1 (.s 122) (.s 120), none⟩, []⟩]))))))
  (.reg [⟨some 123, .int .add (.s 62) (.c (.int .i64 1)), none⟩,
    ⟨some 62, .mv (.s 123), none⟩])))))))
  (.reg [⟨some 124, .mv (.s 0), none⟩,
    ⟨some 125, .mv (.s 0), none⟩,
    ⟨some 126, .mv (.s 0), none⟩,
    ⟨some 127, .mv (.s 0), none⟩,
    ⟨some 128, .nilc (.s 124), none⟩,
    ⟨some 129, .fld 5 (.s 128), none⟩,
    ⟨none, .store 1 (.s 129) (.c (.bool false)), none⟩,
    ⟨some 130, .nilc (.s 125), none⟩,
    ⟨some 131, .fld 8 (.s 130), none⟩,
    ⟨none, .store 1 (.s 131) (.c (.bool false)), none⟩,
    ⟨some 132, .nilc (.s 126), none⟩,
    ⟨some 133, .fld 7 (.s 132), none⟩,
    ⟨none, .store 1 (.s 133) (.c (.int .i64 (-1))), none⟩,
    ⟨some 134, .nilc (.s 127), none⟩,
    ⟨some 135, .fld 9 (.s 134), none⟩,
    ⟨none, .store 1 (.s 135) (.c (.int .i64 (-1))), none⟩]))))))⟩

/-- (*sumpter/disk.Disk).Create -/
def sf299 : SF :=
  ⟨2, 8, [.t 4],
  (.seq (.reg [⟨some 4, .mv (.c (.int .i64 0)), none⟩])
  (.seq (.reg [⟨some 5, .mv (.s 0), none⟩,
    ⟨some 6, .mv (.s 1), none⟩,
    ⟨some 7, .call 336 [(.s 5), (.s 6), (.c (.bool false))], none⟩,
    ⟨some 4, .mv (.s 7), none⟩])
  .ret))⟩

/-- (*sumpter/disk.Disk).Read -/
def sf300 : SF :=
  ⟨2, 28, [.t 4, .t 5],
  (.seq (.reg [⟨some 4, .mv (.c (.slice none 0 0)), none⟩,
    ⟨some 5, .mv (.c (.int .i64 0)), none⟩])
  (.seq (.seq (.reg [⟨some 9, .mv (.s 0), none⟩,
    ⟨some 10, .call 333 [(.s 9), (.c (.slice none 0 0))], none⟩,
    ⟨some 6, .mv (.s 10), none⟩])
  (.seq (.reg [⟨some 11, .mv (.s 6), none⟩,
    ⟨some 12, .int .neq (.s 11) (.c (.int .i64 0)), none⟩])
  (.cond (.s 12) (.seq (.reg [⟨some 13, .mv (.s 6), none⟩,
    ⟨some 4, .mv (.c (.slice none 0 0)), none⟩,
    ⟨some 5, .mv (.s 13), none⟩])
  .ret)
  .skip)))
  (.seq (.reg [⟨some 15, .mv (.s 0), none⟩,
    ⟨some 16, .mv (.s 1), none⟩,
    ⟨some 17, .call 332 [(.s 15), (.s 16)], none⟩,
    ⟨some 14, .mv (.s 17), none⟩,
    ⟨some 18, .ext (.s 14) 0, none⟩,
    ⟨some 19, .ext (.s 14) 1, none⟩,
    ⟨some 7, .mv (.s 18), none⟩,
    ⟨some 8, .mv (.s 19), none⟩])
  (.seq (.seq (.reg [⟨some 20, .mv (.s 8), none⟩,
    ⟨some 21, .int .neq (.s 20) (.c (.int .i64 0)), none⟩])
  (.cond (.s 21) (.seq (.reg [⟨some 22, .mv (.s 8), none⟩,
    ⟨some 4, .mv (.c (.slice none 0 0)), none⟩,
    ⟨some 5, .mv (.s 22), none⟩])
  .ret)
  .skip))
  (.seq (.reg [⟨some 23, .mv (.s 7), none⟩,
    ⟨some 24, .nilc (.s 23), none⟩,
    ⟨some 25, .fld 0 (.s 24), none⟩,
    ⟨some 26, .load false 1 (.s 25), none⟩,
    ⟨some 27, .call 186 [(.s 26)], none⟩,
    ⟨some 4, .mv (.s 27), none⟩,
    ⟨some 5, .mv (.c (.int .i64 0)), none⟩])
  .ret)))))⟩

end Sm
