/-
  SfA
-/
import Derived.Test.YtegmmhldpmmkeaaGreatDoorSmLA
set_option linter.unusedVariables false
set_option maxRecDepth 100000
namespace Sm
open Go
abbrev q (d : Nat) (o : SOp) : SOper := ⟨some d, o, none⟩
abbrev w (d : Nat) (o : SOp) : DOper := ⟨⟨some d, o, none⟩, []⟩
abbrev recZ : List HV := [.v (.int .u8 0), .v (.int .i64 0), .v (.string ⟨#[]⟩), .v (.int .u8 0), .v (.int .u8 0), .v (.int .u8 0), .v (.int .u8 0), .v (.int .u8 0), .v (.int .u8 0), .v (.int .u8 0), .v (.int .u8 0), .v (.int .u8 0), .v (.int .u8 0), .v (.int .u8 0), .v (.int .u8 0), .v (.int .u8 0), .v (.int .u8 0), .v (.int .u8 0), .v (.int .u8 0), .v (.int .u8 0), .v (.int .u8 0), .v (.int .u8 0), .v (.int .u8 0), .v (.int .u8 0), .v (.int .u8 0), .v (.int .u8 0), .v (.int .u8 0), .v (.int .u8 0), .v (.int .u8 0), .v (.int .u8 0), .v (.int .u8 0), .v (.int .u8 0), .v (.int .u8 0), .v (.int .u8 0), .v (.int .u8 0), .v (.int .i64 0), .v (.int .i64 0)]
abbrev partZ : List HV := [.v (.int .i64 0), .v (.string ⟨#[]⟩), .v (.int .u8 0), .v (.int .u8 0), .v (.int .u8 0), .v (.int .u8 0), .v (.int .u8 0), .v (.int .u8 0), .v (.int .u8 0), .v (.int .u8 0), .v (.int .u8 0), .v (.int .u8 0), .v (.int .u8 0), .v (.int .u8 0), .v (.int .u8 0), .v (.int .u8 0), .v (.int .u8 0), .v (.int .u8 0), .v (.int .u8 0), .v (.int .u8 0), .v (.int .u8 0), .v (.int .u8 0), .v (.int .u8 0), .v (.int .u8 0), .v (.int .u8 0), .v (.int .u8 0), .v (.int .u8 0), .v (.int .u8 0), .v (.int .u8 0), .v (.int .u8 0), .v (.int .u8 0), .v (.int .u8 0), .v (.int .u8 0), .v (.int .u8 0), .v (.int .i64 0), .v (.int .i64 0)]
def sf90 : SF :=
 ⟨1, 5, [.t 2],
 (.seq (.reg [q 2 (.mv (.c (.slice none 0 0)))])
 (.seq (.reg [q 3 (.mv (.s 0)),q 4 (.dead),q 2 (.mv (.s 4))])
 .ret))⟩
def sf163 : SF :=
 ⟨2, 11, [.t 4],
 (.seq (.reg [q 4 (.mv (.c (.bool false)))])
 (.seq (.reg [q 5 (.mv (.s 0)),q 6 (.call 181 [(.s 5)]),q 7 (.mv (.s 1)),q 8 (.call 181 [(.s 7)]),q 9 (.call 182 [(.s 6), (.s 8)]),q 10 (.int .lss (.s 9) (.c (.int .i64 0))),q 4 (.mv (.s 10))])
 .ret))⟩
def sf164 : SF :=
 ⟨1, 11, [.t 2],
 (.seq (.reg [q 2 (.mv (.c (.string ⟨#[]⟩)))])
 (.seq (.reg [q 6 (.mv (.s 0)),q 7 (.call 183 [(.s 6)]),q 5 (.mv (.s 7)),q 8 (.ext (.s 5) 0),q 9 (.ext (.s 5) 1),q 3 (.mv (.s 8)),q 4 (.mv (.s 9))])
 (.seq (.reg [q 10 (.mv (.s 3)),q 2 (.mv (.s 10))])
 .ret)))⟩
def sf181 : SF :=
 ⟨1, 7, [.t 2],
 (.seq (.reg [q 2 (.mv (.c (.slice none 0 0)))])
 (.seq (.seq (.reg [q 3 (.mv (.s 0)),q 4 (.str .eql (.s 3) (.c (.string ⟨#[]⟩)))])
 (.cond (.s 4) (.seq (.reg [q 2 (.mv (.c (.slice none 0 0)))])
 .ret)
 .skip))
 (.seq (.reg [q 5 (.mv (.s 0)),q 6 (.call 195 [(.s 5), (.c (.string ⟨#[47]⟩))]),q 2 (.mv (.s 6))])
 .ret)))⟩
def sf182 : SF :=
 ⟨2, 36, [.t 4],
 (.seq (.reg [q 4 (.mv (.c (.int .i64 0)))])
 (.seq (.seq (.reg [q 9 (.mv (.s 0)),q 10 (.len (.s 9)),q 11 (.mv (.c (.int .i64 0)))])
 (.block 0 (.loop (.seq (.reg [q 12 (.int .lss (.s 11) (.s 10))])
 (.seq (.cond (.s 12) .skip
 (.exit 0))
 (.seq (.block 1 (.seq (.reg [q 13 (.mv (.s 11)),q 14 (.idx 1 (.s 9) (.s 11)),q 15 (.load false 1 (.s 14)),q 5 (.mv (.s 13)),q 6 (.mv (.s 15))])
 (.seq (.seq (.reg [q 16 (.mv (.s 5)),q 17 (.mv (.s 1)),q 18 (.len (.s 17)),q 19 (.int .geq (.s 16) (.s 18))])
 (.cond (.s 19) (.seq (.reg [q 4 (.mv (.c (.int .i64 1)))])
 .ret)
 .skip))
 (.seq (.reg [q 20 (.mv (.s 1)),q 21 (.mv (.s 5)),q 22 (.idx 1 (.s 20) (.s 21)),q 23 (.load false 1 (.s 22)),q 7 (.mv (.s 23))])
 (.seq (.reg [q 24 (.mv (.s 6)),q 25 (.mv (.s 7)),q 26 (.call 196 [(.s 24), (.s 25)]),q 8 (.mv (.s 26))])
 (.seq (.reg [q 27 (.mv (.s 8)),q 28 (.int .neq (.s 27) (.c (.int .i64 0)))])
 (.cond (.s 28) (.seq (.reg [q 29 (.mv (.s 8)),q 4 (.mv (.s 29))])
 .ret)
 .skip)))))))
 (.reg [q 30 (.int .add (.s 11) (.c (.int .i64 1))),q 11 (.mv (.s 30))])))))))
 (.seq (.seq (.reg [q 31 (.mv (.s 0)),q 32 (.len (.s 31)),q 33 (.mv (.s 1)),q 34 (.len (.s 33)),q 35 (.int .lss (.s 32) (.s 34))])
 (.cond (.s 35) (.seq (.reg [q 4 (.mv (.c (.int .i64 (-1))))])
 .ret)
 .skip))
 (.seq (.reg [q 4 (.mv (.c (.int .i64 0)))])
 .ret))))⟩
def sf183 : SF :=
 ⟨1, 15, [.t 2, .t 3],
 (.seq (.reg [q 2 (.mv (.c (.string ⟨#[]⟩))),q 3 (.mv (.c (.string ⟨#[]⟩)))])
 (.seq (.reg [q 5 (.mv (.s 0)),q 6 (.call 197 [(.s 5), (.c (.string ⟨#[47]⟩))]),q 4 (.mv (.s 6))])
 (.seq (.dreg [0, 1, 2, 3, 4, 5, 6, 7, 8, 9] [w 7 (.mv (.s 0)),w 8 (.mv (.s 4)),w 9 (.mm true (.s 8) (.c (.int .i64 0))),w 10 (.ssl (.s 7) none (some (.s 9))),w 11 (.mv (.s 0)),w 12 (.mv (.s 4)),w 13 (.int .add (.s 12) (.c (.int .i64 1))),w 14 (.ssl (.s 11) (some (.s 13)) none),w 2 (.mv (.s 10)),w 3 (.mv (.s 14))])
 .ret)))⟩
def sf186 : SF :=
 ⟨1, 8, [.t 2],
 (.seq (.reg [q 2 (.mv (.c (.slice none 0 0)))])
 (.seq (.seq (.reg [q 3 (.mv (.s 0)),q 4 (.nd (.isnil false) [(.s 3)])])
 (.cond (.s 4) (.seq (.reg [q 2 (.mv (.c (.slice none 0 0)))])
 .ret)
 .skip))
 (.seq (.reg [q 5 (.bslice 1 []),q 6 (.mv (.s 0)),q 7 (.app 1 1 (.s 5) (.s 6)),q 2 (.mv (.s 7))])
 .ret)))⟩
def sf189 : SF :=
 ⟨2, 19, [.t 4],
 (.seq (.reg [q 4 (.mv (.c (.int .i64 0)))])
 (.seq (.seq (.reg [q 6 (.mv (.s 0)),q 7 (.len (.s 6)),q 8 (.mv (.c (.int .i64 0)))])
 (.block 0 (.loop (.seq (.reg [q 9 (.int .lss (.s 8) (.s 7))])
 (.seq (.cond (.s 9) .skip
 (.exit 0))
 (.seq (.block 1 (.seq (.reg [q 10 (.mv (.s 8)),q 5 (.mv (.s 10))])
 (.seq (.reg [q 11 (.mv (.s 1)),q 12 (.mv (.s 0)),q 13 (.mv (.s 5)),q 14 (.idx 3 (.s 12) (.s 13)),q 15 (.load true 3 (.s 14)),q 16 (.callv (.s 11) [(.s 15)])])
 (.cond (.s 16) (.seq (.reg [q 17 (.mv (.s 5)),q 4 (.mv (.s 17))])
 .ret)
 .skip))))
 (.reg [q 18 (.int .add (.s 8) (.c (.int .i64 1))),q 8 (.mv (.s 18))])))))))
 (.seq (.reg [q 4 (.mv (.c (.int .i64 (-1))))])
 .ret)))⟩
def sf192 : SF :=
 ⟨1, 19, [.t 2],
 (.seq (.reg [q 2 (.mv (.c (.int .i64 0)))])
 (.seq (.seq (.reg [q 4 (.mv (.s 0)),q 5 (.slen (.s 4)),q 6 (.int .gtr (.s 5) (.c (.int .i64 128)))])
 (.cond (.s 6) (.seq (.reg [q 2 (.mv (.c (.int .i64 5)))])
 .ret)
 .skip))
 (.seq (.reg [q 7 (.mv (.s 0)),q 8 (.call 181 [(.s 7)]),q 3 (.mv (.s 8))])
 (.seq (.seq (.reg [q 9 (.mv (.s 3)),q 10 (.len (.s 9)),q 11 (.int .eql (.s 10) (.c (.int .i64 0))),q 12 (.mv (.s 11)),
   ⟨some 13, .mv (.s 3), (some (12, false))⟩,
   ⟨some 14, .call 201 [(.s 13), (.f 202)], (some (12, false))⟩,
   q 15 (.pick (.s 12) (.c (.bool true)) (.s 14))])
 (.cond (.s 15) (.seq (.reg [q 2 (.mv (.c (.int .i64 6)))])
 .ret)
 .skip))
 (.seq (.seq (.reg [q 16 (.mv (.s 3)),q 17 (.len (.s 16)),q 18 (.int .gtr (.s 17) (.c (.int .i64 8)))])
 (.cond (.s 18) (.seq (.reg [q 2 (.mv (.c (.int .i64 5)))])
 .ret)
 .skip))
 (.seq (.reg [q 2 (.mv (.c (.int .i64 0)))])
 .ret))))))⟩
def sf193 : SF :=
 ⟨1, 5, [.t 2],
 (.seq (.reg [q 2 (.mv (.c (.bool false)))])
 (.seq (.reg [q 3 (.mv (.s 0)),q 4 (.call 203 [(.s 3), (.c (.string ⟨#[46, 115, 117, 109, 112, 116, 101, 114]⟩))]),q 2 (.mv (.s 4))])
 .ret))⟩
def sf194 : SF :=
 ⟨2, 10, [.t 4],
 (.seq (.reg [q 4 (.mv (.c (.bool false)))])
 (.seq (.reg [q 5 (.mv (.s 0)),q 6 (.nd .b2s [(.s 5)]),q 7 (.mv (.s 1)),q 8 (.nd .b2s [(.s 7)]),q 9 (.str .eql (.s 6) (.s 8)),q 4 (.mv (.s 9))])
 .ret))⟩
def sf195 : SF :=
 ⟨2, 8, [.t 4],
 (.seq (.reg [q 4 (.mv (.c (.slice none 0 0)))])
 (.seq (.reg [q 5 (.mv (.s 0)),q 6 (.mv (.s 1)),q 7 (.call 204 [(.s 5), (.s 6), (.c (.int .i64 0)), (.c (.int .i64 (-1)))]),q 4 (.mv (.s 7))])
 .ret))⟩
def sf196 : SF :=
 ⟨2, 20, [.t 4],
 (.seq (.reg [q 4 (.mv (.c (.int .i64 0)))])
 (.seq (.reg [q 7 (.mv (.s 0)),q 8 (.call 205 [(.s 7)]),q 5 (.mv (.s 8))])
 (.seq (.reg [q 9 (.mv (.s 1)),q 10 (.call 205 [(.s 9)]),q 6 (.mv (.s 10))])
 (.seq (.seq (.reg [q 11 (.mv (.s 5))])
 (.cond (.s 11) (.seq (.seq (.reg [q 12 (.mv (.s 6))])
 (.cond (.s 12) (.seq (.reg [q 4 (.mv (.c (.int .i64 0)))])
 .ret)
 .skip))
 (.seq (.reg [q 4 (.mv (.c (.int .i64 (-1))))])
 .ret))
 .skip))
 (.seq (.seq (.reg [q 13 (.mv (.s 6))])
 (.cond (.s 13) (.seq (.reg [q 4 (.mv (.c (.int .i64 1)))])
 .ret)
 .skip))
 (.seq (.seq (.reg [q 14 (.mv (.s 0)),q 15 (.mv (.s 1)),q 16 (.str .lss (.s 14) (.s 15))])
 (.cond (.s 16) (.seq (.reg [q 4 (.mv (.c (.int .i64 (-1))))])
 .ret)
 .skip))
 (.seq (.seq (.reg [q 17 (.mv (.s 0)),q 18 (.mv (.s 1)),q 19 (.str .gtr (.s 17) (.s 18))])
 (.cond (.s 19) (.seq (.reg [q 4 (.mv (.c (.int .i64 1)))])
 .ret)
 .skip))
 (.seq (.reg [q 4 (.mv (.c (.int .i64 0)))])
 .ret))))))))⟩
def sf197 : SF :=
 ⟨2, 36, [.t 4],
 (.seq (.reg [q 4 (.mv (.c (.int .i64 0)))])
 (.seq (.reg [q 6 (.mv (.s 1)),q 7 (.slen (.s 6)),q 5 (.mv (.s 7))])
 (.seq (.block 0 (.seq (.reg [q 9 (.mv (.s 5)),q 10 (.int .eql (.s 9) (.c (.int .i64 0))),q 8 (.mv (.s 10))])
 (.cond (.s 8) (.seq (.reg [q 11 (.mv (.s 0)),q 12 (.slen (.s 11)),q 4 (.mv (.s 12))])
 .ret)
 (.seq (.reg [q 14 (.mv (.s 5)),q 15 (.int .eql (.s 14) (.c (.int .i64 1))),q 13 (.mv (.s 15))])
 (.cond (.s 13) (.seq (.reg [q 16 (.mv (.s 0)),q 17 (.mv (.s 1)),q 18 (.sidx (.s 17) (.c (.int .i64 0))),q 19 (.call 206 [(.s 16), (.s 18)]),q 4 (.mv (.s 19))])
 .ret)
 (.seq (.reg [q 21 (.mv (.s 5)),q 22 (.mv (.s 0)),q 23 (.slen (.s 22)),q 24 (.int .eql (.s 21) (.s 23)),q 20 (.mv (.s 24))])
 (.cond (.s 20) (.seq (.seq (.reg [q 25 (.mv (.s 1)),q 26 (.mv (.s 0)),q 27 (.str .eql (.s 25) (.s 26))])
 (.cond (.s 27) (.seq (.reg [q 4 (.mv (.c (.int .i64 0)))])
 .ret)
 .skip))
 (.seq (.reg [q 4 (.mv (.c (.int .i64 (-1))))])
 .ret))
 (.seq (.reg [q 29 (.mv (.s 5)),q 30 (.mv (.s 0)),q 31 (.slen (.s 30)),q 32 (.int .gtr (.s 29) (.s 31)),q 28 (.mv (.s 32))])
 (.cond (.s 28) (.seq (.reg [q 4 (.mv (.c (.int .i64 (-1))))])
 .ret)
 .skip)))))))))
 (.seq (.reg [q 33 (.mv (.s 0)),q 34 (.mv (.s 1)),q 35 (.dead),q 4 (.mv (.s 35))])
 .ret))))⟩
def sf201 : SF :=
 ⟨2, 9, [.t 4],
 (.seq (.reg [q 4 (.mv (.c (.bool false)))])
 (.seq (.reg [q 5 (.mv (.s 0)),q 6 (.mv (.s 1)),q 7 (.call 210 [(.s 5), (.s 6)]),q 8 (.int .geq (.s 7) (.c (.int .i64 0))),q 4 (.mv (.s 8))])
 .ret))⟩
def sf202 : SF :=
 ⟨1, 6, [.t 2],
 (.seq (.reg [q 2 (.mv (.c (.bool false)))])
 (.seq (.reg [q 3 (.mv (.s 0)),q 4 (.call 211 [(.s 3)]),q 5 (.not (.s 4)),q 2 (.mv (.s 5))])
 .ret))⟩
def sf203 : SF :=
 ⟨2, 8, [.t 4],
 (.seq (.reg [q 4 (.mv (.c (.bool false)))])
 (.seq (.reg [q 5 (.mv (.s 0)),q 6 (.mv (.s 1)),q 7 (.call 212 [(.s 5), (.s 6)]),q 4 (.mv (.s 7))])
 .ret))⟩
def sf204 : SF :=
 ⟨4, 66, [.t 8],
 (.seq (.reg [q 8 (.mv (.c (.slice none 0 0)))])
 (.seq (.seq (.reg [q 12 (.mv (.s 3)),q 13 (.int .eql (.s 12) (.c (.int .i64 0)))])
 (.cond (.s 13) (.seq (.reg [q 8 (.mv (.c (.slice none 0 0)))])
 .ret)
 .skip))
 (.seq (.seq (.reg [q 14 (.mv (.s 1)),q 15 (.str .eql (.s 14) (.c (.string ⟨#[]⟩)))])
 (.cond (.s 15) (.seq (.reg [q 16 (.mv (.s 0)),q 17 (.mv (.s 3)),q 18 (.dead),q 8 (.mv (.s 18))])
 .ret)
 .skip))
 (.seq (.seq (.reg [q 19 (.mv (.s 3)),q 20 (.int .lss (.s 19) (.c (.int .i64 0)))])
 (.cond (.s 20) (.reg [q 21 (.mv (.s 0)),q 22 (.mv (.s 1)),q 23 (.call 214 [(.s 21), (.s 22)]),q 24 (.int .add (.s 23) (.c (.int .i64 1))),q 3 (.mv (.s 24))])
 .skip))
 (.seq (.reg [q 25 (.mv (.s 3)),q 26 (.mv (.s 0)),q 27 (.slen (.s 26)),q 28 (.int .add (.s 27) (.c (.int .i64 1))),q 29 (.mm false (.s 25) (.s 28)),q 3 (.mv (.s 29))])
 (.seq (.reg [q 30 (.mv (.s 3)),q 31 (.hop (.mks 1 16 [.v (.string ⟨#[]⟩)]) [(.s 30), (.s 30)]),q 9 (.mv (.s 31))])
 (.seq (.reg [q 32 (.mv (.s 3)),q 33 (.int .sub (.s 32) (.c (.int .i64 1))),q 3 (.mv (.s 33))])
 (.seq (.reg [q 10 (.mv (.c (.int .i64 0)))])
 (.seq (.block 0 (.loop (.seq (.seq (.reg [q 34 (.mv (.s 10)),q 35 (.mv (.s 3)),q 36 (.int .lss (.s 34) (.s 35))])
 (.cond (.s 36) .skip
 (.exit 0)))
 (.block 1 (.seq (.reg [q 37 (.mv (.s 0)),q 38 (.mv (.s 1)),q 39 (.call 218 [(.s 37), (.s 38)]),q 11 (.mv (.s 39))])
 (.seq (.seq (.reg [q 40 (.mv (.s 11)),q 41 (.int .lss (.s 40) (.c (.int .i64 0)))])
 (.cond (.s 41) (.exit 0)
 .skip))
 (.seq (.reg [q 42 (.mv (.s 9)),q 43 (.mv (.s 10)),q 44 (.mv (.s 0)),q 45 (.mv (.s 11)),q 46 (.mv (.s 2)),q 47 (.int .add (.s 45) (.s 46)),q 48 (.ssl (.s 44) none (some (.s 47))),q 49 (.idx 1 (.s 42) (.s 43)),
   ⟨none, .store 1 (.s 49) (.s 48), none⟩])
 (.seq (.reg [q 50 (.mv (.s 0)),q 51 (.mv (.s 11)),q 52 (.mv (.s 1)),q 53 (.slen (.s 52)),q 54 (.int .add (.s 51) (.s 53)),q 55 (.ssl (.s 50) (some (.s 54)) none),q 0 (.mv (.s 55))])
 (.reg [q 56 (.mv (.s 10)),q 57 (.int .add (.s 56) (.c (.int .i64 1))),q 10 (.mv (.s 57))])))))))))
 (.seq (.reg [q 58 (.mv (.s 9)),q 59 (.mv (.s 10)),q 60 (.mv (.s 0)),q 61 (.idx 1 (.s 58) (.s 59)),
   ⟨none, .store 1 (.s 61) (.s 60), none⟩])
 (.seq (.reg [q 62 (.mv (.s 9)),q 63 (.mv (.s 10)),q 64 (.int .add (.s 63) (.c (.int .i64 1))),q 65 (.slc 1 (.s 62) none (some (.s 64)) none),q 8 (.mv (.s 65))])
 .ret)))))))))))⟩
def sf205 : SF :=
 ⟨1, 6, [.t 2],
 (.seq (.reg [q 2 (.mv (.c (.bool false)))])
 (.seq (.reg [q 3 (.mv (.s 0)),q 4 (.mv (.s 0)),q 5 (.str .neq (.s 3) (.s 4)),q 2 (.mv (.s 5))])
 .ret))⟩
def sf206 : SF :=
 ⟨2, 19, [.t 4],
 (.seq (.reg [q 4 (.mv (.c (.int .i64 0)))])
 (.seq (.seq (.reg [q 6 (.mv (.s 0)),q 7 (.slen (.s 6)),q 8 (.int .sub (.s 7) (.c (.int .i64 1))),q 5 (.mv (.s 8))])
 (.block 0 (.loop (.seq (.seq (.reg [q 9 (.mv (.s 5)),q 10 (.int .geq (.s 9) (.c (.int .i64 0)))])
 (.cond (.s 10) .skip
 (.exit 0)))
 (.seq (.block 1 (.seq (.reg [q 13 (.mv (.s 0)),q 14 (.mv (.s 5)),q 15 (.sidx (.s 13) (.s 14)),q 16 (.mv (.s 1)),q 17 (.int .eql (.s 15) (.s 16))])
 (.cond (.s 17) (.seq (.reg [q 18 (.mv (.s 5)),q 4 (.mv (.s 18))])
 .ret)
 .skip)))
 (.reg [q 11 (.mv (.s 5)),q 12 (.int .sub (.s 11) (.c (.int .i64 1))),q 5 (.mv (.s 12))]))))))
 (.seq (.reg [q 4 (.mv (.c (.int .i64 (-1))))])
 .ret)))⟩
def sf210 : SF :=
 ⟨2, 19, [.t 4],
 (.seq (.reg [q 4 (.mv (.c (.int .i64 0)))])
 (.seq (.seq (.reg [q 6 (.mv (.s 0)),q 7 (.len (.s 6)),q 8 (.mv (.c (.int .i64 0)))])
 (.block 0 (.loop (.seq (.reg [q 9 (.int .lss (.s 8) (.s 7))])
 (.seq (.cond (.s 9) .skip
 (.exit 0))
 (.seq (.block 1 (.seq (.reg [q 10 (.mv (.s 8)),q 5 (.mv (.s 10))])
 (.seq (.reg [q 11 (.mv (.s 1)),q 12 (.mv (.s 0)),q 13 (.mv (.s 5)),q 14 (.idx 1 (.s 12) (.s 13)),q 15 (.load false 1 (.s 14)),q 16 (.callv (.s 11) [(.s 15)])])
 (.cond (.s 16) (.seq (.reg [q 17 (.mv (.s 5)),q 4 (.mv (.s 17))])
 .ret)
 .skip))))
 (.reg [q 18 (.int .add (.s 8) (.c (.int .i64 1))),q 8 (.mv (.s 18))])))))))
 (.seq (.reg [q 4 (.mv (.c (.int .i64 (-1))))])
 .ret)))⟩
def sf211 : SF :=
 ⟨1, 39, [.t 2],
 (.seq (.reg [q 2 (.mv (.c (.bool false)))])
 (.seq (.seq (.reg [q 5 (.mv (.s 0)),q 6 (.str .eql (.s 5) (.c (.string ⟨#[]⟩))),q 7 (.mv (.s 6)),
   ⟨some 8, .mv (.s 0), (some (7, false))⟩,
   ⟨some 9, .slen (.s 8), (some (7, false))⟩,
   ⟨some 10, .int .gtr (.s 9) (.c (.int .i64 32)), (some (7, false))⟩,
   q 11 (.pick (.s 7) (.c (.bool true)) (.s 10)),q 12 (.mv (.s 11)),
   ⟨some 13, .mv (.s 0), (some (12, false))⟩,
   ⟨some 14, .str .eql (.s 13) (.c (.string ⟨#[46]⟩)), (some (12, false))⟩,
   q 15 (.pick (.s 12) (.c (.bool true)) (.s 14)),q 16 (.mv (.s 15)),
   ⟨some 17, .mv (.s 0), (some (16, false))⟩,
   ⟨some 18, .str .eql (.s 17) (.c (.string ⟨#[46, 46]⟩)), (some (16, false))⟩,
   q 19 (.pick (.s 16) (.c (.bool true)) (.s 18))])
 (.cond (.s 19) (.seq (.reg [q 2 (.mv (.c (.bool false)))])
 .ret)
 .skip))
 (.seq (.seq (.reg [q 20 (.mv (.s 0)),q 21 (.slen (.s 20)),q 22 (.mv (.c (.int .i64 0)))])
 (.block 0 (.loop (.seq (.reg [q 23 (.int .lss (.s 22) (.s 21))])
 (.seq (.cond (.s 23) .skip
 (.exit 0))
 (.seq (.block 1 (.seq (.reg [q 24 (.mv (.s 22)),q 3 (.mv (.s 24))])
 (.seq (.reg [q 25 (.mv (.s 0)),q 26 (.mv (.s 3)),q 27 (.sidx (.s 25) (.s 26)),q 4 (.mv (.s 27))])
 (.seq (.reg [q 28 (.mv (.s 4)),q 29 (.int .eql (.s 28) (.c (.int .u8 47))),q 30 (.mv (.s 29)),
   ⟨some 31, .mv (.s 4), (some (30, false))⟩,
   ⟨some 32, .int .leq (.s 31) (.c (.int .u8 32)), (some (30, false))⟩,
   q 33 (.pick (.s 30) (.c (.bool true)) (.s 32)),q 34 (.mv (.s 33)),
   ⟨some 35, .mv (.s 4), (some (34, false))⟩,
   ⟨some 36, .int .gtr (.s 35) (.c (.int .u8 126)), (some (34, false))⟩,
   q 37 (.pick (.s 34) (.c (.bool true)) (.s 36))])
 (.cond (.s 37) (.seq (.reg [q 2 (.mv (.c (.bool false)))])
 .ret)
 .skip)))))
 (.reg [q 38 (.int .add (.s 22) (.c (.int .i64 1))),q 22 (.mv (.s 38))])))))))
 (.seq (.reg [q 2 (.mv (.c (.bool true)))])
 .ret))))⟩
def sf212 : SF :=
 ⟨2, 18, [.t 4],
 (.seq (.reg [q 4 (.mv (.c (.bool false)))])
 (.seq (.reg [q 5 (.mv (.s 0)),q 6 (.slen (.s 5)),q 7 (.mv (.s 1)),q 8 (.slen (.s 7)),q 9 (.int .geq (.s 6) (.s 8)),q 10 (.mv (.s 9)),
   ⟨some 11, .mv (.s 0), (some (10, true))⟩,
   ⟨some 12, .mv (.s 1), (some (10, true))⟩,
   ⟨some 13, .slen (.s 12), (some (10, true))⟩,
   ⟨some 14, .ssl (.s 11) none (some (.s 13)), (some (10, true))⟩,
   ⟨some 15, .mv (.s 1), (some (10, true))⟩,
   ⟨some 16, .str .eql (.s 14) (.s 15), (some (10, true))⟩,
   q 17 (.pick (.s 10) (.s 16) (.c (.bool false))),q 4 (.mv (.s 17))])
 .ret))⟩
def sf214 : SF :=
 ⟨2, 34, [.t 4],
 (.seq (.reg [q 4 (.mv (.c (.int .i64 0)))])
 (.seq (.seq (.reg [q 7 (.mv (.s 1)),q 8 (.slen (.s 7)),q 9 (.int .eql (.s 8) (.c (.int .i64 0)))])
 (.cond (.s 9) (.seq (.reg [q 10 (.mv (.s 0)),q 11 (.dead),q 12 (.int .add (.s 11) (.c (.int .i64 1))),q 4 (.mv (.s 12))])
 .ret)
 .skip))
 (.seq (.seq (.reg [q 13 (.mv (.s 1)),q 14 (.slen (.s 13)),q 15 (.int .eql (.s 14) (.c (.int .i64 1)))])
 (.cond (.s 15) (.seq (.reg [q 16 (.mv (.s 0)),q 17 (.mv (.s 1)),q 18 (.sidx (.s 17) (.c (.int .i64 0))),q 19 (.nd .cntb [(.s 16), (.s 18)]),q 4 (.mv (.s 19))])
 .ret)
 .skip))
 (.seq (.reg [q 5 (.mv (.c (.int .i64 0)))])
 (.block 0 (.loop (.block 1 (.seq (.reg [q 20 (.mv (.s 0)),q 21 (.mv (.s 1)),q 22 (.call 218 [(.s 20), (.s 21)]),q 6 (.mv (.s 22))])
 (.seq (.seq (.reg [q 23 (.mv (.s 6)),q 24 (.int .eql (.s 23) (.c (.int .i64 (-1))))])
 (.cond (.s 24) (.seq (.reg [q 25 (.mv (.s 5)),q 4 (.mv (.s 25))])
 .ret)
 .skip))
 (.seq (.reg [q 26 (.mv (.s 5)),q 27 (.int .add (.s 26) (.c (.int .i64 1))),q 5 (.mv (.s 27))])
 (.reg [q 28 (.mv (.s 0)),q 29 (.mv (.s 6)),q 30 (.mv (.s 1)),q 31 (.slen (.s 30)),q 32 (.int .add (.s 29) (.s 31)),q 33 (.ssl (.s 28) (some (.s 32)) none),q 0 (.mv (.s 33))])))))))))))⟩
def sf218 : SF :=
 ⟨2, 8, [.t 4],
 (.seq (.reg [q 4 (.mv (.c (.int .i64 0)))])
 (.seq (.reg [q 5 (.mv (.s 0)),q 6 (.mv (.s 1)),q 7 (.call 219 [(.s 5), (.s 6)]),q 4 (.mv (.s 7))])
 .ret))⟩
def sf219 : SF :=
 ⟨2, 143, [.t 4],
 (.seq (.reg [q 4 (.mv (.c (.int .i64 0)))])
 (.seq (.reg [q 14 (.mv (.s 1)),q 15 (.slen (.s 14)),q 5 (.mv (.s 15))])
 (.seq (.block 0 (.seq (.reg [q 17 (.mv (.s 5)),q 18 (.int .eql (.s 17) (.c (.int .i64 0))),q 19 (.mv (.s 18)),
   ⟨some 20, .mv (.s 1), (some (19, false))⟩,
   ⟨some 21, .mv (.s 0), (some (19, false))⟩,
   ⟨some 22, .str .eql (.s 20) (.s 21), (some (19, false))⟩,
   q 23 (.pick (.s 19) (.c (.bool true)) (.s 22)),q 16 (.mv (.s 23))])
 (.cond (.s 16) (.seq (.reg [q 4 (.mv (.c (.int .i64 0)))])
 .ret)
 (.seq (.reg [q 25 (.mv (.s 5)),q 26 (.int .eql (.s 25) (.c (.int .i64 1))),q 24 (.mv (.s 26))])
 (.cond (.s 24) (.seq (.reg [q 27 (.mv (.s 0)),q 28 (.mv (.s 1)),q 29 (.sidx (.s 28) (.c (.int .i64 0))),q 30 (.call 221 [(.s 27), (.s 29)]),q 4 (.mv (.s 30))])
 .ret)
 (.seq (.reg [q 32 (.mv (.s 5)),q 33 (.mv (.s 0)),q 34 (.slen (.s 33)),q 35 (.int .geq (.s 32) (.s 34)),q 31 (.mv (.s 35))])
 (.cond (.s 31) (.seq (.reg [q 4 (.mv (.c (.int .i64 (-1))))])
 .ret)
 (.seq (.reg [q 37 (.mv (.s 5)),q 38 (.dead),q 39 (.int .leq (.s 37) (.s 38)),q 40 (.mv (.s 39)),
   ⟨some 41, .mv (.s 0), (some (40, true))⟩,
   ⟨some 42, .slen (.s 41), (some (40, true))⟩,
   ⟨some 43, .int .leq (.s 42) (.c (.int .i64 64)), (some (40, true))⟩,
   q 44 (.pick (.s 40) (.s 43) (.c (.bool false))),q 36 (.mv (.s 44))])
 (.cond (.s 36) (.seq (.reg [q 45 (.mv (.s 0)),q 46 (.mv (.s 1)),q 47 (.dead),q 4 (.mv (.s 47))])
 .ret)
 .skip)))))))))
 (.seq (.reg [q 48 (.mv (.s 1)),q 49 (.sidx (.s 48) (.c (.int .i64 0))),q 6 (.mv (.s 49))])
 (.seq (.reg [q 50 (.mv (.s 1)),q 51 (.sidx (.s 50) (.c (.int .i64 1))),q 7 (.mv (.s 51))])
 (.seq (.reg [q 8 (.mv (.c (.int .i64 0)))])
 (.seq (.reg [q 52 (.mv (.s 0)),q 53 (.slen (.s 52)),q 54 (.mv (.s 5)),q 55 (.int .sub (.s 53) (.s 54)),q 56 (.int .add (.s 55) (.c (.int .i64 1))),q 9 (.mv (.s 56))])
 (.seq (.reg [q 10 (.mv (.c (.int .i64 0)))])
 (.seq (.block 1 (.loop (.seq (.seq (.reg [q 57 (.mv (.s 8)),q 58 (.mv (.s 9)),q 59 (.int .lss (.s 57) (.s 58))])
 (.cond (.s 59) .skip
 (.exit 1)))
 (.block 2 (.seq (.seq (.reg [q 60 (.mv (.s 0)),q 61 (.mv (.s 8)),q 62 (.sidx (.s 60) (.s 61)),q 63 (.mv (.s 6)),q 64 (.int .neq (.s 62) (.s 63))])
 (.cond (.s 64) (.seq (.reg [q 65 (.mv (.s 0)),q 66 (.mv (.s 8)),q 67 (.int .add (.s 66) (.c (.int .i64 1))),q 68 (.mv (.s 9)),q 69 (.ssl (.s 65) (some (.s 67)) (some (.s 68))),q 70 (.mv (.s 6)),q 71 (.call 221 [(.s 69), (.s 70)]),q 11 (.mv (.s 71))])
 (.seq (.seq (.reg [q 72 (.mv (.s 11)),q 73 (.int .lss (.s 72) (.c (.int .i64 0)))])
 (.cond (.s 73) (.seq (.reg [q 4 (.mv (.c (.int .i64 (-1))))])
 .ret)
 .skip))
 (.reg [q 74 (.mv (.s 8)),q 75 (.mv (.s 11)),q 76 (.int .add (.s 75) (.c (.int .i64 1))),q 77 (.int .add (.s 74) (.s 76)),q 8 (.mv (.s 77))])))
 .skip))
 (.seq (.seq (.reg [q 78 (.mv (.s 0)),q 79 (.mv (.s 8)),q 80 (.int .add (.s 79) (.c (.int .i64 1))),q 81 (.sidx (.s 78) (.s 80)),q 82 (.mv (.s 7)),q 83 (.int .eql (.s 81) (.s 82)),q 84 (.mv (.s 83)),
   ⟨some 85, .mv (.s 0), (some (84, true))⟩,
   ⟨some 86, .mv (.s 8), (some (84, true))⟩,
   ⟨some 87, .mv (.s 8), (some (84, true))⟩,
   ⟨some 88, .mv (.s 5), (some (84, true))⟩,
   ⟨some 89, .int .add (.s 87) (.s 88), (some (84, true))⟩,
   ⟨some 90, .ssl (.s 85) (some (.s 86)) (some (.s 89)), (some (84, true))⟩,
   ⟨some 91, .mv (.s 1), (some (84, true))⟩,
   ⟨some 92, .str .eql (.s 90) (.s 91), (some (84, true))⟩,
   q 93 (.pick (.s 84) (.s 92) (.c (.bool false)))])
 (.cond (.s 93) (.seq (.reg [q 94 (.mv (.s 8)),q 4 (.mv (.s 94))])
 .ret)
 .skip))
 (.seq (.reg [q 95 (.mv (.s 8)),q 96 (.int .add (.s 95) (.c (.int .i64 1))),q 8 (.mv (.s 96))])
 (.seq (.reg [q 97 (.mv (.s 10)),q 98 (.int .add (.s 97) (.c (.int .i64 1))),q 10 (.mv (.s 98))])
 (.seq (.reg [q 99 (.mv (.s 5)),q 100 (.dead),q 101 (.int .leq (.s 99) (.s 100)),q 102 (.mv (.s 101)),
   ⟨some 103, .mv (.s 10), (some (102, true))⟩,
   ⟨some 104, .mv (.s 8), (some (102, true))⟩,
   ⟨some 105, .dead, (some (102, true))⟩,
   ⟨some 106, .int .gtr (.s 103) (.s 105), (some (102, true))⟩,
   q 107 (.pick (.s 102) (.s 106) (.c (.bool false)))])
 (.cond (.s 107) (.seq (.reg [q 108 (.mv (.s 0)),q 109 (.mv (.s 8)),q 110 (.ssl (.s 108) (some (.s 109)) none),q 111 (.mv (.s 1)),q 112 (.dead),q 12 (.mv (.s 112))])
 (.seq (.seq (.reg [q 113 (.mv (.s 12)),q 114 (.int .geq (.s 113) (.c (.int .i64 0)))])
 (.cond (.s 114) (.seq (.reg [q 115 (.mv (.s 12)),q 116 (.mv (.s 8)),q 117 (.int .add (.s 115) (.s 116)),q 4 (.mv (.s 117))])
 .ret)
 .skip))
 (.seq (.reg [q 4 (.mv (.c (.int .i64 (-1))))])
 .ret)))
 (.seq (.reg [q 118 (.mv (.s 5)),q 119 (.dead),q 120 (.int .gtr (.s 118) (.s 119)),q 121 (.mv (.s 120)),
   ⟨some 122, .mv (.s 10), (some (121, true))⟩,
   ⟨some 123, .mv (.s 8), (some (121, true))⟩,
   ⟨some 124, .int .shr (.s 123) (.c (.int .u64 4)), (some (121, true))⟩,
   ⟨some 125, .int .add (.c (.int .i64 4)) (.s 124), (some (121, true))⟩,
   ⟨some 126, .int .geq (.s 122) (.s 125), (some (121, true))⟩,
   q 127 (.pick (.s 121) (.s 126) (.c (.bool false))),q 128 (.mv (.s 127)),
   ⟨some 129, .mv (.s 8), (some (128, true))⟩,
   ⟨some 130, .mv (.s 9), (some (128, true))⟩,
   ⟨some 131, .int .lss (.s 129) (.s 130), (some (128, true))⟩,
   q 132 (.pick (.s 128) (.s 131) (.c (.bool false)))])
 (.cond (.s 132) (.seq (.reg [q 133 (.mv (.s 0)),q 134 (.mv (.s 8)),q 135 (.ssl (.s 133) (some (.s 134)) none),q 136 (.mv (.s 1)),q 137 (.dead),q 13 (.mv (.s 137))])
 (.seq (.seq (.reg [q 138 (.mv (.s 13)),q 139 (.int .lss (.s 138) (.c (.int .i64 0)))])
 (.cond (.s 139) (.seq (.reg [q 4 (.mv (.c (.int .i64 (-1))))])
 .ret)
 .skip))
 (.seq (.reg [q 140 (.mv (.s 8)),q 141 (.mv (.s 13)),q 142 (.int .add (.s 140) (.s 141)),q 4 (.mv (.s 142))])
 .ret)))
 .skip))))))))))))
 (.seq (.reg [q 4 (.mv (.c (.int .i64 (-1))))])
 .ret))))))))))⟩
def sf221 : SF :=
 ⟨2, 8, [.t 4],
 (.seq (.reg [q 4 (.mv (.c (.int .i64 0)))])
 (.seq (.reg [q 5 (.mv (.s 0)),q 6 (.mv (.s 1)),q 7 (.nd .ixb [(.s 5), (.s 6)]),q 4 (.mv (.s 7))])
 .ret))⟩
def sf294 : SF :=
 ⟨1, 10, [.t 2],
 (.seq (.reg [q 2 (.mv (.c (.pointer none)))])
 (.seq (.reg [q 3 (.mv (.s 0)),q 4 (.mm false (.s 3) (.c (.int .i64 16777216))),q 5 (.mm true (.c (.int .i64 0)) (.s 4)),q 6 (.hop (.m .mk) []),q 7 (.hop (.m .mk) []),q 8 (.build [.v (.int .i64 0), .v (.map none), .v (.map none), .v (.slice none 0 0), .v (.slice none 0 0), .v (.bool false), .v (.int .i64 0), .v (.int .i64 0), .v (.bool false), .v (.int .i64 0)] [(0, 1, (.s 5)), (1, 1, (.s 6)), (2, 1, (.s 7)), (7, 1, (.c (.int .i64 (-1)))), (9, 1, (.c (.int .i64 (-1))))]),q 9 (.box none 10 (.s 8)),q 2 (.mv (.s 9))])
 .ret))⟩
def sf297 : SF :=
 ⟨3, 136, [],
 (.seq (.seq (.reg [q 13 (.mv (.s 0)),q 14 (.eq .ptr false (.s 13) (.c (.pointer none)))])
 (.cond (.s 14) .ret
 .skip))
 (.seq (.reg [q 15 (.mv (.s 0)),q 16 (.mv (.s 0)),q 17 (.nilc (.s 16)),q 18 (.fld 1 (.s 17)),q 19 (.load false 1 (.s 18)),q 20 (.call 329 [(.s 19)]),q 21 (.nilc (.s 15)),q 22 (.fld 2 (.s 21)),
   ⟨none, .store 1 (.s 22) (.s 20), none⟩])
 (.seq (.seq (.dreg [0, 1, 2, 4, 5, 6, 7, 14, 3, 8, 9, 10, 11, 12, 13] [w 23 (.mv (.s 0)),w 24 (.nilc (.s 23)),w 25 (.fld 3 (.s 24)),w 27 (.mv (.s 1)),w 28 (.mv (.s 0)),w 29 (.nilc (.s 28)),w 30 (.fld 3 (.s 29)),w 37 (.mv (.c (.int .i64 0))),w 26 (.load false 1 (.s 25)),w 31 (.load false 1 (.s 30)),w 32 (.len (.s 31)),w 33 (.mm false (.s 27) (.s 32)),w 34 (.mm true (.c (.int .i64 0)) (.s 33)),w 35 (.slc 2 (.s 26) none (some (.s 34)) none),w 36 (.len (.s 35))])
 (.block 0 (.loop (.seq (.reg [q 38 (.int .lss (.s 37) (.s 36))])
 (.seq (.cond (.s 38) .skip
 (.exit 0))
 (.seq (.block 1 (.seq (.reg [q 39 (.idx 2 (.s 35) (.s 37)),q 40 (.load true 2 (.s 39)),q 7 (.alloc (some 0) [.v (.slice none 0 0), .v (.slice none 0 0)]),
   ⟨none, .store 2 (.s 7) (.s 40), none⟩])
 (.dreg [0, 1, 2, 3, 4, 5] [w 41 (.mv (.s 0)),w 42 (.nilc (.s 41)),w 43 (.fld 2 (.s 42)),w 44 (.load false 1 (.s 43)),w 45 (.load true 2 (.s 7)),w 46 (.call 330 [(.s 44), (.s 45)])])))
 (.reg [q 47 (.int .add (.s 37) (.c (.int .i64 1))),q 37 (.mv (.s 47))])))))))
 (.seq (.reg [q 48 (.mv (.s 0)),q 49 (.mv (.s 0)),q 50 (.mv (.s 0)),q 51 (.nilc (.s 50)),q 52 (.fld 2 (.s 51)),q 53 (.load false 1 (.s 52)),q 54 (.call 329 [(.s 53)]),q 55 (.nilc (.s 48)),q 56 (.fld 1 (.s 55)),
   ⟨none, .store 1 (.s 56) (.s 54), none⟩,
   q 57 (.nilc (.s 49)),q 58 (.fld 3 (.s 57)),
   ⟨none, .store 1 (.s 58) (.c (.slice none 0 0)), none⟩])
 (.seq (.seq (.reg [q 59 (.mv (.s 0)),q 60 (.call 331 [(.s 59)]),q 61 (.len (.s 60)),q 62 (.mv (.c (.int .i64 0)))])
 (.block 2 (.loop (.seq (.reg [q 63 (.int .lss (.s 62) (.s 61))])
 (.seq (.cond (.s 63) .skip
 (.exit 2))
 (.seq (.block 3 (.seq (.reg [q 64 (.idx 1 (.s 60) (.s 62)),q 65 (.load false 1 (.s 64)),q 9 (.mv (.s 65))])
 (.seq (.reg [q 67 (.mv (.s 0)),q 68 (.mv (.s 9)),q 69 (.call 332 [(.s 67), (.s 68)]),q 66 (.mv (.s 69)),q 70 (.ext (.s 66) 0),q 71 (.ext (.s 66) 1),q 10 (.mv (.s 70)),q 11 (.mv (.s 71))])
 (.seq (.seq (.reg [q 72 (.mv (.s 11)),q 73 (.int .neq (.s 72) (.c (.int .i64 0)))])
 (.cond (.s 73) (.exit 3)
 .skip))
 (.seq (.seq (.dreg [0, 1, 2, 5, 6, 7, 3, 4, 8, 9, 10] [w 74 (.mv (.s 10)),w 75 (.nilc (.s 74)),w 76 (.fld 0 (.s 75)),w 79 (.mv (.s 10)),w 80 (.nilc (.s 79)),w 81 (.fld 1 (.s 80)),w 77 (.load false 1 (.s 76)),w 78 (.len (.s 77)),w 82 (.load false 1 (.s 81)),w 83 (.int .sub (.s 78) (.s 82)),w 12 (.mv (.s 83))])
 (.seq (.reg [q 84 (.mv (.s 12)),q 85 (.int .gtr (.s 84) (.c (.int .i64 0))),q 86 (.mv (.s 85)),
   ⟨some 87, .mv (.s 2), (some (86, true))⟩,
   ⟨some 88, .len (.s 87), (some (86, true))⟩,
   ⟨some 89, .int .gtr (.s 88) (.c (.int .i64 0)), (some (86, true))⟩,
   q 90 (.pick (.s 86) (.s 89) (.c (.bool false)))])
 (.cond (.s 90) (.seq (.dreg [0, 1, 2, 4, 5, 8, 9, 3, 6, 7, 10, 11, 12, 13, 14] [w 91 (.mv (.s 10)),w 92 (.nilc (.s 91)),w 93 (.fld 1 (.s 92)),w 95 (.mv (.s 2)),w 96 (.idx 1 (.s 95) (.c (.int .i64 0))),w 99 (.mv (.s 12)),w 100 (.int .add (.s 99) (.c (.int .i64 1))),w 94 (.load false 1 (.s 93)),w 97 (.load false 1 (.s 96)),w 98 (.conv .i64 (.s 97)),w 101 (.int .rem (.s 98) (.s 100)),w 102 (.int .add (.s 94) (.s 101)),w 103 (.nilc (.s 91)),w 104 (.fld 1 (.s 103)),
   ⟨⟨none, .store 1 (.s 104) (.s 102), none⟩, []⟩])
 (.reg [q 105 (.mv (.s 2)),q 106 (.slc 1 (.s 105) (some (.c (.int .i64 1))) none none),q 2 (.mv (.s 106))]))
 .skip)))
 (.dreg [0, 1, 2, 3, 5, 6, 7, 9, 10, 11, 4, 8, 12, 13, 14, 15, 16] [w 107 (.mv (.s 10)),w 108 (.mv (.s 10)),w 109 (.nilc (.s 108)),w 110 (.fld 0 (.s 109)),w 112 (.mv (.s 10)),w 113 (.nilc (.s 112)),w 114 (.fld 1 (.s 113)),w 116 (.mv (.s 10)),w 117 (.nilc (.s 116)),w 118 (.fld 1 (.s 117)),w 111 (.load false 1 (.s 110)),w 115 (.load false 1 (.s 114)),w 119 (.load false 1 (.s 118)),w 120 (.slc 1 (.s 111) none (some (.s 115)) (some (.s 119))),w 121 (.nilc (.s 107)),w 122 (.fld 0 (.s 121)),
   ⟨⟨none, .store 1 (.s 122) (.s 120), none⟩, []⟩]))))))
 (.reg [q 123 (.int .add (.s 62) (.c (.int .i64 1))),q 62 (.mv (.s 123))])))))))
 (.reg [q 124 (.mv (.s 0)),q 125 (.mv (.s 0)),q 126 (.mv (.s 0)),q 127 (.mv (.s 0)),q 128 (.nilc (.s 124)),q 129 (.fld 5 (.s 128)),
   ⟨none, .store 1 (.s 129) (.c (.bool false)), none⟩,
   q 130 (.nilc (.s 125)),q 131 (.fld 8 (.s 130)),
   ⟨none, .store 1 (.s 131) (.c (.bool false)), none⟩,
   q 132 (.nilc (.s 126)),q 133 (.fld 7 (.s 132)),
   ⟨none, .store 1 (.s 133) (.c (.int .i64 (-1))), none⟩,
   q 134 (.nilc (.s 127)),q 135 (.fld 9 (.s 134)),
   ⟨none, .store 1 (.s 135) (.c (.int .i64 (-1))), none⟩]))))))⟩
def sf298 : SF :=
 ⟨2, 43, [.t 4],
 (.seq (.reg [q 2 (.box none 1 (.s 0)),q 3 (.box none 1 (.s 1)),q 4 (.mv (.c (.int .i64 0)))])
 (.seq (.seq (.reg [q 9 (.load false 1 (.s 2)),q 10 (.load false 1 (.s 3)),q 11 (.bslice 1 [(.s 10)]),q 12 (.call 333 [(.s 9), (.s 11)]),q 5 (.mv (.s 12))])
 (.seq (.reg [q 13 (.mv (.s 5)),q 14 (.int .neq (.s 13) (.c (.int .i64 0)))])
 (.cond (.s 14) (.seq (.reg [q 15 (.mv (.s 5)),q 4 (.mv (.s 15))])
 .ret)
 .skip)))
 (.seq (.seq (.dreg [0, 1, 2, 3, 4, 9, 5, 6, 7, 8, 10, 11] [w 17 (.load false 1 (.s 2)),w 18 (.nilc (.s 17)),w 19 (.fld 2 (.s 18)),w 20 (.load false 1 (.s 19)),w 21 (.load false 1 (.s 3)),w 6 (.alloc (some 2) [.v (.bool false), .v (.int .i64 0)]),w 22 (.hop (.m (.lkp true true true [.v (.bool false), .v (.int .i64 0)])) [(.s 20), (.s 21)]),w 16 (.mv (.s 22)),w 23 (.ext (.s 16) 0),w 24 (.ext (.s 16) 1),
   ⟨⟨none, .store 2 (.s 6) (.s 23), none⟩, []⟩,
   w 7 (.mv (.s 24))])
 (.seq (.reg [q 25 (.mv (.s 7)),q 26 (.not (.s 25))])
 (.cond (.s 26) (.seq (.reg [q 4 (.mv (.c (.int .i64 8)))])
 .ret)
 .skip)))
 (.seq (.seq (.reg [q 27 (.load false 1 (.s 2)),q 28 (.nilc (.s 27)),q 29 (.fld 2 (.s 28)),q 30 (.load false 1 (.s 29)),q 31 (.hop (.m .rng) [(.s 30)])])
 (.block 0 (.loop (.seq (.reg [q 32 (.hop (.m .nxt) [(.s 31)]),q 33 (.ext (.s 32) 0)])
 (.seq (.cond (.s 33) .skip
 (.exit 0))
 (.block 1 (.seq (.reg [q 34 (.hop (.m .ent) [(.s 31)]),q 35 (.ext (.s 34) 0),q 8 (.mv (.s 35))])
 (.seq (.dreg [0, 2, 1, 3] [w 36 (.mv (.s 8)),w 38 (.load false 1 (.s 3)),
   ⟨q 37 (.call 164 [(.s 36)]), [1]⟩,
   w 39 (.str .eql (.s 37) (.s 38))])
 (.cond (.s 39) (.seq (.reg [q 4 (.mv (.c (.int .i64 10)))])
 .ret)
 .skip)))))))))
 (.seq (.reg [q 40 (.load false 1 (.s 2)),q 41 (.mkfn 334 [(.s 2), (.s 3)]),q 42 (.call 335 [(.s 40), (.s 41)]),q 4 (.mv (.s 42))])
 .ret)))))⟩
def sf299 : SF :=
 ⟨2, 8, [.t 4],
 (.seq (.reg [q 4 (.mv (.c (.int .i64 0)))])
 (.seq (.reg [q 5 (.mv (.s 0)),q 6 (.mv (.s 1)),q 7 (.call 336 [(.s 5), (.s 6), (.c (.bool false))]),q 4 (.mv (.s 7))])
 .ret))⟩
def sf300 : SF :=
 ⟨2, 28, [.t 4, .t 5],
 (.seq (.reg [q 4 (.mv (.c (.slice none 0 0))),q 5 (.mv (.c (.int .i64 0)))])
 (.seq (.seq (.reg [q 9 (.mv (.s 0)),q 10 (.call 333 [(.s 9), (.c (.slice none 0 0))]),q 6 (.mv (.s 10))])
 (.seq (.reg [q 11 (.mv (.s 6)),q 12 (.int .neq (.s 11) (.c (.int .i64 0)))])
 (.cond (.s 12) (.seq (.reg [q 13 (.mv (.s 6)),q 4 (.mv (.c (.slice none 0 0))),q 5 (.mv (.s 13))])
 .ret)
 .skip)))
 (.seq (.reg [q 15 (.mv (.s 0)),q 16 (.mv (.s 1)),q 17 (.call 332 [(.s 15), (.s 16)]),q 14 (.mv (.s 17)),q 18 (.ext (.s 14) 0),q 19 (.ext (.s 14) 1),q 7 (.mv (.s 18)),q 8 (.mv (.s 19))])
 (.seq (.seq (.reg [q 20 (.mv (.s 8)),q 21 (.int .neq (.s 20) (.c (.int .i64 0)))])
 (.cond (.s 21) (.seq (.reg [q 22 (.mv (.s 8)),q 4 (.mv (.c (.slice none 0 0))),q 5 (.mv (.s 22))])
 .ret)
 .skip))
 (.seq (.reg [q 23 (.mv (.s 7)),q 24 (.nilc (.s 23)),q 25 (.fld 0 (.s 24)),q 26 (.load false 1 (.s 25)),q 27 (.call 186 [(.s 26)]),q 4 (.mv (.s 27)),q 5 (.mv (.c (.int .i64 0)))])
 .ret)))))⟩
def sf301 : SF :=
 ⟨3, 12, [.t 6],
 (.seq (.reg [q 5 (.box none 1 (.s 2)),q 6 (.mv (.c (.int .i64 0)))])
 (.seq (.reg [q 7 (.mv (.s 0)),q 8 (.mv (.s 1)),q 9 (.mkfn 337 [(.s 5)]),q 10 (.mkfn 338 [(.s 5)]),q 11 (.call 339 [(.s 7), (.s 8), (.s 9), (.s 10)]),q 6 (.mv (.s 11))])
 .ret))⟩
def sf302 : SF :=
 ⟨3, 12, [.t 6],
 (.seq (.reg [q 3 (.box none 1 (.s 0)),q 5 (.box none 1 (.s 2)),q 6 (.mv (.c (.int .i64 0)))])
 (.seq (.reg [q 7 (.load false 1 (.s 3)),q 8 (.mv (.s 1)),q 9 (.mkfn 340 [(.s 5), (.s 3)]),q 10 (.mkfn 341 [(.s 5)]),q 11 (.call 339 [(.s 7), (.s 8), (.s 9), (.s 10)]),q 6 (.mv (.s 11))])
 .ret))⟩
def sf303 : SF :=
 ⟨2, 8, [.t 4],
 (.seq (.reg [q 4 (.mv (.c (.int .i64 0)))])
 (.seq (.reg [q 5 (.mv (.s 0)),q 6 (.mv (.s 1)),q 7 (.call 339 [(.s 5), (.s 6), (.f 342), (.f 343)]),q 4 (.mv (.s 7))])
 .ret))⟩
def sf304 : SF :=
 ⟨1, 12, [.t 2],
 (.seq (.reg [q 1 (.box none 1 (.s 0)),q 2 (.mv (.c (.int .i64 0)))])
 (.seq (.seq (.reg [q 4 (.load false 1 (.s 1)),q 5 (.call 333 [(.s 4), (.c (.slice none 0 0))]),q 3 (.mv (.s 5))])
 (.seq (.reg [q 6 (.mv (.s 3)),q 7 (.int .neq (.s 6) (.c (.int .i64 0)))])
 (.cond (.s 7) (.seq (.reg [q 8 (.mv (.s 3)),q 2 (.mv (.s 8))])
 .ret)
 .skip)))
 (.seq (.reg [q 9 (.load false 1 (.s 1)),q 10 (.mkfn 344 [(.s 1)]),q 11 (.call 335 [(.s 9), (.s 10)]),q 2 (.mv (.s 11))])
 .ret)))⟩
def sf309 : SF :=
 ⟨3, 60, [.t 6],
 (.seq (.reg [q 3 (.box none 1 (.s 0)),q 4 (.box none 1 (.s 1)),q 5 (.box none 1 (.s 2)),q 6 (.mv (.c (.int .i64 0)))])
 (.seq (.seq (.reg [q 14 (.load false 1 (.s 3)),q 15 (.load false 1 (.s 4)),q 16 (.load false 1 (.s 5)),q 17 (.bslice 1 [(.s 15), (.s 16)]),q 18 (.call 333 [(.s 14), (.s 17)]),q 7 (.mv (.s 18))])
 (.seq (.reg [q 19 (.mv (.s 7)),q 20 (.int .neq (.s 19) (.c (.int .i64 0)))])
 (.cond (.s 20) (.seq (.reg [q 21 (.mv (.s 7)),q 6 (.mv (.s 21))])
 .ret)
 .skip)))
 (.seq (.seq (.reg [q 23 (.load false 1 (.s 3)),q 24 (.load false 1 (.s 4)),q 25 (.call 332 [(.s 23), (.s 24)]),q 22 (.mv (.s 25)),q 26 (.ext (.s 22) 0),q 27 (.ext (.s 22) 1),q 8 (.mv (.s 26)),q 9 (.mv (.s 27))])
 (.seq (.reg [q 28 (.mv (.s 9)),q 29 (.int .neq (.s 28) (.c (.int .i64 0)))])
 (.cond (.s 29) (.seq (.reg [q 30 (.mv (.s 9)),q 6 (.mv (.s 30))])
 .ret)
 .skip)))
 (.seq (.seq (.reg [q 31 (.load false 1 (.s 3)),q 32 (.load false 1 (.s 5)),q 33 (.call 350 [(.s 31), (.s 32)]),q 10 (.mv (.s 33))])
 (.seq (.reg [q 34 (.mv (.s 10)),q 35 (.int .neq (.s 34) (.c (.int .i64 0)))])
 (.cond (.s 35) (.seq (.reg [q 36 (.mv (.s 10)),q 6 (.mv (.s 36))])
 .ret)
 .skip)))
 (.seq (.seq (.dreg [0, 1, 2, 3, 4, 9, 5, 6, 7, 8, 10, 11] [w 38 (.load false 1 (.s 3)),w 39 (.nilc (.s 38)),w 40 (.fld 2 (.s 39)),w 41 (.load false 1 (.s 40)),w 42 (.load false 1 (.s 5)),w 11 (.alloc (some 3) [.v (.bool false), .v (.int .i64 0)]),w 43 (.hop (.m (.lkp true true true [.v (.bool false), .v (.int .i64 0)])) [(.s 41), (.s 42)]),w 37 (.mv (.s 43)),w 44 (.ext (.s 37) 0),w 45 (.ext (.s 37) 1),
   ⟨⟨none, .store 2 (.s 11) (.s 44), none⟩, []⟩,
   w 12 (.mv (.s 45))])
 (.seq (.reg [q 46 (.mv (.s 12)),q 47 (.mv (.s 46)),
   ⟨some 48, .fld 0 (.s 11), (some (47, true))⟩,
   ⟨some 49, .load false 1 (.s 48), (some (47, true))⟩,
   q 50 (.pick (.s 47) (.s 49) (.c (.bool false)))])
 (.cond (.s 50) (.seq (.reg [q 6 (.mv (.c (.int .i64 9)))])
 .ret)
 .skip)))
 (.seq (.dreg [0, 1, 2, 3, 4, 5, 6, 7] [w 51 (.load false 1 (.s 3)),w 52 (.nilc (.s 51)),w 53 (.fld 2 (.s 52)),w 54 (.load false 1 (.s 53)),w 55 (.load false 1 (.s 4)),w 56 (.lkc true false true [.v (.bool false), .v (.int .i64 0)] (.s 54) (.s 55)),w 13 (.alloc none [.v (.bool false), .v (.int .i64 0)]),
   ⟨⟨none, .store 2 (.s 13) (.s 56), none⟩, []⟩])
 (.seq (.reg [q 57 (.load false 1 (.s 3)),q 58 (.mkfn 351 [(.s 3), (.s 4), (.s 5), (.s 13)]),q 59 (.call 335 [(.s 57), (.s 58)]),q 6 (.mv (.s 59))])
 .ret)))))))⟩
def sf311 : SF :=
 ⟨2, 17, [.t 4],
 (.seq (.reg [q 4 (.mv (.c (.int .i64 0)))])
 (.seq (.seq (.reg [q 6 (.mv (.s 0)),q 7 (.call 333 [(.s 6), (.c (.slice none 0 0))]),q 5 (.mv (.s 7))])
 (.seq (.reg [q 8 (.mv (.s 5)),q 9 (.int .neq (.s 8) (.c (.int .i64 0)))])
 (.cond (.s 9) (.seq (.reg [q 10 (.mv (.s 5)),q 4 (.mv (.s 10))])
 .ret)
 .skip)))
 (.seq (.seq (.reg [q 11 (.mv (.s 1)),q 12 (.int .lss (.s 11) (.c (.int .i64 0)))])
 (.cond (.s 12) (.seq (.reg [q 4 (.mv (.c (.int .i64 2)))])
 .ret)
 .skip))
 (.seq (.reg [q 13 (.mv (.s 0)),q 14 (.mv (.s 1)),q 15 (.nilc (.s 13)),q 16 (.fld 9 (.s 15)),
   ⟨none, .store 1 (.s 16) (.s 14), none⟩])
 (.seq (.reg [q 4 (.mv (.c (.int .i64 0)))])
 .ret)))))⟩
def sf312 : SF :=
 ⟨1, 48, [.t 2],
 (.seq (.reg [q 2 (.mv (.c (.slice none 0 0)))])
 (.seq (.seq (.reg [q 9 (.mv (.s 0)),q 10 (.call 333 [(.s 9), (.c (.slice none 0 0))]),q 11 (.int .neq (.s 10) (.c (.int .i64 0)))])
 (.cond (.s 11) (.seq (.reg [q 2 (.mv (.c (.slice none 0 0)))])
 .ret)
 .skip))
 (.seq (.reg [q 3 (.mv (.c (.slice none 0 0)))])
 (.seq (.seq (.reg [q 12 (.mv (.s 0)),q 13 (.call 331 [(.s 12)]),q 14 (.len (.s 13)),q 15 (.mv (.c (.int .i64 0)))])
 (.block 0 (.loop (.seq (.reg [q 16 (.int .lss (.s 15) (.s 14))])
 (.seq (.cond (.s 16) .skip
 (.exit 0))
 (.seq (.block 1 (.seq (.reg [q 17 (.idx 1 (.s 13) (.s 15)),q 18 (.load false 1 (.s 17)),q 5 (.mv (.s 18))])
 (.seq (.reg [q 19 (.mv (.s 5)),q 20 (.mv (.s 0)),q 21 (.nilc (.s 20)),q 22 (.fld 2 (.s 21)),q 23 (.load false 1 (.s 22)),q 24 (.mv (.s 5)),q 25 (.hop (.m (.lkp true false true [.v (.bool false), .v (.int .i64 0)])) [(.s 23), (.s 24)]),q 26 (.field false 0 1 (.s 25)),q 27 (.build [.v (.string ⟨#[]⟩), .v (.bool false), .v (.slice none 0 0)] [(0, 1, (.s 19)), (1, 1, (.s 26))]),q 6 (.alloc (some 0) [.v (.string ⟨#[]⟩), .v (.bool false), .v (.slice none 0 0)]),
   ⟨none, .store 3 (.s 6) (.s 27), none⟩])
 (.seq (.seq (.reg [q 29 (.mv (.s 0)),q 30 (.mv (.s 5)),q 31 (.call 332 [(.s 29), (.s 30)]),q 28 (.mv (.s 31)),q 32 (.ext (.s 28) 0),q 33 (.ext (.s 28) 1),q 7 (.mv (.s 32)),q 8 (.mv (.s 33))])
 (.seq (.reg [q 34 (.mv (.s 8)),q 35 (.int .eql (.s 34) (.c (.int .i64 0)))])
 (.cond (.s 35) (.reg [q 36 (.mv (.s 7)),q 37 (.nilc (.s 36)),q 38 (.fld 0 (.s 37)),q 39 (.load false 1 (.s 38)),q 40 (.call 186 [(.s 39)]),q 41 (.fld 2 (.s 6)),
   ⟨none, .store 1 (.s 41) (.s 40), none⟩])
 .skip)))
 (.reg [q 42 (.mv (.s 3)),q 43 (.load true 3 (.s 6)),q 44 (.bslice 3 [(.s 43)]),q 45 (.app 3 48 (.s 42) (.s 44)),q 3 (.mv (.s 45))])))))
 (.reg [q 46 (.int .add (.s 15) (.c (.int .i64 1))),q 15 (.mv (.s 46))])))))))
 (.seq (.reg [q 47 (.mv (.s 3)),q 2 (.mv (.s 47))])
 .ret)))))⟩
def sf313 : SF :=
 ⟨1, 33, [.t 2],
 (.seq (.reg [q 2 (.mv (.c (.int .i64 0)))])
 (.seq (.seq (.reg [q 6 (.mv (.s 0)),q 7 (.eq .ptr false (.s 6) (.c (.pointer none)))])
 (.cond (.s 7) (.seq (.reg [q 2 (.mv (.c (.int .i64 0)))])
 .ret)
 .skip))
 (.seq (.reg [q 3 (.mv (.c (.int .i64 0)))])
 (.seq (.seq (.reg [q 8 (.mv (.s 0)),q 9 (.nilc (.s 8)),q 10 (.fld 2 (.s 9)),q 11 (.load false 1 (.s 10)),q 12 (.hop (.m .rng) [(.s 11)])])
 (.block 0 (.loop (.seq (.reg [q 13 (.hop (.m .nxt) [(.s 12)]),q 14 (.ext (.s 13) 0)])
 (.seq (.cond (.s 14) .skip
 (.exit 0))
 (.block 1 (.seq (.reg [q 15 (.hop (.m .ent) [(.s 12)]),q 16 (.ext (.s 15) 1),q 5 (.alloc (some 0) [.v (.bool false), .v (.int .i64 0)]),
   ⟨none, .store 2 (.s 5) (.s 16), none⟩])
 (.seq (.reg [q 17 (.fld 0 (.s 5)),q 18 (.load false 1 (.s 17)),q 19 (.not (.s 18))])
 (.cond (.s 19) (.dreg [0, 1, 2, 3, 5, 4, 6, 7, 8, 9, 10, 11, 12] [w 20 (.mv (.s 3)),w 21 (.mv (.s 0)),w 22 (.nilc (.s 21)),w 23 (.fld 4 (.s 22)),w 25 (.fld 1 (.s 5)),w 24 (.load false 1 (.s 23)),w 26 (.load false 1 (.s 25)),w 27 (.idx 2 (.s 24) (.s 26)),w 28 (.fld 0 (.s 27)),w 29 (.load false 1 (.s 28)),w 30 (.len (.s 29)),w 31 (.int .add (.s 20) (.s 30)),w 3 (.mv (.s 31))])
 .skip)))))))))
 (.seq (.reg [q 32 (.mv (.s 3)),q 2 (.mv (.s 32))])
 .ret)))))⟩
def sf315 : SF :=
 ⟨1, 9, [.t 2],
 (.seq (.reg [q 2 (.mv (.c (.int .i64 0)))])
 (.seq (.seq (.reg [q 3 (.mv (.s 0)),q 4 (.eq .ptr false (.s 3) (.c (.pointer none)))])
 (.cond (.s 4) (.seq (.reg [q 2 (.mv (.c (.int .i64 0)))])
 .ret)
 .skip))
 (.seq (.reg [q 5 (.mv (.s 0)),q 6 (.nilc (.s 5)),q 7 (.fld 6 (.s 6)),q 8 (.load false 1 (.s 7)),q 2 (.mv (.s 8))])
 .ret)))⟩
end Sm
