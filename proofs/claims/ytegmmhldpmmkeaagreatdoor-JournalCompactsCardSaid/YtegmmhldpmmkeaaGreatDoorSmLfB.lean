/-
  SfB
-/
import Derived.Test.YtegmmhldpmmkeaaGreatDoorSmLfA
set_option linter.unusedVariables false
set_option maxRecDepth 100000
namespace Sm
open Go
def sf329 : SF :=
 ⟨1, 9, [.t 2],
 (.seq (.reg [q 2 (.mv (.c (.map none)))])
 (.seq (.seq (.reg [q 3 (.mv (.s 0)),q 4 (.hop (.m (.isnil false)) [(.s 3)])])
 (.cond (.s 4) (.seq (.reg [q 2 (.mv (.c (.map none)))])
 .ret)
 .skip))
 (.seq (.reg [q 5 (.mv (.s 0)),q 6 (.hop (.m (.mki 91)) [(.s 5)]),q 7 (.hop (.m .cln) [(.s 6)]),q 8 (.hop (.m (.tas 91)) [(.s 7)]),q 2 (.mv (.s 8))])
 .ret)))⟩
def sf330 : SF :=
 ⟨2, 32, [],
 (.seq (.reg [q 3 (.box (some 0) 2 (.s 1))])
 (.seq (.reg [q 6 (.fld 0 (.s 3)),q 7 (.load false 1 (.s 6)),q 8 (.len (.s 7)),q 9 (.mv (.c (.int .i64 0)))])
 (.block 0 (.loop (.seq (.reg [q 10 (.int .lss (.s 9) (.s 8))])
 (.seq (.cond (.s 10) .skip
 (.exit 0))
 (.seq (.block 1 (.seq (.reg [q 11 (.mv (.s 9)),q 12 (.idx 1 (.s 7) (.s 9)),q 13 (.load false 1 (.s 12)),q 4 (.mv (.s 11)),q 5 (.mv (.s 13))])
 (.seq (.reg [q 14 (.fld 1 (.s 3)),q 15 (.load false 1 (.s 14)),q 16 (.mv (.s 4)),q 17 (.idx 1 (.s 15) (.s 16)),q 18 (.load false 1 (.s 17)),q 19 (.eq .ptr false (.s 18) (.c (.pointer none)))])
 (.cond (.s 19) (.reg [q 20 (.mv (.s 0)),q 21 (.mv (.s 5)),
   ⟨none, .hop (.m (.del true)) [(.s 20), (.s 21)], none⟩])
 (.reg [q 22 (.mv (.s 0)),q 23 (.mv (.s 5)),q 24 (.fld 1 (.s 3)),q 25 (.load false 1 (.s 24)),q 26 (.mv (.s 4)),q 27 (.idx 1 (.s 25) (.s 26)),q 28 (.load false 1 (.s 27)),q 29 (.nilc (.s 28)),q 30 (.load true 2 (.s 29)),
   ⟨none, .hop (.m (.upd true)) [(.s 22), (.s 23), (.s 30)], none⟩])))))
 (.reg [q 31 (.int .add (.s 9) (.c (.int .i64 1))),q 9 (.mv (.s 31))]))))))))⟩
def sf331 : SF :=
 ⟨1, 13, [.t 2],
 (.seq (.reg [q 2 (.mv (.c (.slice none 0 0)))])
 (.seq (.reg [q 4 (.mv (.s 0)),q 5 (.nilc (.s 4)),q 6 (.fld 2 (.s 5)),q 7 (.load false 1 (.s 6)),q 8 (.call 361 [(.s 7)]),q 9 (.call 90 [(.s 8)]),q 3 (.mv (.s 9))])
 (.seq (.reg [q 10 (.mv (.s 3)),q 11 (.call 362 [(.s 10), (.f 363)])])
 (.seq (.reg [q 12 (.mv (.s 3)),q 2 (.mv (.s 12))])
 .ret))))⟩
def sf332 : SF :=
 ⟨2, 30, [.t 4, .t 5],
 (.seq (.reg [q 4 (.mv (.c (.pointer none))),q 5 (.mv (.c (.int .i64 0)))])
 (.seq (.reg [q 9 (.mv (.s 0)),q 10 (.nilc (.s 9)),q 11 (.fld 2 (.s 10)),q 12 (.load false 1 (.s 11)),q 13 (.mv (.s 1)),q 14 (.hop (.m (.lkp true true true [.v (.bool false), .v (.int .i64 0)])) [(.s 12), (.s 13)]),q 8 (.mv (.s 14)),q 15 (.ext (.s 8) 0),q 16 (.ext (.s 8) 1),q 6 (.alloc (some 0) [.v (.bool false), .v (.int .i64 0)]),
   ⟨none, .store 2 (.s 6) (.s 15), none⟩,
   q 7 (.mv (.s 16))])
 (.seq (.block 0 (.seq (.reg [q 18 (.mv (.s 7)),q 19 (.not (.s 18)),q 17 (.mv (.s 19))])
 (.cond (.s 17) (.seq (.reg [q 4 (.mv (.c (.pointer none))),q 5 (.mv (.c (.int .i64 8)))])
 .ret)
 (.seq (.reg [q 21 (.fld 0 (.s 6)),q 22 (.load false 1 (.s 21)),q 20 (.mv (.s 22))])
 (.cond (.s 20) (.seq (.reg [q 4 (.mv (.c (.pointer none))),q 5 (.mv (.c (.int .i64 9)))])
 .ret)
 .skip)))))
 (.seq (.dreg [0, 1, 2, 4, 3, 5, 6, 7, 8] [w 23 (.mv (.s 0)),w 24 (.nilc (.s 23)),w 25 (.fld 4 (.s 24)),w 27 (.fld 1 (.s 6)),w 26 (.load false 1 (.s 25)),w 28 (.load false 1 (.s 27)),w 29 (.idx 2 (.s 26) (.s 28)),w 4 (.mv (.s 29)),w 5 (.mv (.c (.int .i64 0)))])
 .ret))))⟩
def sf333 : SF :=
 ⟨2, 28, [.t 4],
 (.seq (.reg [q 4 (.mv (.c (.int .i64 0)))])
 (.seq (.block 0 (.seq (.reg [q 9 (.mv (.s 0)),q 10 (.eq .ptr false (.s 9) (.c (.pointer none))),q 8 (.mv (.s 10))])
 (.cond (.s 8) (.seq (.reg [q 4 (.mv (.c (.int .i64 1)))])
 .ret)
 (.seq (.reg [q 12 (.mv (.s 0)),q 13 (.nilc (.s 12)),q 14 (.fld 5 (.s 13)),q 15 (.load false 1 (.s 14)),q 11 (.mv (.s 15))])
 (.cond (.s 11) (.seq (.reg [q 4 (.mv (.c (.int .i64 11)))])
 .ret)
 .skip)))))
 (.seq (.seq (.reg [q 16 (.mv (.s 1)),q 17 (.len (.s 16)),q 18 (.mv (.c (.int .i64 0)))])
 (.block 1 (.loop (.seq (.reg [q 19 (.int .lss (.s 18) (.s 17))])
 (.seq (.cond (.s 19) .skip
 (.exit 1))
 (.seq (.block 2 (.seq (.reg [q 20 (.idx 1 (.s 16) (.s 18)),q 21 (.load false 1 (.s 20)),q 6 (.mv (.s 21))])
 (.seq (.reg [q 22 (.mv (.s 6)),q 23 (.call 192 [(.s 22)]),q 7 (.mv (.s 23))])
 (.seq (.reg [q 24 (.mv (.s 7)),q 25 (.int .neq (.s 24) (.c (.int .i64 0)))])
 (.cond (.s 25) (.seq (.reg [q 26 (.mv (.s 7)),q 4 (.mv (.s 26))])
 .ret)
 .skip)))))
 (.reg [q 27 (.int .add (.s 18) (.c (.int .i64 1))),q 18 (.mv (.s 27))])))))))
 (.seq (.reg [q 4 (.mv (.c (.int .i64 0)))])
 .ret))))⟩
def sf334 : SF :=
 ⟨2, 8, [],
 (.reg [q 2 (.load false 1 (.s 0)),q 3 (.load false 1 (.s 1)),q 4 (.bslice 1 [(.s 3)]),q 5 (.bslice 1 [(.c (.pointer none))]),q 6 (.build [.v (.slice none 0 0), .v (.slice none 0 0)] [(0, 1, (.s 4)), (1, 1, (.s 5))]),q 7 (.call 364 [(.s 2), (.s 6)])])⟩
def sf335 : SF :=
 ⟨2, 37, [.t 4],
 (.seq (.reg [q 4 (.mv (.c (.int .i64 0)))])
 (.seq (.reg [q 7 (.mv (.s 0)),q 8 (.nilc (.s 7)),q 9 (.fld 6 (.s 8)),q 10 (.load false 1 (.s 9)),q 11 (.int .add (.s 10) (.c (.int .i64 1))),q 12 (.nilc (.s 7)),q 13 (.fld 6 (.s 12)),
   ⟨none, .store 1 (.s 13) (.s 11), none⟩])
 (.seq (.dreg [0, 1, 2, 4, 5, 6, 3, 7, 8, 9] [w 14 (.mv (.s 0)),w 15 (.nilc (.s 14)),w 16 (.fld 7 (.s 15)),w 18 (.mv (.s 0)),w 19 (.nilc (.s 18)),w 20 (.fld 9 (.s 19)),w 17 (.call 365 [(.s 16)]),w 21 (.call 365 [(.s 20)]),w 5 (.mv (.s 17)),w 6 (.mv (.s 21))])
 (.seq (.block 0 (.seq (.reg [q 23 (.mv (.s 5)),q 22 (.mv (.s 23))])
 (.cond (.s 22) (.seq (.reg [q 24 (.mv (.s 0)),q 25 (.nilc (.s 24)),q 26 (.fld 5 (.s 25)),
   ⟨none, .store 1 (.s 26) (.c (.bool true)), none⟩])
 (.seq (.seq (.reg [q 27 (.mv (.s 0)),q 28 (.nilc (.s 27)),q 29 (.fld 8 (.s 28)),q 30 (.load false 1 (.s 29))])
 (.cond (.s 30) (.reg [q 31 (.mv (.s 1)),q 32 (.callv (.s 31) [])])
 .skip))
 (.seq (.reg [q 4 (.mv (.c (.int .i64 11)))])
 .ret)))
 (.seq (.reg [q 34 (.mv (.s 6)),q 33 (.mv (.s 34))])
 (.cond (.s 33) (.seq (.reg [q 4 (.mv (.c (.int .i64 12)))])
 .ret)
 .skip)))))
 (.seq (.reg [q 35 (.mv (.s 1)),q 36 (.callv (.s 35) [])])
 (.seq (.reg [q 4 (.mv (.c (.int .i64 0)))])
 .ret))))))⟩
def sf336 : SF :=
 ⟨3, 37, [.t 6],
 (.seq (.reg [q 3 (.box none 1 (.s 0)),q 4 (.box none 1 (.s 1)),q 5 (.box none 1 (.s 2)),q 6 (.mv (.c (.int .i64 0)))])
 (.seq (.seq (.reg [q 11 (.load false 1 (.s 3)),q 12 (.load false 1 (.s 4)),q 13 (.bslice 1 [(.s 12)]),q 14 (.call 333 [(.s 11), (.s 13)]),q 7 (.mv (.s 14))])
 (.seq (.reg [q 15 (.mv (.s 7)),q 16 (.int .neq (.s 15) (.c (.int .i64 0)))])
 (.cond (.s 16) (.seq (.reg [q 17 (.mv (.s 7)),q 6 (.mv (.s 17))])
 .ret)
 .skip)))
 (.seq (.seq (.reg [q 18 (.load false 1 (.s 3)),q 19 (.load false 1 (.s 4)),q 20 (.call 350 [(.s 18), (.s 19)]),q 8 (.mv (.s 20))])
 (.seq (.reg [q 21 (.mv (.s 8)),q 22 (.int .neq (.s 21) (.c (.int .i64 0)))])
 (.cond (.s 22) (.seq (.reg [q 23 (.mv (.s 8)),q 6 (.mv (.s 23))])
 .ret)
 .skip)))
 (.seq (.seq (.dreg [0, 1, 2, 3, 4, 9, 5, 6, 7, 8, 10, 11] [w 25 (.load false 1 (.s 3)),w 26 (.nilc (.s 25)),w 27 (.fld 2 (.s 26)),w 28 (.load false 1 (.s 27)),w 29 (.load false 1 (.s 4)),w 9 (.alloc (some 3) [.v (.bool false), .v (.int .i64 0)]),w 30 (.hop (.m (.lkp true true true [.v (.bool false), .v (.int .i64 0)])) [(.s 28), (.s 29)]),w 24 (.mv (.s 30)),w 31 (.ext (.s 24) 0),w 32 (.ext (.s 24) 1),
   ⟨⟨none, .store 2 (.s 9) (.s 31), none⟩, []⟩,
   w 10 (.mv (.s 32))])
 (.seq (.reg [q 33 (.mv (.s 10))])
 (.cond (.s 33) (.seq (.reg [q 6 (.mv (.c (.int .i64 7)))])
 .ret)
 .skip)))
 (.seq (.reg [q 34 (.load false 1 (.s 3)),q 35 (.mkfn 366 [(.s 5), (.s 3), (.s 4)]),q 36 (.call 335 [(.s 34), (.s 35)]),q 6 (.mv (.s 36))])
 .ret)))))⟩
def sf337 : SF :=
 ⟨2, 15, [.t 3],
 (.seq (.reg [q 3 (.mv (.c (.int .i64 0)))])
 (.seq (.seq (.dreg [0, 1, 2, 4, 5, 6, 3, 7, 8, 9, 10] [w 4 (.load false 1 (.s 1)),w 5 (.int .lss (.s 4) (.c (.int .i64 0))),w 6 (.mv (.s 5)),
   ⟨⟨some 8, .mv (.s 0), (some (6, false))⟩, []⟩,
   ⟨⟨some 9, .nilc (.s 8), (some (6, false))⟩, []⟩,
   ⟨⟨some 10, .fld 0 (.s 9), (some (6, false))⟩, []⟩,
   ⟨⟨some 7, .load false 1 (.s 1), (some (6, false))⟩, []⟩,
   ⟨⟨some 11, .load false 1 (.s 10), (some (6, false))⟩, []⟩,
   ⟨⟨some 12, .len (.s 11), (some (6, false))⟩, []⟩,
   ⟨⟨some 13, .int .gtr (.s 7) (.s 12), (some (6, false))⟩, []⟩,
   w 14 (.pick (.s 6) (.c (.bool true)) (.s 13))])
 (.cond (.s 14) (.seq (.reg [q 3 (.mv (.c (.int .i64 13)))])
 .ret)
 .skip))
 (.seq (.reg [q 3 (.mv (.c (.int .i64 0)))])
 .ret)))⟩
def sf338 : SF :=
 ⟨2, 22, [],
 (.dreg [0, 1, 2, 3, 4, 10, 11, 12, 5, 6, 7, 8, 9, 13, 14, 15, 16, 17, 18, 19, 20] [w 3 (.mv (.s 0)),w 4 (.mv (.s 0)),w 5 (.mv (.s 0)),w 6 (.nilc (.s 5)),w 7 (.fld 0 (.s 6)),w 13 (.mv (.s 0)),w 14 (.nilc (.s 13)),w 15 (.fld 1 (.s 14)),w 8 (.load false 1 (.s 7)),w 9 (.load false 1 (.s 1)),w 10 (.load false 1 (.s 1)),w 11 (.slc 1 (.s 8) none (some (.s 9)) (some (.s 10))),w 12 (.load false 1 (.s 1)),w 16 (.load false 1 (.s 15)),w 17 (.mm false (.s 12) (.s 16)),w 18 (.nilc (.s 3)),w 19 (.fld 0 (.s 18)),
   ⟨⟨none, .store 1 (.s 19) (.s 11), none⟩, [12]⟩,
   w 20 (.nilc (.s 4)),w 21 (.fld 1 (.s 20)),
   ⟨⟨none, .store 1 (.s 21) (.s 17), none⟩, []⟩])⟩
def sf339 : SF :=
 ⟨4, 38, [.t 8],
 (.seq (.reg [q 7 (.box none 1 (.s 3)),q 8 (.mv (.c (.int .i64 0)))])
 (.seq (.seq (.reg [q 13 (.mv (.s 0)),q 14 (.mv (.s 1)),q 15 (.bslice 1 [(.s 14)]),q 16 (.call 333 [(.s 13), (.s 15)]),q 9 (.mv (.s 16))])
 (.seq (.reg [q 17 (.mv (.s 9)),q 18 (.int .neq (.s 17) (.c (.int .i64 0)))])
 (.cond (.s 18) (.seq (.reg [q 19 (.mv (.s 9)),q 8 (.mv (.s 19))])
 .ret)
 .skip)))
 (.seq (.reg [q 21 (.mv (.s 0)),q 22 (.mv (.s 1)),q 23 (.call 332 [(.s 21), (.s 22)]),q 20 (.mv (.s 23)),q 24 (.ext (.s 20) 0),q 25 (.ext (.s 20) 1),q 10 (.alloc none [.v (.pointer none)]),
   ⟨none, .store 1 (.s 10) (.s 24), none⟩,
   q 11 (.mv (.s 25))])
 (.seq (.seq (.reg [q 26 (.mv (.s 11)),q 27 (.int .neq (.s 26) (.c (.int .i64 0)))])
 (.cond (.s 27) (.seq (.reg [q 28 (.mv (.s 11)),q 8 (.mv (.s 28))])
 .ret)
 .skip))
 (.seq (.seq (.reg [q 29 (.mv (.s 2)),q 30 (.load false 1 (.s 10)),q 31 (.callv (.s 29) [(.s 30)]),q 12 (.mv (.s 31))])
 (.seq (.reg [q 32 (.mv (.s 12)),q 33 (.int .neq (.s 32) (.c (.int .i64 0)))])
 (.cond (.s 33) (.seq (.reg [q 34 (.mv (.s 12)),q 8 (.mv (.s 34))])
 .ret)
 .skip)))
 (.seq (.reg [q 35 (.mv (.s 0)),q 36 (.mkfn 367 [(.s 7), (.s 10)]),q 37 (.call 335 [(.s 35), (.s 36)]),q 8 (.mv (.s 37))])
 .ret))))))⟩
def sf340 : SF :=
 ⟨3, 15, [.t 4],
 (.seq (.reg [q 4 (.mv (.c (.int .i64 0)))])
 (.seq (.seq (.dreg [0, 1, 2, 3, 4, 5, 6, 7, 8, 9] [w 5 (.load false 1 (.s 1)),w 6 (.len (.s 5)),w 7 (.load false 1 (.s 2)),w 8 (.nilc (.s 7)),w 9 (.fld 0 (.s 8)),w 10 (.load false 1 (.s 9)),w 11 (.load false 1 (.s 2)),
   ⟨q 12 (.call 313 [(.s 11)]), [0, 2, 5]⟩,
   w 13 (.int .sub (.s 10) (.s 12)),w 14 (.int .gtr (.s 6) (.s 13))])
 (.cond (.s 14) (.seq (.reg [q 4 (.mv (.c (.int .i64 10)))])
 .ret)
 .skip))
 (.seq (.reg [q 4 (.mv (.c (.int .i64 0)))])
 .ret)))⟩
def sf341 : SF :=
 ⟨2, 13, [],
 (.dreg [0, 1, 2, 3, 4, 6, 5, 7, 8, 9, 10] [w 3 (.mv (.s 0)),w 4 (.mv (.s 0)),w 5 (.nilc (.s 4)),w 6 (.fld 0 (.s 5)),w 7 (.load false 1 (.s 6)),w 9 (.load false 1 (.s 1)),
   ⟨q 8 (.call 186 [(.s 7)]), [5]⟩,
   w 10 (.app 1 1 (.s 8) (.s 9)),w 11 (.nilc (.s 3)),w 12 (.fld 0 (.s 11)),
   ⟨⟨none, .store 1 (.s 12) (.s 10), none⟩, []⟩])⟩
def sf342 : SF :=
 ⟨1, 3, [.t 2],
 (.seq (.reg [q 2 (.mv (.c (.int .i64 0)))])
 (.seq (.reg [q 2 (.mv (.c (.int .i64 0)))])
 .ret))⟩
def sf343 : SF :=
 ⟨1, 10, [],
 (.reg [q 2 (.mv (.s 0)),q 3 (.mv (.s 0)),q 4 (.nilc (.s 3)),q 5 (.fld 0 (.s 4)),q 6 (.load false 1 (.s 5)),q 7 (.len (.s 6)),q 8 (.nilc (.s 2)),q 9 (.fld 1 (.s 8)),
   ⟨none, .store 1 (.s 9) (.s 7), none⟩])⟩
def sf344 : SF :=
 ⟨1, 12, [],
 (.dreg [0, 1, 2, 3, 4, 5, 6, 7, 8, 9, 10, 11, 12] [w 1 (.load false 1 (.s 0)),w 2 (.load false 1 (.s 0)),w 3 (.load false 1 (.s 0)),w 4 (.nilc (.s 3)),w 5 (.fld 2 (.s 4)),w 6 (.load false 1 (.s 5)),
   ⟨q 7 (.call 329 [(.s 6)]), [0, 1]⟩,
   w 8 (.nilc (.s 1)),w 9 (.fld 1 (.s 8)),
   ⟨⟨none, .store 1 (.s 9) (.s 7), none⟩, [1]⟩,
   w 10 (.nilc (.s 2)),w 11 (.fld 3 (.s 10)),
   ⟨⟨none, .store 1 (.s 11) (.c (.slice none 0 0)), none⟩, []⟩])⟩
def sf350 : SF :=
 ⟨2, 28, [.t 4],
 (.seq (.reg [q 4 (.mv (.c (.int .i64 0)))])
 (.seq (.reg [q 8 (.mv (.s 1)),q 9 (.call 164 [(.s 8)]),q 5 (.mv (.s 9))])
 (.seq (.seq (.reg [q 10 (.mv (.s 5)),q 11 (.str .eql (.s 10) (.c (.string ⟨#[]⟩)))])
 (.cond (.s 11) (.seq (.reg [q 4 (.mv (.c (.int .i64 0)))])
 .ret)
 .skip))
 (.seq (.reg [q 13 (.mv (.s 0)),q 14 (.nilc (.s 13)),q 15 (.fld 2 (.s 14)),q 16 (.load false 1 (.s 15)),q 17 (.mv (.s 5)),q 18 (.hop (.m (.lkp true true true [.v (.bool false), .v (.int .i64 0)])) [(.s 16), (.s 17)]),q 12 (.mv (.s 18)),q 19 (.ext (.s 12) 0),q 20 (.ext (.s 12) 1),q 6 (.alloc (some 0) [.v (.bool false), .v (.int .i64 0)]),
   ⟨none, .store 2 (.s 6) (.s 19), none⟩,
   q 7 (.mv (.s 20))])
 (.seq (.block 0 (.seq (.reg [q 22 (.mv (.s 7)),q 23 (.not (.s 22)),q 21 (.mv (.s 23))])
 (.cond (.s 21) (.seq (.reg [q 4 (.mv (.c (.int .i64 8)))])
 .ret)
 (.seq (.reg [q 25 (.fld 0 (.s 6)),q 26 (.load false 1 (.s 25)),q 27 (.not (.s 26)),q 24 (.mv (.s 27))])
 (.cond (.s 24) (.seq (.reg [q 4 (.mv (.c (.int .i64 9)))])
 .ret)
 .skip)))))
 (.seq (.reg [q 4 (.mv (.c (.int .i64 0)))])
 .ret))))))⟩
def sf351 : SF :=
 ⟨4, 11, [],
 (.reg [q 4 (.load false 1 (.s 0)),q 5 (.load false 1 (.s 1)),q 6 (.load false 1 (.s 2)),q 7 (.bslice 1 [(.s 5), (.s 6)]),q 8 (.bslice 1 [(.c (.pointer none)), (.s 3)]),q 9 (.build [.v (.slice none 0 0), .v (.slice none 0 0)] [(0, 1, (.s 7)), (1, 1, (.s 8))]),q 10 (.call 364 [(.s 4), (.s 9)])])⟩
def sf361 : SF :=
 ⟨1, 4, [.t 2],
 (.seq (.reg [q 1 (.box none 1 (.s 0)),q 2 (.mv (.c (.nilFunc)))])
 (.seq (.reg [q 3 (.mkfn 369 [(.s 1)]),q 2 (.mv (.s 3))])
 .ret))⟩
def sf362 : SF :=
 ⟨2, 14, [],
 (.seq (.reg [q 5 (.mv (.s 0)),q 6 (.len (.s 5)),q 4 (.mv (.s 6))])
 (.reg [q 7 (.mv (.s 0)),q 8 (.mv (.s 4)),q 9 (.mv (.s 4)),q 10 (.conv .u64 (.s 9)),q 11 (.dead),q 12 (.mv (.s 1)),q 13 (.dead)]))⟩
def sf363 : SF :=
 ⟨2, 13, [.t 4],
 (.seq (.reg [q 4 (.mv (.c (.int .i64 0)))])
 (.seq (.block 0 (.seq (.reg [q 6 (.mv (.s 0)),q 7 (.mv (.s 1)),q 8 (.call 163 [(.s 6), (.s 7)]),q 5 (.mv (.s 8))])
 (.cond (.s 5) (.seq (.reg [q 4 (.mv (.c (.int .i64 (-1))))])
 .ret)
 (.seq (.reg [q 10 (.mv (.s 1)),q 11 (.mv (.s 0)),q 12 (.call 163 [(.s 10), (.s 11)]),q 9 (.mv (.s 12))])
 (.cond (.s 9) (.seq (.reg [q 4 (.mv (.c (.int .i64 1)))])
 .ret)
 .skip)))))
 (.seq (.reg [q 4 (.mv (.c (.int .i64 0)))])
 .ret)))⟩
def sf364 : SF :=
 ⟨2, 31, [],
 (.seq (.reg [q 3 (.box (some 0) 2 (.s 1))])
 (.seq (.dreg [0, 1, 2, 3, 4, 5] [w 4 (.mv (.s 0)),w 5 (.nilc (.s 4)),w 6 (.fld 2 (.s 5)),w 7 (.load false 1 (.s 6)),w 8 (.load true 2 (.s 3)),w 9 (.call 330 [(.s 7), (.s 8)])])
 (.dreg [0, 1, 2, 3, 5, 6, 7, 10, 11, 12, 4, 8, 9, 13, 14, 15, 16, 17, 18, 19, 20, 21] [w 10 (.mv (.s 0)),w 11 (.mv (.s 0)),w 12 (.nilc (.s 11)),w 13 (.fld 3 (.s 12)),w 15 (.mv (.s 0)),w 16 (.nilc (.s 15)),w 17 (.fld 3 (.s 16)),w 20 (.mv (.s 0)),w 21 (.nilc (.s 20)),w 22 (.fld 3 (.s 21)),w 14 (.load false 1 (.s 13)),w 18 (.load false 1 (.s 17)),w 19 (.len (.s 18)),w 23 (.load false 1 (.s 22)),w 24 (.len (.s 23)),w 25 (.slc 2 (.s 14) none (some (.s 19)) (some (.s 24))),w 26 (.load true 2 (.s 3)),w 27 (.bslice 2 [(.s 26)]),w 28 (.app 2 48 (.s 25) (.s 27)),w 29 (.nilc (.s 10)),w 30 (.fld 3 (.s 29)),
   ⟨⟨none, .store 1 (.s 30) (.s 28), none⟩, []⟩])))⟩
def sf365 : SF :=
 ⟨1, 16, [.t 2],
 (.seq (.reg [q 2 (.mv (.c (.bool false)))])
 (.seq (.seq (.reg [q 3 (.mv (.s 0)),q 4 (.nilc (.s 3)),q 5 (.load false 1 (.s 4)),q 6 (.int .eql (.s 5) (.c (.int .i64 (-1))))])
 (.cond (.s 6) (.seq (.reg [q 2 (.mv (.c (.bool false)))])
 .ret)
 .skip))
 (.seq (.reg [q 7 (.mv (.s 0)),q 8 (.nilc (.s 7)),q 9 (.load false 1 (.s 8)),q 10 (.int .sub (.s 9) (.c (.int .i64 1))),q 11 (.nilc (.s 7)),
   ⟨none, .store 1 (.s 11) (.s 10), none⟩])
 (.seq (.reg [q 12 (.mv (.s 0)),q 13 (.nilc (.s 12)),q 14 (.load false 1 (.s 13)),q 15 (.int .eql (.s 14) (.c (.int .i64 (-1)))),q 2 (.mv (.s 15))])
 .ret))))⟩
def sf366 : SF :=
 ⟨3, 34, [],
 (.seq (.reg [q 4 (.load false 1 (.s 0)),q 5 (.build [.v (.bool false), .v (.int .i64 0)] [(0, 1, (.s 4))]),q 6 (.box none 2 (.s 5)),q 3 (.mv (.s 6))])
 (.seq (.seq (.reg [q 7 (.load false 1 (.s 0)),q 8 (.not (.s 7))])
 (.cond (.s 8) (.seq (.reg [q 9 (.mv (.s 3)),q 10 (.load false 1 (.s 1)),q 11 (.nilc (.s 10)),q 12 (.fld 4 (.s 11)),q 13 (.load false 1 (.s 12)),q 14 (.len (.s 13)),q 15 (.nilc (.s 9)),q 16 (.fld 1 (.s 15)),
   ⟨none, .store 1 (.s 16) (.s 14), none⟩])
 (.dreg [5, 6, 0, 1, 2, 3, 4, 7, 8, 9, 10] [w 22 (.build [.v (.slice none 0 0), .v (.int .i64 0)] []),w 23 (.bslice 2 [(.s 22)]),w 17 (.load false 1 (.s 1)),w 18 (.load false 1 (.s 1)),w 19 (.nilc (.s 18)),w 20 (.fld 4 (.s 19)),w 21 (.load false 1 (.s 20)),
   ⟨q 24 (.app 2 32 (.s 21) (.s 23)), [2]⟩,
   w 25 (.nilc (.s 17)),w 26 (.fld 4 (.s 25)),
   ⟨⟨none, .store 1 (.s 26) (.s 24), none⟩, []⟩]))
 .skip))
 (.reg [q 27 (.load false 1 (.s 1)),q 28 (.load false 1 (.s 2)),q 29 (.bslice 1 [(.s 28)]),q 30 (.mv (.s 3)),q 31 (.bslice 1 [(.s 30)]),q 32 (.build [.v (.slice none 0 0), .v (.slice none 0 0)] [(0, 1, (.s 29)), (1, 1, (.s 31))]),q 33 (.call 364 [(.s 27), (.s 32)])])))⟩
def sf367 : SF :=
 ⟨2, 5, [],
 (.reg [q 2 (.load false 1 (.s 0)),q 3 (.load false 1 (.s 1)),q 4 (.callv (.s 2) [(.s 3)])])⟩
def sf369 : SF :=
 ⟨2, 14, [],
 (.seq (.reg [q 4 (.load false 1 (.s 1)),q 5 (.hop (.m .rng) [(.s 4)])])
 (.block 0 (.loop (.seq (.reg [q 6 (.hop (.m .nxt) [(.s 5)]),q 7 (.ext (.s 6) 0)])
 (.seq (.cond (.s 7) .skip
 (.exit 0))
 (.block 1 (.seq (.reg [q 8 (.hop (.m .ent) [(.s 5)]),q 9 (.ext (.s 8) 0),q 3 (.mv (.s 9))])
 (.seq (.reg [q 10 (.mv (.s 0)),q 11 (.mv (.s 3)),q 12 (.callv (.s 10) [(.s 11)]),q 13 (.not (.s 12))])
 (.cond (.s 13) .ret
 .skip)))))))))⟩
def sf377 : SF :=
 ⟨2, 63, [.t 4],
 (.seq (.reg [q 4 (.mv (.c (.bool false)))])
 (.seq (.seq (.reg [q 6 (.mv (.s 0)),q 7 (.len (.s 6)),q 8 (.mv (.s 1)),q 9 (.int .gtr (.s 7) (.s 8))])
 (.cond (.s 9) (.seq (.reg [q 4 (.mv (.c (.bool false)))])
 .ret)
 .skip))
 (.seq (.seq (.reg [q 5 (.mv (.c (.int .i64 0)))])
 (.block 0 (.loop (.seq (.seq (.reg [q 10 (.mv (.s 5)),q 11 (.mv (.s 0)),q 12 (.len (.s 11)),q 13 (.int .lss (.s 10) (.s 12))])
 (.cond (.s 13) .skip
 (.exit 0)))
 (.seq (.block 1 (.seq (.reg [q 16 (.mv (.s 0)),q 17 (.mv (.s 5)),q 18 (.idx 44 (.s 16) (.s 17)),q 19 (.fld 1 (.s 18)),q 20 (.fld 2 (.s 19)),q 21 (.load false 1 (.s 20)),q 22 (.slen (.s 21)),q 23 (.int .gtr (.s 22) (.c (.int .i64 300))),q 24 (.mv (.s 23)),
   ⟨some 25, .mv (.s 0), (some (24, false))⟩,
   ⟨some 26, .mv (.s 5), (some (24, false))⟩,
   ⟨some 27, .idx 44 (.s 25) (.s 26), (some (24, false))⟩,
   ⟨some 28, .fld 38 (.s 27), (some (24, false))⟩,
   ⟨some 29, .fld 3 (.s 28), (some (24, false))⟩,
   ⟨some 30, .load false 1 (.s 29), (some (24, false))⟩,
   ⟨some 31, .len (.s 30), (some (24, false))⟩,
   ⟨some 32, .int .gtr (.s 31) (.c (.int .i64 300)), (some (24, false))⟩,
   q 33 (.pick (.s 24) (.c (.bool true)) (.s 32)),q 34 (.mv (.s 33)),
   ⟨some 35, .mv (.s 0), (some (34, false))⟩,
   ⟨some 36, .mv (.s 5), (some (34, false))⟩,
   ⟨some 37, .idx 44 (.s 35) (.s 36), (some (34, false))⟩,
   ⟨some 38, .fld 38 (.s 37), (some (34, false))⟩,
   ⟨some 39, .fld 1 (.s 38), (some (34, false))⟩,
   ⟨some 40, .load false 1 (.s 39), (some (34, false))⟩,
   ⟨some 41, .slen (.s 40), (some (34, false))⟩,
   ⟨some 42, .int .gtr (.s 41) (.c (.int .i64 300)), (some (34, false))⟩,
   q 43 (.pick (.s 34) (.c (.bool true)) (.s 42)),q 44 (.mv (.s 43)),
   ⟨some 45, .mv (.s 0), (some (44, false))⟩,
   ⟨some 46, .mv (.s 5), (some (44, false))⟩,
   ⟨some 47, .idx 44 (.s 45) (.s 46), (some (44, false))⟩,
   ⟨some 48, .fld 38 (.s 47), (some (44, false))⟩,
   ⟨some 49, .fld 2 (.s 48), (some (44, false))⟩,
   ⟨some 50, .load false 1 (.s 49), (some (44, false))⟩,
   ⟨some 51, .slen (.s 50), (some (44, false))⟩,
   ⟨some 52, .int .gtr (.s 51) (.c (.int .i64 300)), (some (44, false))⟩,
   q 53 (.pick (.s 44) (.c (.bool true)) (.s 52)),q 54 (.mv (.s 53)),
   ⟨some 55, .mv (.s 0), (some (54, false))⟩,
   ⟨some 56, .mv (.s 5), (some (54, false))⟩,
   ⟨some 57, .idx 44 (.s 55) (.s 56), (some (54, false))⟩,
   ⟨some 58, .fld 1 (.s 57), (some (54, false))⟩,
   ⟨some 59, .fld 1 (.s 58), (some (54, false))⟩,
   ⟨some 60, .load false 1 (.s 59), (some (54, false))⟩,
   ⟨some 61, .int .gtr (.s 60) (.c (.int .i64 2199023255552)), (some (54, false))⟩,
   q 62 (.pick (.s 54) (.c (.bool true)) (.s 61))])
 (.cond (.s 62) (.seq (.reg [q 4 (.mv (.c (.bool false)))])
 .ret)
 .skip)))
 (.reg [q 14 (.mv (.s 5)),q 15 (.int .add (.s 14) (.c (.int .i64 1))),q 5 (.mv (.s 15))]))))))
 (.seq (.reg [q 4 (.mv (.c (.bool true)))])
 .ret))))⟩
def sf378 : SF :=
 ⟨0, 81, [.t 0],
 (.seq (.reg [q 0 (.mv (.c (.bool false)))])
 (.seq (.reg [q 6 (.call 294 [(.c (.int .i64 1000))]),q 1 (.mv (.s 6))])
 (.seq (.reg [q 8 (.mv (.s 1)),q 9 (.call 379 [(.s 8)]),q 7 (.mv (.s 9)),q 10 (.ext (.s 7) 0),q 11 (.ext (.s 7) 1),q 2 (.mv (.s 10)),q 3 (.mv (.s 11))])
 (.seq (.seq (.reg [q 12 (.mv (.s 3)),q 13 (.int .neq (.s 12) (.c (.int .i64 0))),q 14 (.mv (.s 13)),
   ⟨some 15, .mv (.s 2), (some (14, false))⟩,
   ⟨some 16, .eq .ptr false (.s 15) (.c (.pointer none)), (some (14, false))⟩,
   q 17 (.pick (.s 14) (.c (.bool true)) (.s 16)),q 18 (.mv (.s 17)),
   ⟨some 19, .mv (.s 1), (some (18, false))⟩,
   ⟨some 20, .call 315 [(.s 19)], (some (18, false))⟩,
   ⟨some 21, .int .neq (.s 20) (.c (.int .i64 3)), (some (18, false))⟩,
   q 22 (.pick (.s 18) (.c (.bool true)) (.s 21)),q 23 (.mv (.s 22)),
   ⟨some 24, .mv (.s 2), (some (23, false))⟩,
   ⟨some 25, .build recZ [(2, 1, (.c (.string ⟨#[97]⟩))), (35, 1, (.c (.int .i64 3)))], (some (23, false))⟩,
   ⟨some 26, .call 386 [(.s 24), (.s 25)], (some (23, false))⟩,
   ⟨some 27, .int .neq (.s 26) (.c (.int .i64 0)), (some (23, false))⟩,
   q 28 (.pick (.s 23) (.c (.bool true)) (.s 27)),q 29 (.mv (.s 28)),
   ⟨some 30, .mv (.s 2), (some (29, false))⟩,
   ⟨some 31, .build recZ [(2, 1, (.c (.string ⟨#[97]⟩)))], (some (29, false))⟩,
   ⟨some 32, .call 386 [(.s 30), (.s 31)], (some (29, false))⟩,
   ⟨some 33, .int .neq (.s 32) (.c (.int .i64 16)), (some (29, false))⟩,
   q 34 (.pick (.s 29) (.c (.bool true)) (.s 33))])
 (.cond (.s 34) (.seq (.reg [q 0 (.mv (.c (.bool false)))])
 .ret)
 .skip))
 (.seq (.reg [q 35 (.mv (.s 1)),q 36 (.call 297 [(.s 35), (.c (.int .i64 0)), (.c (.slice none 0 0))])])
 (.seq (.reg [q 38 (.mv (.s 1)),q 39 (.call 379 [(.s 38)]),q 37 (.mv (.s 39)),q 40 (.ext (.s 37) 0),q 41 (.ext (.s 37) 1),q 4 (.mv (.s 40)),q 5 (.mv (.s 41))])
 (.seq (.reg [q 42 (.mv (.s 5)),q 43 (.int .eql (.s 42) (.c (.int .i64 0))),q 44 (.mv (.s 43)),
   ⟨some 45, .mv (.s 4), (some (44, true))⟩,
   ⟨some 46, .call 380 [(.s 45)], (some (44, true))⟩,
   ⟨some 47, .field false 0 1 (.s 46), (some (44, true))⟩,
   ⟨some 48, .len (.s 47), (some (44, true))⟩,
   ⟨some 49, .int .eql (.s 48) (.c (.int .i64 1)), (some (44, true))⟩,
   q 50 (.pick (.s 44) (.s 49) (.c (.bool false))),q 51 (.mv (.s 50)),
   ⟨some 52, .mv (.s 4), (some (51, true))⟩,
   ⟨some 53, .call 380 [(.s 52)], (some (51, true))⟩,
   ⟨some 54, .field false 1 1 (.s 53), (some (51, true))⟩,
   ⟨some 55, .int .eql (.s 54) (.c (.int .i64 1)), (some (51, true))⟩,
   q 56 (.pick (.s 51) (.s 55) (.c (.bool false))),q 57 (.mv (.s 56)),
   ⟨some 58, .mv (.s 4), (some (57, true))⟩,
   ⟨some 59, .call 382 [(.s 58)], (some (57, true))⟩,
   ⟨some 60, .int .eql (.s 59) (.c (.int .i64 0)), (some (57, true))⟩,
   q 61 (.pick (.s 57) (.s 60) (.c (.bool false))),q 62 (.mv (.s 61)),
   ⟨some 63, .mv (.s 4), (some (62, true))⟩,
   ⟨some 64, .call 388 [(.s 63)], (some (62, true))⟩,
   ⟨some 65, .not (.s 64), (some (62, true))⟩,
   q 66 (.pick (.s 62) (.s 65) (.c (.bool false))),q 67 (.mv (.s 66)),
   ⟨some 68, .call 396 [(.c (.int .i64 12))], (some (67, true))⟩,
   ⟨some 69, .str .eql (.s 68) (.c (.string ⟨#[46, 115, 117, 109, 112, 116, 101, 114, 45, 116, 49, 50]⟩)), (some (67, true))⟩,
   q 70 (.pick (.s 67) (.s 69) (.c (.bool false))),q 71 (.mv (.s 70)),q 72 (.pick (.s 71) (.c (.bool true)) (.c (.bool false))),q 73 (.mv (.s 72)),q 74 (.pick (.s 73) (.c (.bool true)) (.c (.bool false))),q 75 (.mv (.s 74)),q 76 (.pick (.s 75) (.c (.bool true)) (.c (.bool false))),q 77 (.mv (.s 76)),q 78 (.pick (.s 77) (.c (.bool true)) (.c (.bool false))),q 79 (.mv (.s 78)),q 80 (.pick (.s 79) (.c (.bool true)) (.c (.bool false))),q 0 (.mv (.s 80))])
 .ret)))))))⟩
def sf379 : SF :=
 ⟨1, 82, [.t 2, .t 3],
 (.seq (.reg [q 2 (.mv (.c (.pointer none))),q 3 (.mv (.c (.int .i64 0)))])
 (.seq (.seq (.reg [q 16 (.mv (.s 0)),q 17 (.eq .ptr false (.s 16) (.c (.pointer none)))])
 (.cond (.s 17) (.seq (.reg [q 2 (.mv (.c (.pointer none))),q 3 (.mv (.c (.int .i64 1)))])
 .ret)
 .skip))
 (.seq (.seq (.reg [q 18 (.mv (.s 0)),q 19 (.call 398 [(.s 18)]),q 4 (.mv (.s 19))])
 (.seq (.reg [q 20 (.mv (.s 4)),q 21 (.int .neq (.s 20) (.c (.int .i64 0)))])
 (.cond (.s 21) (.seq (.reg [q 22 (.mv (.s 4)),q 2 (.mv (.c (.pointer none))),q 3 (.mv (.s 22))])
 .ret)
 .skip)))
 (.seq (.reg [q 24 (.mv (.s 0)),q 25 (.call 300 [(.s 24), (.c (.string ⟨#[46, 115, 117, 109, 112, 116, 101, 114]⟩))]),q 23 (.mv (.s 25)),q 26 (.ext (.s 23) 0),q 27 (.ext (.s 23) 1),q 5 (.mv (.s 26)),q 6 (.mv (.s 27))])
 (.seq (.seq (.reg [q 28 (.mv (.s 6)),q 29 (.int .eql (.s 28) (.c (.int .i64 8)))])
 (.cond (.s 29) (.reg [q 30 (.mv (.s 0)),q 31 (.call 299 [(.s 30), (.c (.string ⟨#[46, 115, 117, 109, 112, 116, 101, 114]⟩))]),q 6 (.mv (.s 31))])
 .skip))
 (.seq (.seq (.reg [q 32 (.mv (.s 6)),q 33 (.int .neq (.s 32) (.c (.int .i64 0)))])
 (.cond (.s 33) (.seq (.reg [q 34 (.mv (.s 6)),q 2 (.mv (.c (.pointer none))),q 3 (.mv (.s 34))])
 .ret)
 .skip))
 (.seq (.seq (.reg [q 35 (.mv (.s 0)),q 36 (.call 304 [(.s 35)]),q 7 (.mv (.s 36))])
 (.seq (.reg [q 37 (.mv (.s 7)),q 38 (.int .neq (.s 37) (.c (.int .i64 0)))])
 (.cond (.s 38) (.seq (.reg [q 39 (.mv (.s 7)),q 2 (.mv (.c (.pointer none))),q 3 (.mv (.s 39))])
 .ret)
 .skip)))
 (.seq (.reg [q 41 (.mv (.s 5)),q 42 (.call 399 [(.s 41)]),q 40 (.mv (.s 42)),q 43 (.ext (.s 40) 0),q 44 (.ext (.s 40) 1),q 45 (.ext (.s 40) 2),q 8 (.mv (.s 43)),q 9 (.mv (.s 44)),q 10 (.mv (.s 45))])
 (.seq (.reg [q 47 (.mv (.s 8)),q 48 (.call 400 [(.s 47)]),q 46 (.mv (.s 48)),q 49 (.ext (.s 46) 0),q 50 (.ext (.s 46) 1),q 11 (.alloc (some 0) [.v (.slice none 0 0), .v (.int .i64 0)]),
   ⟨none, .store 2 (.s 11) (.s 49), none⟩,
   q 12 (.mv (.s 50))])
 (.seq (.dreg [0, 2, 3, 4, 1, 5, 6, 7, 8, 9] [w 51 (.mv (.s 0)),w 53 (.mv (.s 8)),w 54 (.mv (.s 12)),w 55 (.slc 37 (.s 53) none (some (.s 54)) none),w 52 (.load true 2 (.s 11)),
   ⟨q 56 (.call 401 [(.s 55)]), [4]⟩,
   w 57 (.len (.s 56)),w 58 (.build [.v (.pointer none), .v (.slice none 0 0), .v (.int .i64 0), .v (.int .i64 0), .v (.bool false)] [(0, 1, (.s 51)), (1, 2, (.s 52)), (3, 1, (.s 57))]),w 59 (.box none 5 (.s 58)),w 13 (.mv (.s 59))])
 (.seq (.seq (.reg [q 60 (.mv (.s 5)),q 61 (.len (.s 60)),q 62 (.mv (.s 13)),q 63 (.nilc (.s 62)),q 64 (.fld 3 (.s 63)),q 65 (.load false 1 (.s 64)),q 66 (.int .gtr (.s 61) (.s 65))])
 (.cond (.s 66) (.seq (.reg [q 67 (.mv (.s 0)),q 68 (.mv (.s 13)),q 69 (.nilc (.s 68)),q 70 (.fld 3 (.s 69)),q 71 (.load false 1 (.s 70)),q 72 (.call 301 [(.s 67), (.c (.string ⟨#[46, 115, 117, 109, 112, 116, 101, 114]⟩)), (.s 71)]),q 14 (.mv (.s 72))])
 (.seq (.reg [q 73 (.mv (.s 14)),q 74 (.int .neq (.s 73) (.c (.int .i64 0)))])
 (.cond (.s 74) (.seq (.reg [q 75 (.mv (.s 14)),q 2 (.mv (.c (.pointer none))),q 3 (.mv (.s 75))])
 .ret)
 .skip)))
 .skip))
 (.seq (.seq (.reg [q 76 (.mv (.s 0)),q 77 (.call 303 [(.s 76), (.c (.string ⟨#[46, 115, 117, 109, 112, 116, 101, 114]⟩))]),q 15 (.mv (.s 77))])
 (.seq (.reg [q 78 (.mv (.s 15)),q 79 (.int .neq (.s 78) (.c (.int .i64 0)))])
 (.cond (.s 79) (.seq (.reg [q 80 (.mv (.s 15)),q 2 (.mv (.c (.pointer none))),q 3 (.mv (.s 80))])
 .ret)
 .skip)))
 (.seq (.reg [q 81 (.mv (.s 13)),q 2 (.mv (.s 81)),q 3 (.mv (.c (.int .i64 0)))])
 .ret)))))))))))))⟩
def sf380 : SF :=
 ⟨1, 16, [.cell 2 true 2],
 (.seq (.reg [q 2 (.alloc (some 0) [.v (.slice none 0 0), .v (.int .i64 0)])])
 (.seq (.seq (.reg [q 4 (.mv (.s 0)),q 5 (.eq .ptr false (.s 4) (.c (.pointer none)))])
 (.cond (.s 5) (.seq (.reg [q 6 (.build [.v (.slice none 0 0), .v (.int .i64 0)] []),
   ⟨none, .store 2 (.s 2) (.s 6), none⟩])
 .ret)
 .skip))
 (.seq (.reg [q 7 (.mv (.s 0)),q 8 (.nilc (.s 7)),q 9 (.fld 1 (.s 8)),q 10 (.load true 2 (.s 9)),q 3 (.alloc (some 1) [.v (.slice none 0 0), .v (.int .i64 0)]),
   ⟨none, .store 2 (.s 3) (.s 10), none⟩])
 (.seq (.reg [q 11 (.fld 0 (.s 3)),q 12 (.load false 1 (.s 11)),q 13 (.call 402 [(.s 12)]),q 14 (.fld 0 (.s 3)),
   ⟨none, .store 1 (.s 14) (.s 13), none⟩])
 (.seq (.reg [q 15 (.load true 2 (.s 3)),
   ⟨none, .store 2 (.s 2) (.s 15), none⟩])
 .ret)))))⟩
def sf381 : SF :=
 ⟨2, 17, [.t 4],
 (.seq (.reg [q 2 (.box (some 0) 2 (.s 0)),q 3 (.box (some 1) 2 (.s 1)),q 4 (.mv (.c (.bool false)))])
 (.seq (.reg [q 5 (.fld 1 (.s 2)),q 6 (.load false 1 (.s 5)),q 7 (.fld 1 (.s 3)),q 8 (.load false 1 (.s 7)),q 9 (.int .eql (.s 6) (.s 8)),q 10 (.mv (.s 9)),
   ⟨some 11, .fld 0 (.s 2), (some (10, true))⟩,
   ⟨some 12, .load false 1 (.s 11), (some (10, true))⟩,
   ⟨some 13, .fld 0 (.s 3), (some (10, true))⟩,
   ⟨some 14, .load false 1 (.s 13), (some (10, true))⟩,
   ⟨some 15, .call 403 [(.s 12), (.s 14)], (some (10, true))⟩,
   q 16 (.pick (.s 10) (.s 15) (.c (.bool false))),q 4 (.mv (.s 16))])
 .ret))⟩
def sf382 : SF :=
 ⟨1, 48, [.t 2],
 (.seq (.reg [q 1 (.box none 1 (.s 0)),q 2 (.mv (.c (.int .i64 0)))])
 (.seq (.seq (.reg [q 6 (.load false 1 (.s 1)),q 7 (.call 404 [(.s 6)]),q 3 (.mv (.s 7))])
 (.seq (.reg [q 8 (.mv (.s 3)),q 9 (.int .neq (.s 8) (.c (.int .i64 0)))])
 (.cond (.s 9) (.seq (.reg [q 10 (.mv (.s 3)),q 2 (.mv (.s 10))])
 .ret)
 .skip)))
 (.seq (.reg [q 11 (.load false 1 (.s 1)),q 12 (.nilc (.s 11)),q 13 (.fld 1 (.s 12)),q 14 (.load true 2 (.s 13)),q 15 (.call 405 [(.s 14)]),q 16 (.call 401 [(.s 15)]),q 4 (.alloc none [.v (.slice none 0 0)]),
   ⟨none, .store 1 (.s 4) (.s 16), none⟩])
 (.seq (.reg [q 17 (.mkfn 406 [(.s 1)]),q 18 (.mkfn 407 [(.s 1)]),q 19 (.mkfn 408 [(.s 1), (.s 4)]),q 20 (.mkfn 409 [(.s 1)]),q 21 (.mkfn 410 [(.s 1)]),q 22 (.bslice 1 [(.s 17), (.s 18), (.s 19), (.s 20), (.s 21)]),q 23 (.call 411 [(.s 22)]),q 5 (.mv (.s 23))])
 (.seq (.seq (.reg [q 24 (.mv (.s 5)),q 25 (.int .neq (.s 24) (.c (.int .i64 0)))])
 (.cond (.s 25) (.seq (.reg [q 26 (.load false 1 (.s 1)),q 27 (.nilc (.s 26)),q 28 (.fld 0 (.s 27)),q 29 (.load false 1 (.s 28)),q 30 (.call 298 [(.s 29), (.c (.string ⟨#[46, 115, 117, 109, 112, 116, 101, 114, 45, 110, 101, 119]⟩))])])
 (.seq (.reg [q 31 (.mv (.s 5)),q 2 (.mv (.s 31))])
 .ret))
 .skip))
 (.seq (.reg [q 32 (.load false 1 (.s 1)),q 33 (.load false 1 (.s 4)),q 34 (.len (.s 33)),q 35 (.nilc (.s 32)),q 36 (.fld 3 (.s 35)),
   ⟨none, .store 1 (.s 36) (.s 34), none⟩])
 (.seq (.reg [q 37 (.load false 1 (.s 1)),q 38 (.nilc (.s 37)),q 39 (.fld 0 (.s 38)),q 40 (.load false 1 (.s 39)),q 41 (.call 304 [(.s 40)]),q 5 (.mv (.s 41))])
 (.seq (.reg [q 42 (.load false 1 (.s 1)),q 43 (.mv (.s 5)),q 44 (.int .neq (.s 43) (.c (.int .i64 0))),q 45 (.nilc (.s 42)),q 46 (.fld 4 (.s 45)),
   ⟨none, .store 1 (.s 46) (.s 44), none⟩])
 (.seq (.reg [q 47 (.mv (.s 5)),q 2 (.mv (.s 47))])
 .ret)))))))))⟩
def sf383 : SF :=
 ⟨1, 16, [.cell 2 true 37],
 (.seq (.reg [q 1 (.box (some 0) 37 (.s 0)),q 2 (.alloc (some 1) recZ)])
 (.seq (.reg [q 3 (.fld 0 (.s 1)),q 4 (.load false 1 (.s 3)),q 5 (.fld 1 (.s 1)),q 6 (.load false 1 (.s 5)),q 7 (.fld 2 (.s 1)),q 8 (.load false 1 (.s 7)),q 9 (.fld 3 (.s 1)),q 10 (.load true 32 (.s 9)),q 11 (.fld 35 (.s 1)),q 12 (.load false 1 (.s 11)),q 13 (.fld 36 (.s 1)),q 14 (.load false 1 (.s 13)),q 15 (.build recZ [(0, 1, (.s 4)), (1, 1, (.s 6)), (2, 1, (.s 8)), (3, 32, (.s 10)), (35, 1, (.s 12)), (36, 1, (.s 14))]),
   ⟨none, .store 37 (.s 2) (.s 15), none⟩])
 .ret))⟩
def sf384 : SF :=
 ⟨1, 53, [.t 2],
 (.seq (.reg [q 1 (.box (some 0) 37 (.s 0)),q 2 (.mv (.c (.int .i64 0)))])
 (.seq (.reg [q 5 (.fld 0 (.s 1)),q 6 (.load false 1 (.s 5)),q 7 (.fld 1 (.s 1)),q 8 (.load false 1 (.s 7)),q 9 (.fld 36 (.s 1)),q 10 (.load false 1 (.s 9)),q 11 (.build recZ [(0, 1, (.s 6)), (1, 1, (.s 8)), (36, 1, (.s 10))]),q 3 (.alloc (some 1) recZ),
   ⟨none, .store 37 (.s 3) (.s 11), none⟩])
 (.seq (.block 0 (.seq (.reg [q 13 (.fld 0 (.s 1)),q 14 (.load false 1 (.s 13)),q 15 (.int .gtr (.s 14) (.c (.int .u8 4))),q 16 (.mv (.s 15)),
   ⟨some 17, .fld 1 (.s 1), (some (16, false))⟩,
   ⟨some 18, .load false 1 (.s 17), (some (16, false))⟩,
   ⟨some 19, .int .lss (.s 18) (.c (.int .i64 0)), (some (16, false))⟩,
   q 20 (.pick (.s 16) (.c (.bool true)) (.s 19)),q 21 (.mv (.s 20)),
   ⟨some 22, .fld 1 (.s 1), (some (21, false))⟩,
   ⟨some 23, .load false 1 (.s 22), (some (21, false))⟩,
   ⟨some 24, .int .gtr (.s 23) (.c (.int .i64 1099511627776)), (some (21, false))⟩,
   q 25 (.pick (.s 21) (.c (.bool true)) (.s 24)),q 12 (.mv (.s 25))])
 (.cond (.s 12) (.seq (.reg [q 2 (.mv (.c (.int .i64 2)))])
 .ret)
 (.seq (.reg [q 27 (.fld 0 (.s 1)),q 28 (.load false 1 (.s 27)),q 29 (.int .eql (.s 28) (.c (.int .u8 0))),q 26 (.mv (.s 29))])
 (.cond (.s 26) (.seq (.reg [q 30 (.load true 37 (.s 1)),q 31 (.call 412 [(.s 30)]),q 4 (.mv (.s 31))])
 (.seq (.reg [q 32 (.mv (.s 4)),q 33 (.int .neq (.s 32) (.c (.int .i64 0)))])
 (.cond (.s 33) (.seq (.reg [q 34 (.mv (.s 4)),q 2 (.mv (.s 34))])
 .ret)
 .skip)))
 (.seq (.reg [q 36 (.load true 37 (.s 1)),q 37 (.load true 37 (.s 3)),q 38 (.eq (.ag [.i, .i, .s, .i, .i, .i, .i, .i, .i, .i, .i, .i, .i, .i, .i, .i, .i, .i, .i, .i, .i, .i, .i, .i, .i, .i, .i, .i, .i, .i, .i, .i, .i, .i, .i, .i, .i]) true (.s 36) (.s 37)),q 35 (.mv (.s 38))])
 (.cond (.s 35) (.seq (.reg [q 2 (.mv (.c (.int .i64 4)))])
 .ret)
 .skip)))))))
 (.seq (.block 1 (.seq (.reg [q 40 (.fld 36 (.s 1)),q 41 (.load false 1 (.s 40)),q 42 (.call 413 [(.s 41)]),q 43 (.not (.s 42)),q 39 (.mv (.s 43))])
 (.cond (.s 39) (.seq (.reg [q 2 (.mv (.c (.int .i64 13)))])
 .ret)
 (.seq (.reg [q 45 (.fld 36 (.s 1)),q 46 (.load false 1 (.s 45)),q 47 (.int .neq (.s 46) (.c (.int .i64 0))),q 48 (.mv (.s 47)),
   ⟨some 49, .fld 0 (.s 1), (some (48, true))⟩,
   ⟨some 50, .load false 1 (.s 49), (some (48, true))⟩,
   ⟨some 51, .int .neq (.s 50) (.c (.int .u8 1)), (some (48, true))⟩,
   q 52 (.pick (.s 48) (.s 51) (.c (.bool false))),q 44 (.mv (.s 52))])
 (.cond (.s 44) (.seq (.reg [q 2 (.mv (.c (.int .i64 4)))])
 .ret)
 .skip)))))
 (.seq (.reg [q 2 (.mv (.c (.int .i64 0)))])
 .ret)))))⟩
def sf385 : SF :=
 ⟨2, 85, [.cell 4 true 2, .t 5],
 (.seq (.reg [q 2 (.box (some 0) 2 (.s 0)),q 3 (.box none 37 (.s 1)),q 4 (.alloc (some 2) [.v (.slice none 0 0), .v (.int .i64 0)]),q 5 (.mv (.c (.bool false)))])
 (.seq (.reg [q 7 (.load true 2 (.s 2)),q 8 (.call 414 [(.s 7)]),
   ⟨none, .store 2 (.s 2) (.s 8), none⟩])
 (.seq (.reg [q 9 (.fld 0 (.s 2)),q 10 (.load false 1 (.s 9)),q 11 (.mkfn 415 [(.s 3)]),q 12 (.call 416 [(.s 10), (.s 11)]),q 6 (.mv (.s 12))])
 (.seq (.seq (.reg [q 13 (.fld 0 (.s 3)),q 14 (.load false 1 (.s 13))])
 (.block 0 (.seq (.reg [q 16 (.int .eql (.s 14) (.c (.int .u8 0))),q 15 (.mv (.s 16))])
 (.cond (.s 15) (.seq (.reg [q 17 (.load true 2 (.s 2)),q 18 (.load true 37 (.s 3)),q 19 (.call 417 [(.s 17), (.s 18)]),q 20 (.ext (.s 19) 0),q 21 (.ext (.s 19) 1),
   ⟨none, .store 2 (.s 4) (.s 20), none⟩,
   q 5 (.mv (.s 21))])
 .ret)
 (.seq (.reg [q 23 (.int .eql (.s 14) (.c (.int .u8 4))),q 22 (.mv (.s 23))])
 (.cond (.s 22) (.seq (.seq (.reg [q 24 (.fld 1 (.s 3)),q 25 (.load false 1 (.s 24)),q 26 (.fld 1 (.s 2)),q 27 (.load false 1 (.s 26)),q 28 (.int .lss (.s 25) (.s 27))])
 (.cond (.s 28) (.seq (.reg [q 29 (.load true 2 (.s 2)),
   ⟨none, .store 2 (.s 4) (.s 29), none⟩,
   q 5 (.mv (.c (.bool false)))])
 .ret)
 .skip))
 (.seq (.reg [q 30 (.fld 1 (.s 3)),q 31 (.load false 1 (.s 30)),q 32 (.int .add (.s 31) (.c (.int .i64 1))),q 33 (.fld 1 (.s 2)),
   ⟨none, .store 1 (.s 33) (.s 32), none⟩])
 (.seq (.reg [q 34 (.load true 2 (.s 2)),
   ⟨none, .store 2 (.s 4) (.s 34), none⟩,
   q 5 (.mv (.c (.bool true)))])
 .ret)))
 (.seq (.reg [q 36 (.int .eql (.s 14) (.c (.int .u8 1))),q 35 (.mv (.s 36))])
 (.cond (.s 35) (.seq (.seq (.dreg [0, 1, 2, 3, 5, 7, 4, 6, 8, 9, 10, 11, 12, 13, 14, 16, 18, 15, 17, 19, 20, 21, 22, 23] [w 37 (.mv (.s 6)),w 38 (.int .lss (.s 37) (.c (.int .i64 0))),w 39 (.mv (.s 38)),
   ⟨⟨some 40, .fld 36 (.s 3), (some (39, false))⟩, []⟩,
   ⟨⟨some 42, .fld 0 (.s 2), (some (39, false))⟩, []⟩,
   ⟨⟨some 44, .mv (.s 6), (some (39, false))⟩, []⟩,
   ⟨⟨some 41, .load false 1 (.s 40), (some (39, false))⟩, []⟩,
   ⟨⟨some 43, .load false 1 (.s 42), (some (39, false))⟩, []⟩,
   ⟨⟨some 45, .idx 36 (.s 43) (.s 44), (some (39, false))⟩, []⟩,
   ⟨⟨some 46, .fld 35 (.s 45), (some (39, false))⟩, []⟩,
   ⟨⟨some 47, .load false 1 (.s 46), (some (39, false))⟩, []⟩,
   ⟨⟨some 48, .int .lss (.s 41) (.s 47), (some (39, false))⟩, []⟩,
   w 49 (.pick (.s 39) (.c (.bool true)) (.s 48)),w 50 (.mv (.s 49)),
   ⟨⟨some 51, .fld 36 (.s 3), (some (50, false))⟩, []⟩,
   ⟨⟨some 53, .fld 0 (.s 2), (some (50, false))⟩, []⟩,
   ⟨⟨some 55, .mv (.s 6), (some (50, false))⟩, []⟩,
   ⟨⟨some 52, .load false 1 (.s 51), (some (50, false))⟩, []⟩,
   ⟨⟨some 54, .load false 1 (.s 53), (some (50, false))⟩, []⟩,
   ⟨⟨some 56, .idx 36 (.s 54) (.s 55), (some (50, false))⟩, []⟩,
   ⟨⟨some 57, .fld 34 (.s 56), (some (50, false))⟩, []⟩,
   ⟨⟨some 58, .load false 1 (.s 57), (some (50, false))⟩, []⟩,
   ⟨⟨some 59, .int .gtr (.s 52) (.s 58), (some (50, false))⟩, []⟩,
   w 60 (.pick (.s 50) (.c (.bool true)) (.s 59))])
 (.cond (.s 60) (.seq (.reg [q 61 (.load true 2 (.s 2)),
   ⟨none, .store 2 (.s 4) (.s 61), none⟩,
   q 5 (.mv (.c (.bool false)))])
 .ret)
 .skip))
 (.seq (.reg [q 62 (.fld 0 (.s 2)),q 63 (.load false 1 (.s 62)),q 64 (.mv (.s 6)),q 65 (.fld 36 (.s 3)),q 66 (.load false 1 (.s 65)),q 67 (.idx 36 (.s 63) (.s 64)),q 68 (.fld 35 (.s 67)),
   ⟨none, .store 1 (.s 68) (.s 66), none⟩])
 (.seq (.reg [q 69 (.load true 2 (.s 2)),
   ⟨none, .store 2 (.s 4) (.s 69), none⟩,
   q 5 (.mv (.c (.bool true)))])
 .ret)))
 (.seq (.seq (.reg [q 71 (.int .eql (.s 14) (.c (.int .u8 2))),q 70 (.mv (.s 71))])
 (.cond (.s 70) .skip
 (.reg [q 72 (.int .eql (.s 14) (.c (.int .u8 3))),q 70 (.mv (.s 72))])))
 (.cond (.s 70) (.seq (.seq (.reg [q 73 (.mv (.s 6)),q 74 (.int .lss (.s 73) (.c (.int .i64 0)))])
 (.cond (.s 74) (.seq (.reg [q 75 (.load true 2 (.s 2)),
   ⟨none, .store 2 (.s 4) (.s 75), none⟩,
   q 5 (.mv (.c (.bool false)))])
 .ret)
 .skip))
 (.seq (.reg [q 76 (.fld 0 (.s 2)),q 77 (.load false 1 (.s 76)),q 78 (.mv (.s 6)),q 79 (.mv (.s 6)),q 80 (.int .add (.s 79) (.c (.int .i64 1))),q 81 (.call 418 [(.s 77), (.s 78), (.s 80)]),q 82 (.fld 0 (.s 2)),
   ⟨none, .store 1 (.s 82) (.s 81), none⟩])
 (.seq (.reg [q 83 (.load true 2 (.s 2)),
   ⟨none, .store 2 (.s 4) (.s 83), none⟩,
   q 5 (.mv (.c (.bool true)))])
 .ret)))
 .skip))))))))))
 (.seq (.reg [q 84 (.load true 2 (.s 2)),
   ⟨none, .store 2 (.s 4) (.s 84), none⟩,
   q 5 (.mv (.c (.bool false)))])
 .ret)))))⟩
def sf386 : SF :=
 ⟨2, 39, [.cell 4 false 1],
 (.seq (.reg [q 2 (.box none 1 (.s 0)),q 3 (.box (some 1) 37 (.s 1)),q 4 (.alloc none [.v (.int .i64 0)])])
 (.seq (.seq (.reg [q 10 (.load false 1 (.s 2)),q 11 (.call 404 [(.s 10)]),q 5 (.mv (.s 11))])
 (.seq (.reg [q 12 (.mv (.s 5)),q 13 (.int .neq (.s 12) (.c (.int .i64 0)))])
 (.cond (.s 13) (.seq (.reg [q 14 (.mv (.s 5)),
   ⟨none, .store 1 (.s 4) (.s 14), none⟩])
 .ret)
 .skip)))
 (.seq (.seq (.reg [q 15 (.load true 37 (.s 3)),q 16 (.call 384 [(.s 15)]),q 6 (.mv (.s 16))])
 (.seq (.reg [q 17 (.mv (.s 6)),q 18 (.int .neq (.s 17) (.c (.int .i64 0)))])
 (.cond (.s 18) (.seq (.reg [q 19 (.mv (.s 6)),
   ⟨none, .store 1 (.s 4) (.s 19), none⟩])
 .ret)
 .skip)))
 (.seq (.dreg [0, 1, 2, 3, 4, 5, 6, 7, 8, 9, 10, 11] [w 21 (.load false 1 (.s 2)),w 22 (.nilc (.s 21)),w 23 (.fld 1 (.s 22)),w 24 (.load true 2 (.s 23)),w 25 (.load true 37 (.s 3)),w 26 (.call 385 [(.s 24), (.s 25)]),w 20 (.mv (.s 26)),w 27 (.ext (.s 20) 0),w 28 (.ext (.s 20) 1),w 7 (.alloc none [.v (.slice none 0 0), .v (.int .i64 0)]),
   ⟨⟨none, .store 2 (.s 7) (.s 27), none⟩, []⟩,
   w 8 (.mv (.s 28))])
 (.seq (.seq (.reg [q 29 (.mv (.s 8)),q 30 (.not (.s 29))])
 (.cond (.s 30) (.seq (.reg [⟨none, .store 1 (.s 4) (.c (.int .i64 16)), none⟩])
 .ret)
 .skip))
 (.seq (.reg [q 31 (.load true 37 (.s 3)),q 32 (.bslice 37 [(.s 31)]),q 33 (.call 401 [(.s 32)]),q 9 (.alloc none [.v (.slice none 0 0)]),
   ⟨none, .store 1 (.s 9) (.s 33), none⟩])
 (.dfr [q 34 (.mkfn 419 [(.s 4), (.s 2), (.s 7), (.s 9)])] (.s 34) [] 419
 (.seq (.reg [q 35 (.mkfn 420 [(.s 2), (.s 9)]),q 36 (.mkfn 421 [(.s 2)]),q 37 (.bslice 1 [(.s 35), (.s 36)]),q 38 (.call 411 [(.s 37)]),
   ⟨none, .store 1 (.s 4) (.s 38), none⟩])
 .ret))))))))⟩
def sf387 : SF :=
 ⟨1, 9, [.t 2],
 (.seq (.reg [q 2 (.mv (.c (.int .i64 0)))])
 (.seq (.seq (.reg [q 3 (.mv (.s 0)),q 4 (.eq .ptr false (.s 3) (.c (.pointer none)))])
 (.cond (.s 4) (.seq (.reg [q 2 (.mv (.c (.int .i64 0)))])
 .ret)
 .skip))
 (.seq (.reg [q 5 (.mv (.s 0)),q 6 (.nilc (.s 5)),q 7 (.fld 3 (.s 6)),q 8 (.load false 1 (.s 7)),q 2 (.mv (.s 8))])
 .ret)))⟩
def sf388 : SF :=
 ⟨1, 27, [.t 2],
 (.seq (.reg [q 2 (.mv (.c (.bool false)))])
 (.seq (.dreg [0, 1, 2, 3, 4, 5, 6, 7, 8, 9, 10, 11, 12, 14, 15, 16, 13, 17, 18, 19, 20, 21, 22, 23, 24] [w 3 (.mv (.s 0)),w 4 (.eq .ptr true (.s 3) (.c (.pointer none))),w 5 (.mv (.s 4)),
   ⟨⟨some 6, .mv (.s 0), (some (5, true))⟩, []⟩,
   ⟨⟨some 7, .nilc (.s 6), (some (5, true))⟩, []⟩,
   ⟨⟨some 8, .fld 3 (.s 7), (some (5, true))⟩, []⟩,
   ⟨⟨some 9, .load false 1 (.s 8), (some (5, true))⟩, []⟩,
   ⟨⟨some 10, .int .gtr (.s 9) (.c (.int .i64 2048)), (some (5, true))⟩, []⟩,
   w 11 (.pick (.s 5) (.s 10) (.c (.bool false))),w 12 (.mv (.s 11)),
   ⟨⟨some 13, .mv (.s 0), (some (12, true))⟩, []⟩,
   ⟨⟨some 14, .nilc (.s 13), (some (12, true))⟩, []⟩,
   ⟨⟨some 15, .fld 3 (.s 14), (some (12, true))⟩, []⟩,
   ⟨⟨some 17, .mv (.s 0), (some (12, true))⟩, []⟩,
   ⟨⟨some 18, .nilc (.s 17), (some (12, true))⟩, []⟩,
   ⟨⟨some 19, .fld 1 (.s 18), (some (12, true))⟩, []⟩,
   ⟨⟨some 16, .load false 1 (.s 15), (some (12, true))⟩, []⟩,
   ⟨⟨some 20, .load true 2 (.s 19), (some (12, true))⟩, []⟩,
   ⟨⟨some 21, .call 405 [(.s 20)], (some (12, true))⟩, [16]⟩,
   ⟨⟨some 22, .call 401 [(.s 21)], (some (12, true))⟩, [16]⟩,
   ⟨⟨some 23, .len (.s 22), (some (12, true))⟩, []⟩,
   ⟨⟨some 24, .int .mul (.c (.int .i64 2)) (.s 23), (some (12, true))⟩, []⟩,
   ⟨⟨some 25, .int .gtr (.s 16) (.s 24), (some (12, true))⟩, []⟩,
   w 26 (.pick (.s 12) (.s 25) (.c (.bool false))),w 2 (.mv (.s 26))])
 .ret))⟩
def sf396 : SF :=
 ⟨1, 6, [.t 2],
 (.seq (.reg [q 2 (.mv (.c (.string ⟨#[]⟩)))])
 (.seq (.reg [q 3 (.mv (.s 0)),q 4 (.call 428 [(.s 3)]),q 5 (.str .add (.c (.string ⟨#[46, 115, 117, 109, 112, 116, 101, 114, 45, 116]⟩)) (.s 4)),q 2 (.mv (.s 5))])
 .ret))⟩
def sf398 : SF :=
 ⟨1, 8, [.t 2],
 (.seq (.reg [q 2 (.mv (.c (.int .i64 0)))])
 (.seq (.seq (.reg [q 3 (.mv (.s 0)),q 4 (.call 312 [(.s 3)]),q 5 (.call 429 [(.s 4), (.f 430)])])
 (.cond (.s 5) (.seq (.reg [q 6 (.mv (.s 0)),q 7 (.call 298 [(.s 6), (.c (.string ⟨#[46, 115, 117, 109, 112, 116, 101, 114, 45, 110, 101, 119]⟩))]),q 2 (.mv (.s 7))])
 .ret)
 .skip))
 (.seq (.reg [q 2 (.mv (.c (.int .i64 0)))])
 .ret)))⟩
def sf399 : SF :=
 ⟨1, 36, [.t 2, .t 3, .t 4],
 (.seq (.reg [q 2 (.mv (.c (.slice none 0 0))),q 3 (.mv (.c (.int .i64 0))),q 4 (.mv (.c (.int .i64 0)))])
 (.seq (.reg [q 5 (.mv (.c (.slice none 0 0)))])
 (.seq (.reg [q 6 (.mv (.c (.int .i64 0)))])
 (.seq (.block 0 (.loop (.seq (.seq (.reg [q 10 (.mv (.s 6)),q 11 (.mv (.s 0)),q 12 (.len (.s 11)),q 13 (.int .lss (.s 10) (.s 12))])
 (.cond (.s 13) .skip
 (.exit 0)))
 (.block 1 (.seq (.reg [q 15 (.mv (.s 0)),q 16 (.mv (.s 6)),q 17 (.slc 1 (.s 15) (some (.s 16)) none none),q 18 (.call 431 [(.s 17)]),q 14 (.mv (.s 18)),q 19 (.ext (.s 14) 0),q 20 (.ext (.s 14) 1),q 21 (.ext (.s 14) 2),q 7 (.alloc (some 0) recZ),
   ⟨none, .store 37 (.s 7) (.s 19), none⟩,
   q 8 (.mv (.s 20)),q 9 (.mv (.s 21))])
 (.seq (.seq (.reg [q 22 (.mv (.s 9)),q 23 (.int .neq (.s 22) (.c (.int .i64 0)))])
 (.cond (.s 23) (.seq (.reg [q 24 (.mv (.s 5)),q 25 (.mv (.s 6)),q 26 (.mv (.s 9)),q 2 (.mv (.s 24)),q 3 (.mv (.s 25)),q 4 (.mv (.s 26))])
 .ret)
 .skip))
 (.seq (.reg [q 27 (.mv (.s 5)),q 28 (.load true 37 (.s 7)),q 29 (.bslice 37 [(.s 28)]),q 30 (.app 37 80 (.s 27) (.s 29)),q 5 (.mv (.s 30))])
 (.reg [q 31 (.mv (.s 6)),q 32 (.mv (.s 8)),q 33 (.int .add (.s 31) (.s 32)),q 6 (.mv (.s 33))]))))))))
 (.seq (.reg [q 34 (.mv (.s 5)),q 35 (.mv (.s 6)),q 2 (.mv (.s 34)),q 3 (.mv (.s 35)),q 4 (.mv (.c (.int .i64 0)))])
 .ret)))))⟩
def sf400 : SF :=
 ⟨1, 31, [.cell 2 true 2, .t 3],
 (.seq (.reg [q 2 (.alloc (some 0) [.v (.slice none 0 0), .v (.int .i64 0)]),q 3 (.mv (.c (.int .i64 0)))])
 (.seq (.reg [q 4 (.alloc (some 1) [.v (.slice none 0 0), .v (.int .i64 0)])])
 (.seq (.seq (.reg [q 9 (.mv (.s 0)),q 10 (.len (.s 9)),q 11 (.mv (.c (.int .i64 0)))])
 (.block 0 (.loop (.seq (.reg [q 12 (.int .lss (.s 11) (.s 10))])
 (.seq (.cond (.s 12) .skip
 (.exit 0))
 (.seq (.block 1 (.seq (.reg [q 13 (.mv (.s 11)),q 14 (.idx 37 (.s 9) (.s 11)),q 15 (.load true 37 (.s 14)),q 6 (.alloc (some 2) recZ),q 5 (.mv (.s 13)),
   ⟨none, .store 37 (.s 6) (.s 15), none⟩])
 (.seq (.reg [q 17 (.load true 2 (.s 4)),q 18 (.load true 37 (.s 6)),q 19 (.call 385 [(.s 17), (.s 18)]),q 16 (.mv (.s 19)),q 20 (.ext (.s 16) 0),q 21 (.ext (.s 16) 1),q 7 (.alloc (some 3) [.v (.slice none 0 0), .v (.int .i64 0)]),
   ⟨none, .store 2 (.s 7) (.s 20), none⟩,
   q 8 (.mv (.s 21))])
 (.seq (.seq (.reg [q 22 (.mv (.s 8)),q 23 (.not (.s 22))])
 (.cond (.s 23) (.seq (.reg [q 24 (.load true 2 (.s 4)),q 25 (.mv (.s 5)),
   ⟨none, .store 2 (.s 2) (.s 24), none⟩,
   q 3 (.mv (.s 25))])
 .ret)
 .skip))
 (.reg [q 26 (.load true 2 (.s 7)),
   ⟨none, .store 2 (.s 4) (.s 26), none⟩])))))
 (.reg [q 27 (.int .add (.s 11) (.c (.int .i64 1))),q 11 (.mv (.s 27))])))))))
 (.seq (.reg [q 28 (.load true 2 (.s 4)),q 29 (.mv (.s 0)),q 30 (.len (.s 29)),
   ⟨none, .store 2 (.s 2) (.s 28), none⟩,
   q 3 (.mv (.s 30))])
 .ret))))⟩
def sf401 : SF :=
 ⟨1, 27, [.t 2],
 (.seq (.reg [q 2 (.mv (.c (.slice none 0 0)))])
 (.seq (.reg [q 3 (.mv (.c (.slice none 0 0)))])
 (.seq (.seq (.reg [q 8 (.mv (.s 0)),q 9 (.len (.s 8)),q 10 (.mv (.c (.int .i64 0)))])
 (.block 0 (.loop (.seq (.reg [q 11 (.int .lss (.s 10) (.s 9))])
 (.seq (.cond (.s 11) .skip
 (.exit 0))
 (.seq (.block 1 (.seq (.reg [q 12 (.idx 37 (.s 8) (.s 10)),q 13 (.load true 37 (.s 12)),q 5 (.alloc (some 0) recZ),
   ⟨none, .store 37 (.s 5) (.s 13), none⟩])
 (.seq (.reg [q 15 (.load true 37 (.s 5)),q 16 (.call 432 [(.s 15)]),q 14 (.mv (.s 16)),q 17 (.ext (.s 14) 0),q 18 (.ext (.s 14) 1),q 6 (.mv (.s 17)),q 7 (.mv (.s 18))])
 (.seq (.seq (.reg [q 19 (.mv (.s 7)),q 20 (.int .neq (.s 19) (.c (.int .i64 0)))])
 (.cond (.s 20) (.seq (.reg [q 21 (.mv (.s 3)),q 2 (.mv (.s 21))])
 .ret)
 .skip))
 (.reg [q 22 (.mv (.s 3)),q 23 (.mv (.s 6)),q 24 (.app 1 1 (.s 22) (.s 23)),q 3 (.mv (.s 24))])))))
 (.reg [q 25 (.int .add (.s 10) (.c (.int .i64 1))),q 10 (.mv (.s 25))])))))))
 (.seq (.reg [q 26 (.mv (.s 3)),q 2 (.mv (.s 26))])
 .ret))))⟩
def sf402 : SF :=
 ⟨1, 8, [.t 2],
 (.seq (.reg [q 2 (.mv (.c (.slice none 0 0)))])
 (.seq (.seq (.reg [q 3 (.mv (.s 0)),q 4 (.nd (.isnil false) [(.s 3)])])
 (.cond (.s 4) (.seq (.reg [q 2 (.mv (.c (.slice none 0 0)))])
 .ret)
 .skip))
 (.seq (.reg [q 5 (.bslice 36 []),q 6 (.mv (.s 0)),q 7 (.app 36 72 (.s 5) (.s 6)),q 2 (.mv (.s 7))])
 .ret)))⟩
def sf403 : SF :=
 ⟨2, 26, [.t 4],
 (.seq (.reg [q 4 (.mv (.c (.bool false)))])
 (.seq (.seq (.reg [q 6 (.mv (.s 0)),q 7 (.len (.s 6)),q 8 (.mv (.s 1)),q 9 (.len (.s 8)),q 10 (.int .neq (.s 7) (.s 9))])
 (.cond (.s 10) (.seq (.reg [q 4 (.mv (.c (.bool false)))])
 .ret)
 .skip))
 (.seq (.seq (.reg [q 11 (.mv (.s 0)),q 12 (.len (.s 11)),q 13 (.mv (.c (.int .i64 0)))])
 (.block 0 (.loop (.seq (.reg [q 14 (.int .lss (.s 13) (.s 12))])
 (.seq (.cond (.s 14) .skip
 (.exit 0))
 (.seq (.block 1 (.seq (.reg [q 15 (.mv (.s 13)),q 5 (.mv (.s 15))])
 (.seq (.dreg [0, 1, 2, 4, 5, 6, 3, 7, 8] [w 16 (.mv (.s 0)),w 17 (.mv (.s 5)),w 18 (.idx 36 (.s 16) (.s 17)),w 20 (.mv (.s 1)),w 21 (.mv (.s 5)),w 22 (.idx 36 (.s 20) (.s 21)),w 19 (.load true 36 (.s 18)),w 23 (.load true 36 (.s 22)),w 24 (.eq (.ag [.i, .s, .i, .i, .i, .i, .i, .i, .i, .i, .i, .i, .i, .i, .i, .i, .i, .i, .i, .i, .i, .i, .i, .i, .i, .i, .i, .i, .i, .i, .i, .i, .i, .i, .i, .i]) true (.s 19) (.s 23))])
 (.cond (.s 24) (.seq (.reg [q 4 (.mv (.c (.bool false)))])
 .ret)
 .skip))))
 (.reg [q 25 (.int .add (.s 13) (.c (.int .i64 1))),q 13 (.mv (.s 25))])))))))
 (.seq (.reg [q 4 (.mv (.c (.bool true)))])
 .ret))))⟩
def sf404 : SF :=
 ⟨1, 11, [.t 2],
 (.seq (.reg [q 2 (.mv (.c (.int .i64 0)))])
 (.seq (.block 0 (.seq (.reg [q 4 (.mv (.s 0)),q 5 (.eq .ptr false (.s 4) (.c (.pointer none))),q 3 (.mv (.s 5))])
 (.cond (.s 3) (.seq (.reg [q 2 (.mv (.c (.int .i64 1)))])
 .ret)
 (.seq (.reg [q 7 (.mv (.s 0)),q 8 (.nilc (.s 7)),q 9 (.fld 4 (.s 8)),q 10 (.load false 1 (.s 9)),q 6 (.mv (.s 10))])
 (.cond (.s 6) (.seq (.reg [q 2 (.mv (.c (.int .i64 16)))])
 .ret)
 .skip)))))
 (.seq (.reg [q 2 (.mv (.c (.int .i64 0)))])
 .ret)))⟩
def sf405 : SF :=
 ⟨1, 53, [.t 2],
 (.seq (.reg [q 1 (.box (some 0) 2 (.s 0)),q 2 (.mv (.c (.slice none 0 0)))])
 (.seq (.reg [q 3 (.mv (.c (.slice none 0 0)))])
 (.seq (.reg [q 4 (.mv (.c (.int .i64 0)))])
 (.seq (.seq (.reg [q 7 (.fld 0 (.s 1)),q 8 (.load false 1 (.s 7)),q 9 (.len (.s 8)),q 10 (.mv (.c (.int .i64 0)))])
 (.block 0 (.loop (.seq (.reg [q 11 (.int .lss (.s 10) (.s 9))])
 (.seq (.cond (.s 11) .skip
 (.exit 0))
 (.seq (.block 1 (.seq (.reg [q 12 (.idx 36 (.s 8) (.s 10)),q 13 (.load true 36 (.s 12)),q 6 (.alloc (some 1) partZ),
   ⟨none, .store 36 (.s 6) (.s 13), none⟩])
 (.seq (.reg [q 14 (.mv (.s 3)),q 15 (.fld 0 (.s 6)),q 16 (.load false 1 (.s 15)),q 17 (.fld 1 (.s 6)),q 18 (.load false 1 (.s 17)),q 19 (.fld 2 (.s 6)),q 20 (.load true 32 (.s 19)),q 21 (.fld 34 (.s 6)),q 22 (.load false 1 (.s 21)),q 23 (.build recZ [(0, 1, (.c (.int .u8 0))), (1, 1, (.s 16)), (2, 1, (.s 18)), (3, 32, (.s 20)), (35, 1, (.s 22))]),q 24 (.bslice 37 [(.s 23)]),q 25 (.app 37 80 (.s 14) (.s 24)),q 3 (.mv (.s 25))])
 (.seq (.seq (.reg [q 26 (.fld 35 (.s 6)),q 27 (.load false 1 (.s 26)),q 28 (.int .gtr (.s 27) (.c (.int .i64 0)))])
 (.cond (.s 28) (.reg [q 29 (.mv (.s 3)),q 30 (.fld 0 (.s 6)),q 31 (.load false 1 (.s 30)),q 32 (.fld 35 (.s 6)),q 33 (.load false 1 (.s 32)),q 34 (.build recZ [(0, 1, (.c (.int .u8 1))), (1, 1, (.s 31)), (36, 1, (.s 33))]),q 35 (.bslice 37 [(.s 34)]),q 36 (.app 37 80 (.s 29) (.s 35)),q 3 (.mv (.s 36))])
 .skip))
 (.reg [q 37 (.fld 0 (.s 6)),q 38 (.load false 1 (.s 37)),q 39 (.int .add (.s 38) (.c (.int .i64 1))),q 4 (.mv (.s 39))])))))
 (.reg [q 40 (.int .add (.s 10) (.c (.int .i64 1))),q 10 (.mv (.s 40))])))))))
 (.seq (.seq (.reg [q 41 (.mv (.s 4)),q 42 (.fld 1 (.s 1)),q 43 (.load false 1 (.s 42)),q 44 (.int .lss (.s 41) (.s 43))])
 (.cond (.s 44) (.reg [q 45 (.mv (.s 3)),q 46 (.fld 1 (.s 1)),q 47 (.load false 1 (.s 46)),q 48 (.int .sub (.s 47) (.c (.int .i64 1))),q 49 (.build recZ [(0, 1, (.c (.int .u8 4))), (1, 1, (.s 48))]),q 50 (.bslice 37 [(.s 49)]),q 51 (.app 37 80 (.s 45) (.s 50)),q 3 (.mv (.s 51))])
 .skip))
 (.seq (.reg [q 52 (.mv (.s 3)),q 2 (.mv (.s 52))])
 .ret))))))⟩
def sf406 : SF :=
 ⟨1, 7, [.t 1],
 (.seq (.reg [q 1 (.mv (.c (.int .i64 0)))])
 (.seq (.reg [q 2 (.load false 1 (.s 0)),q 3 (.nilc (.s 2)),q 4 (.fld 0 (.s 3)),q 5 (.load false 1 (.s 4)),q 6 (.call 398 [(.s 5)]),q 1 (.mv (.s 6))])
 .ret))⟩
def sf407 : SF :=
 ⟨1, 7, [.t 1],
 (.seq (.reg [q 1 (.mv (.c (.int .i64 0)))])
 (.seq (.reg [q 2 (.load false 1 (.s 0)),q 3 (.nilc (.s 2)),q 4 (.fld 0 (.s 3)),q 5 (.load false 1 (.s 4)),q 6 (.call 299 [(.s 5), (.c (.string ⟨#[46, 115, 117, 109, 112, 116, 101, 114, 45, 110, 101, 119]⟩))]),q 1 (.mv (.s 6))])
 .ret))⟩
def sf408 : SF :=
 ⟨2, 9, [.t 2],
 (.seq (.reg [q 2 (.mv (.c (.int .i64 0)))])
 (.seq (.dreg [0, 1, 2, 3, 4, 5, 6] [w 3 (.load false 1 (.s 0)),w 4 (.nilc (.s 3)),w 5 (.fld 0 (.s 4)),w 6 (.load false 1 (.s 5)),w 7 (.load false 1 (.s 1)),w 8 (.call 302 [(.s 6), (.c (.string ⟨#[46, 115, 117, 109, 112, 116, 101, 114, 45, 110, 101, 119]⟩)), (.s 7)]),w 2 (.mv (.s 8))])
 .ret))⟩
def sf409 : SF :=
 ⟨1, 7, [.t 1],
 (.seq (.reg [q 1 (.mv (.c (.int .i64 0)))])
 (.seq (.reg [q 2 (.load false 1 (.s 0)),q 3 (.nilc (.s 2)),q 4 (.fld 0 (.s 3)),q 5 (.load false 1 (.s 4)),q 6 (.call 303 [(.s 5), (.c (.string ⟨#[46, 115, 117, 109, 112, 116, 101, 114, 45, 110, 101, 119]⟩))]),q 1 (.mv (.s 6))])
 .ret))⟩
def sf410 : SF :=
 ⟨1, 7, [.t 1],
 (.seq (.reg [q 1 (.mv (.c (.int .i64 0)))])
 (.seq (.reg [q 2 (.load false 1 (.s 0)),q 3 (.nilc (.s 2)),q 4 (.fld 0 (.s 3)),q 5 (.load false 1 (.s 4)),q 6 (.call 309 [(.s 5), (.c (.string ⟨#[46, 115, 117, 109, 112, 116, 101, 114, 45, 110, 101, 119]⟩)), (.c (.string ⟨#[46, 115, 117, 109, 112, 116, 101, 114]⟩))]),q 1 (.mv (.s 6))])
 .ret))⟩
def sf411 : SF :=
 ⟨1, 18, [.t 2],
 (.seq (.reg [q 2 (.mv (.c (.int .i64 0)))])
 (.seq (.seq (.reg [q 6 (.mv (.s 0)),q 7 (.len (.s 6)),q 8 (.mv (.c (.int .i64 0)))])
 (.block 0 (.loop (.seq (.reg [q 9 (.int .lss (.s 8) (.s 7))])
 (.seq (.cond (.s 9) .skip
 (.exit 0))
 (.seq (.block 1 (.seq (.reg [q 10 (.idx 1 (.s 6) (.s 8)),q 11 (.load false 1 (.s 10)),q 4 (.mv (.s 11))])
 (.seq (.reg [q 12 (.mv (.s 4)),q 13 (.callv (.s 12) []),q 5 (.mv (.s 13))])
 (.seq (.reg [q 14 (.mv (.s 5)),q 15 (.int .neq (.s 14) (.c (.int .i64 0)))])
 (.cond (.s 15) (.seq (.reg [q 16 (.mv (.s 5)),q 2 (.mv (.s 16))])
 .ret)
 .skip)))))
 (.reg [q 17 (.int .add (.s 8) (.c (.int .i64 1))),q 8 (.mv (.s 17))])))))))
 (.seq (.reg [q 2 (.mv (.c (.int .i64 0)))])
 .ret)))⟩
def sf412 : SF :=
 ⟨1, 19, [.t 2],
 (.seq (.reg [q 1 (.box (some 0) 37 (.s 0)),q 2 (.mv (.c (.int .i64 0)))])
 (.seq (.seq (.reg [q 4 (.fld 2 (.s 1)),q 5 (.load false 1 (.s 4)),q 6 (.call 192 [(.s 5)]),q 3 (.mv (.s 6))])
 (.seq (.reg [q 7 (.mv (.s 3)),q 8 (.int .neq (.s 7) (.c (.int .i64 0)))])
 (.cond (.s 8) (.seq (.reg [q 9 (.mv (.s 3)),q 2 (.mv (.s 9))])
 .ret)
 .skip)))
 (.seq (.block 0 (.seq (.reg [q 11 (.fld 2 (.s 1)),q 12 (.load false 1 (.s 11)),q 13 (.call 193 [(.s 12)]),q 10 (.mv (.s 13))])
 (.cond (.s 10) (.seq (.reg [q 2 (.mv (.c (.int .i64 6)))])
 .ret)
 (.seq (.reg [q 15 (.fld 35 (.s 1)),q 16 (.load false 1 (.s 15)),q 17 (.call 413 [(.s 16)]),q 18 (.not (.s 17)),q 14 (.mv (.s 18))])
 (.cond (.s 14) (.seq (.reg [q 2 (.mv (.c (.int .i64 13)))])
 .ret)
 .skip)))))
 (.seq (.reg [q 2 (.mv (.c (.int .i64 0)))])
 .ret))))⟩
def sf413 : SF :=
 ⟨1, 9, [.t 2],
 (.seq (.reg [q 2 (.mv (.c (.bool false)))])
 (.seq (.reg [q 3 (.mv (.s 0)),q 4 (.int .geq (.s 3) (.c (.int .i64 0))),q 5 (.mv (.s 4)),
   ⟨some 6, .mv (.s 0), (some (5, true))⟩,
   ⟨some 7, .int .leq (.s 6) (.c (.int .i64 65536)), (some (5, true))⟩,
   q 8 (.pick (.s 5) (.s 7) (.c (.bool false))),q 2 (.mv (.s 8))])
 .ret))⟩
def sf414 : SF :=
 ⟨1, 8, [.cell 2 true 2],
 (.seq (.reg [q 1 (.box (some 0) 2 (.s 0)),q 2 (.alloc (some 1) [.v (.slice none 0 0), .v (.int .i64 0)])])
 (.seq (.reg [q 3 (.fld 0 (.s 1)),q 4 (.load false 1 (.s 3)),q 5 (.call 402 [(.s 4)]),q 6 (.fld 0 (.s 1)),
   ⟨none, .store 1 (.s 6) (.s 5), none⟩])
 (.seq (.reg [q 7 (.load true 2 (.s 1)),
   ⟨none, .store 2 (.s 2) (.s 7), none⟩])
 .ret)))⟩
def sf415 : SF :=
 ⟨2, 9, [.t 3],
 (.seq (.reg [q 2 (.box (some 0) 36 (.s 0)),q 3 (.mv (.c (.bool false)))])
 (.seq (.reg [q 4 (.fld 0 (.s 2)),q 5 (.load false 1 (.s 4)),q 6 (.fld 1 (.s 1)),q 7 (.load false 1 (.s 6)),q 8 (.int .eql (.s 5) (.s 7)),q 3 (.mv (.s 8))])
 .ret))⟩
def sf416 : SF :=
 ⟨2, 19, [.t 4],
 (.seq (.reg [q 4 (.mv (.c (.int .i64 0)))])
 (.seq (.seq (.reg [q 6 (.mv (.s 0)),q 7 (.len (.s 6)),q 8 (.mv (.c (.int .i64 0)))])
 (.block 0 (.loop (.seq (.reg [q 9 (.int .lss (.s 8) (.s 7))])
 (.seq (.cond (.s 9) .skip
 (.exit 0))
 (.seq (.block 1 (.seq (.reg [q 10 (.mv (.s 8)),q 5 (.mv (.s 10))])
 (.seq (.reg [q 11 (.mv (.s 1)),q 12 (.mv (.s 0)),q 13 (.mv (.s 5)),q 14 (.idx 36 (.s 12) (.s 13)),q 15 (.load true 36 (.s 14)),q 16 (.callv (.s 11) [(.s 15)])])
 (.cond (.s 16) (.seq (.reg [q 17 (.mv (.s 5)),q 4 (.mv (.s 17))])
 .ret)
 .skip))))
 (.reg [q 18 (.int .add (.s 8) (.c (.int .i64 1))),q 8 (.mv (.s 18))])))))))
 (.seq (.reg [q 4 (.mv (.c (.int .i64 (-1))))])
 .ret)))⟩
def sf417 : SF :=
 ⟨2, 49, [.cell 4 true 2, .t 5],
 (.seq (.reg [q 2 (.box (some 0) 2 (.s 0)),q 3 (.box (some 1) 37 (.s 1)),q 4 (.alloc (some 2) [.v (.slice none 0 0), .v (.int .i64 0)]),q 5 (.mv (.c (.bool false)))])
 (.seq (.seq (.reg [q 9 (.load true 2 (.s 2)),q 10 (.fld 2 (.s 3)),q 11 (.load false 1 (.s 10)),q 12 (.call 433 [(.s 9), (.s 11)]),q 8 (.mv (.s 12)),q 13 (.ext (.s 8) 0),q 14 (.ext (.s 8) 1),q 6 (.alloc (some 3) partZ),
   ⟨none, .store 36 (.s 6) (.s 13), none⟩,
   q 7 (.mv (.s 14))])
 (.seq (.reg [q 15 (.mv (.s 7)),q 16 (.mv (.s 15)),
   ⟨some 17, .fld 1 (.s 3), (some (16, false))⟩,
   ⟨some 18, .load false 1 (.s 17), (some (16, false))⟩,
   ⟨some 19, .fld 1 (.s 2), (some (16, false))⟩,
   ⟨some 20, .load false 1 (.s 19), (some (16, false))⟩,
   ⟨some 21, .int .lss (.s 18) (.s 20), (some (16, false))⟩,
   q 22 (.pick (.s 16) (.c (.bool true)) (.s 21)),q 23 (.mv (.s 22)),
   ⟨some 24, .fld 0 (.s 2), (some (23, false))⟩,
   ⟨some 25, .load false 1 (.s 24), (some (23, false))⟩,
   ⟨some 26, .len (.s 25), (some (23, false))⟩,
   ⟨some 27, .int .geq (.s 26) (.c (.int .i64 64)), (some (23, false))⟩,
   q 28 (.pick (.s 23) (.c (.bool true)) (.s 27))])
 (.cond (.s 28) (.seq (.reg [q 29 (.load true 2 (.s 2)),
   ⟨none, .store 2 (.s 4) (.s 29), none⟩,
   q 5 (.mv (.c (.bool false)))])
 .ret)
 .skip)))
 (.seq (.reg [q 30 (.fld 0 (.s 2)),q 31 (.load false 1 (.s 30)),q 32 (.fld 1 (.s 3)),q 33 (.load false 1 (.s 32)),q 34 (.fld 2 (.s 3)),q 35 (.load false 1 (.s 34)),q 36 (.fld 3 (.s 3)),q 37 (.load true 32 (.s 36)),q 38 (.fld 35 (.s 3)),q 39 (.load false 1 (.s 38)),q 40 (.build partZ [(0, 1, (.s 33)), (1, 1, (.s 35)), (2, 32, (.s 37)), (34, 1, (.s 39))]),q 41 (.bslice 36 [(.s 40)]),q 42 (.app 36 72 (.s 31) (.s 41)),q 43 (.fld 0 (.s 2)),
   ⟨none, .store 1 (.s 43) (.s 42), none⟩])
 (.seq (.reg [q 44 (.fld 1 (.s 3)),q 45 (.load false 1 (.s 44)),q 46 (.int .add (.s 45) (.c (.int .i64 1))),q 47 (.fld 1 (.s 2)),
   ⟨none, .store 1 (.s 47) (.s 46), none⟩])
 (.seq (.reg [q 48 (.load true 2 (.s 2)),
   ⟨none, .store 2 (.s 4) (.s 48), none⟩,
   q 5 (.mv (.c (.bool true)))])
 .ret)))))⟩
end Sm
