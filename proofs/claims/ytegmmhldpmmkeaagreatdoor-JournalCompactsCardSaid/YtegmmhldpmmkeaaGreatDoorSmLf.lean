/-
  Sf
-/
import Derived.Test.YtegmmhldpmmkeaaGreatDoorSmLfB
set_option linter.unusedVariables false
set_option maxRecDepth 100000
namespace Sm
open Go
def sf418 : SF :=
 ⟨3, 33, [.t 6],
 (.seq (.reg [q 6 (.mv (.c (.slice none 0 0)))])
 (.seq (.reg [q 8 (.mv (.s 0)),q 9 (.mv (.s 1)),q 10 (.mv (.s 2)),q 11 (.mv (.s 0)),q 12 (.len (.s 11)),q 13 (.slc 36 (.s 8) (some (.s 9)) (some (.s 10)) (some (.s 12)))])
 (.seq (.seq (.reg [q 14 (.mv (.s 1)),q 15 (.mv (.s 2)),q 16 (.int .eql (.s 14) (.s 15))])
 (.cond (.s 16) (.seq (.reg [q 17 (.mv (.s 0)),q 6 (.mv (.s 17))])
 .ret)
 .skip))
 (.seq (.reg [q 18 (.mv (.s 0)),q 19 (.len (.s 18)),q 7 (.mv (.s 19))])
 (.seq (.dreg [0, 1, 2, 3, 4, 5, 6, 7] [w 20 (.mv (.s 0)),w 21 (.mv (.s 1)),w 22 (.slc 36 (.s 20) none (some (.s 21)) none),w 23 (.mv (.s 0)),w 24 (.mv (.s 2)),w 25 (.slc 36 (.s 23) (some (.s 24)) none none),w 26 (.app 36 72 (.s 22) (.s 25)),w 0 (.mv (.s 26))])
 (.seq (.reg [q 27 (.mv (.s 0)),q 28 (.mv (.s 0)),q 29 (.len (.s 28)),q 30 (.mv (.s 7)),q 31 (.slc 36 (.s 27) (some (.s 29)) (some (.s 30)) none),
   ⟨none, .hop (.clear 36 partZ) [(.s 31)], none⟩])
 (.seq (.reg [q 32 (.mv (.s 0)),q 6 (.mv (.s 32))])
 .ret)))))))⟩
def sf419 : SF :=
 ⟨4, 33, [],
 (.seq (.seq (.reg [q 4 (.load false 1 (.s 0)),q 5 (.int .neq (.s 4) (.c (.int .i64 0)))])
 (.cond (.s 5) (.seq (.dreg [0, 1, 2, 3, 4, 5, 6, 7, 8, 9, 10, 11, 12, 13] [w 6 (.load false 1 (.s 1)),w 7 (.load false 1 (.s 1)),w 8 (.nilc (.s 7)),w 9 (.fld 0 (.s 8)),w 10 (.load false 1 (.s 9)),w 11 (.load false 1 (.s 1)),w 12 (.nilc (.s 11)),w 13 (.fld 3 (.s 12)),w 14 (.load false 1 (.s 13)),
   ⟨q 15 (.call 301 [(.s 10), (.c (.string ⟨#[46, 115, 117, 109, 112, 116, 101, 114]⟩)), (.s 14)]), [0]⟩,
   w 16 (.int .neq (.s 15) (.c (.int .i64 0))),w 17 (.nilc (.s 6)),w 18 (.fld 4 (.s 17)),
   ⟨⟨none, .store 1 (.s 18) (.s 16), none⟩, []⟩])
 .ret)
 .skip))
 (.dreg [0, 1, 2, 3, 4, 5, 6, 7, 8, 9, 10, 11, 12, 13, 14, 15] [w 19 (.load false 1 (.s 1)),w 20 (.load false 1 (.s 1)),w 21 (.load true 2 (.s 2)),w 22 (.load false 1 (.s 1)),w 23 (.nilc (.s 22)),w 24 (.fld 3 (.s 23)),w 25 (.load false 1 (.s 24)),w 26 (.load false 1 (.s 3)),w 27 (.len (.s 26)),w 28 (.int .add (.s 25) (.s 27)),w 29 (.nilc (.s 19)),w 30 (.fld 1 (.s 29)),
   ⟨⟨none, .store 2 (.s 30) (.s 21), none⟩, []⟩,
   w 31 (.nilc (.s 20)),w 32 (.fld 3 (.s 31)),
   ⟨⟨none, .store 1 (.s 32) (.s 28), none⟩, []⟩]))⟩
def sf420 : SF :=
 ⟨2, 9, [.t 2],
 (.seq (.reg [q 2 (.mv (.c (.int .i64 0)))])
 (.seq (.dreg [0, 1, 2, 3, 4, 5, 6] [w 3 (.load false 1 (.s 0)),w 4 (.nilc (.s 3)),w 5 (.fld 0 (.s 4)),w 6 (.load false 1 (.s 5)),w 7 (.load false 1 (.s 1)),w 8 (.call 302 [(.s 6), (.c (.string ⟨#[46, 115, 117, 109, 112, 116, 101, 114]⟩)), (.s 7)]),w 2 (.mv (.s 8))])
 .ret))⟩
def sf421 : SF :=
 ⟨1, 7, [.t 1],
 (.seq (.reg [q 1 (.mv (.c (.int .i64 0)))])
 (.seq (.reg [q 2 (.load false 1 (.s 0)),q 3 (.nilc (.s 2)),q 4 (.fld 0 (.s 3)),q 5 (.load false 1 (.s 4)),q 6 (.call 303 [(.s 5), (.c (.string ⟨#[46, 115, 117, 109, 112, 116, 101, 114]⟩))]),q 1 (.mv (.s 6))])
 .ret))⟩
def sf428 : SF :=
 ⟨1, 5, [.t 2],
 (.seq (.reg [q 2 (.mv (.c (.string ⟨#[]⟩)))])
 (.seq (.reg [q 3 (.mv (.s 0)),q 4 (.dead),q 2 (.mv (.s 4))])
 .ret))⟩
def sf429 : SF :=
 ⟨2, 9, [.t 4],
 (.seq (.reg [q 4 (.mv (.c (.bool false)))])
 (.seq (.reg [q 5 (.mv (.s 0)),q 6 (.mv (.s 1)),q 7 (.call 189 [(.s 5), (.s 6)]),q 8 (.int .geq (.s 7) (.c (.int .i64 0))),q 4 (.mv (.s 8))])
 .ret))⟩
def sf430 : SF :=
 ⟨1, 6, [.t 2],
 (.seq (.reg [q 1 (.box (some 0) 3 (.s 0)),q 2 (.mv (.c (.bool false)))])
 (.seq (.reg [q 3 (.fld 0 (.s 1)),q 4 (.load false 1 (.s 3)),q 5 (.str .eql (.s 4) (.c (.string ⟨#[46, 115, 117, 109, 112, 116, 101, 114, 45, 110, 101, 119]⟩))),q 2 (.mv (.s 5))])
 .ret))⟩
def sf431 : SF :=
 ⟨1, 59, [.cell 2 true 37, .t 3, .t 4],
 (.seq (.reg [q 2 (.alloc (some 0) recZ),q 3 (.mv (.c (.int .i64 0))),q 4 (.mv (.c (.int .i64 0)))])
 (.seq (.reg [q 12 (.mv (.s 0)),q 13 (.call 442 [(.s 12)]),q 11 (.mv (.s 13)),q 14 (.ext (.s 11) 0),q 15 (.ext (.s 11) 1),q 16 (.ext (.s 11) 2),q 5 (.mv (.s 14)),q 6 (.mv (.s 15)),q 7 (.mv (.s 16))])
 (.seq (.block 0 (.seq (.reg [q 18 (.mv (.s 7)),q 19 (.int .neq (.s 18) (.c (.int .i64 0))),q 17 (.mv (.s 19))])
 (.cond (.s 17) (.seq (.reg [q 20 (.build recZ []),q 21 (.mv (.s 7)),
   ⟨none, .store 37 (.s 2) (.s 20), none⟩,
   q 3 (.mv (.c (.int .i64 0))),q 4 (.mv (.s 21))])
 .ret)
 (.seq (.reg [q 23 (.mv (.s 5)),q 24 (.int .gtr (.s 23) (.c (.int .i64 512))),q 22 (.mv (.s 24))])
 (.cond (.s 22) (.seq (.reg [q 25 (.build recZ []),
   ⟨none, .store 37 (.s 2) (.s 25), none⟩,
   q 3 (.mv (.c (.int .i64 0))),q 4 (.mv (.c (.int .i64 4)))])
 .ret)
 (.seq (.reg [q 27 (.mv (.s 5)),q 28 (.mv (.s 0)),q 29 (.len (.s 28)),q 30 (.mv (.s 6)),q 31 (.int .sub (.s 29) (.s 30)),q 32 (.int .gtr (.s 27) (.s 31)),q 26 (.mv (.s 32))])
 (.cond (.s 26) (.seq (.reg [q 33 (.build recZ []),
   ⟨none, .store 37 (.s 2) (.s 33), none⟩,
   q 3 (.mv (.c (.int .i64 0))),q 4 (.mv (.c (.int .i64 3)))])
 .ret)
 .skip)))))))
 (.seq (.reg [q 35 (.mv (.s 0)),q 36 (.mv (.s 6)),q 37 (.mv (.s 6)),q 38 (.mv (.s 5)),q 39 (.int .add (.s 37) (.s 38)),q 40 (.slc 1 (.s 35) (some (.s 36)) (some (.s 39)) none),q 41 (.call 443 [(.s 40)]),q 34 (.mv (.s 41)),q 42 (.ext (.s 34) 0),q 43 (.ext (.s 34) 1),q 8 (.mv (.s 42)),q 7 (.mv (.s 43))])
 (.seq (.seq (.reg [q 44 (.mv (.s 7)),q 45 (.int .neq (.s 44) (.c (.int .i64 0)))])
 (.cond (.s 45) (.seq (.reg [q 46 (.build recZ []),
   ⟨none, .store 37 (.s 2) (.s 46), none⟩,
   q 3 (.mv (.c (.int .i64 0))),q 4 (.mv (.c (.int .i64 4)))])
 .ret)
 .skip))
 (.seq (.reg [q 48 (.mv (.s 8)),q 49 (.call 444 [(.s 48)]),q 47 (.mv (.s 49)),q 50 (.ext (.s 47) 0),q 51 (.ext (.s 47) 1),q 9 (.alloc (some 1) recZ),
   ⟨none, .store 37 (.s 9) (.s 50), none⟩,
   q 10 (.mv (.s 51))])
 (.seq (.seq (.reg [q 52 (.mv (.s 10)),q 53 (.not (.s 52))])
 (.cond (.s 53) (.seq (.reg [q 54 (.build recZ []),
   ⟨none, .store 37 (.s 2) (.s 54), none⟩,
   q 3 (.mv (.c (.int .i64 0))),q 4 (.mv (.c (.int .i64 4)))])
 .ret)
 .skip))
 (.seq (.reg [q 55 (.load true 37 (.s 9)),q 56 (.mv (.s 6)),q 57 (.mv (.s 5)),q 58 (.int .add (.s 56) (.s 57)),
   ⟨none, .store 37 (.s 2) (.s 55), none⟩,
   q 3 (.mv (.s 58)),q 4 (.mv (.c (.int .i64 0)))])
 .ret))))))))⟩
def sf432 : SF :=
 ⟨1, 45, [.t 2, .t 3],
 (.seq (.reg [q 1 (.box none 37 (.s 0)),q 2 (.mv (.c (.slice none 0 0))),q 3 (.mv (.c (.int .i64 0)))])
 (.seq (.seq (.reg [q 6 (.load true 37 (.s 1)),q 7 (.call 384 [(.s 6)]),q 4 (.mv (.s 7))])
 (.seq (.reg [q 8 (.mv (.s 4)),q 9 (.int .neq (.s 8) (.c (.int .i64 0)))])
 (.cond (.s 9) (.seq (.reg [q 10 (.mv (.s 4)),q 2 (.mv (.c (.slice none 0 0))),q 3 (.mv (.s 10))])
 .ret)
 .skip)))
 (.seq (.dreg [0, 3, 1, 2, 4, 5, 6, 7] [w 11 (.fld 0 (.s 1)),w 14 (.fld 1 (.s 1)),w 12 (.load false 1 (.s 11)),w 13 (.bslice 1 [(.s 12)]),w 15 (.load false 1 (.s 14)),
   ⟨q 16 (.call 445 [(.s 15)]), [2]⟩,
   w 17 (.app 1 1 (.s 13) (.s 16)),w 5 (.mv (.s 17))])
 (.seq (.seq (.reg [q 18 (.fld 0 (.s 1)),q 19 (.load false 1 (.s 18))])
 (.block 0 (.seq (.reg [q 21 (.int .eql (.s 19) (.c (.int .u8 0))),q 20 (.mv (.s 21))])
 (.cond (.s 20) (.dreg [0, 1, 4, 5, 6, 2, 7, 3, 8, 9, 10, 11, 12] [w 22 (.mv (.s 5)),w 23 (.fld 2 (.s 1)),w 26 (.fld 3 (.s 1)),w 27 (.asl 32 1 (.s 26) none none),w 28 (.fld 35 (.s 1)),w 24 (.load false 1 (.s 23)),w 29 (.load false 1 (.s 28)),
   ⟨q 25 (.call 446 [(.s 24)]), [6]⟩,
   w 30 (.call 445 [(.s 29)]),w 31 (.bslice 1 [(.s 25), (.s 27), (.s 30)]),w 32 (.call 447 [(.s 31)]),w 33 (.app 1 1 (.s 22) (.s 32)),w 5 (.mv (.s 33))])
 (.seq (.reg [q 35 (.int .eql (.s 19) (.c (.int .u8 1))),q 34 (.mv (.s 35))])
 (.cond (.s 34) (.reg [q 36 (.mv (.s 5)),q 37 (.fld 36 (.s 1)),q 38 (.load false 1 (.s 37)),q 39 (.call 445 [(.s 38)]),q 40 (.app 1 1 (.s 36) (.s 39)),q 5 (.mv (.s 40))])
 .skip))))))
 (.seq (.reg [q 41 (.mv (.s 5)),q 42 (.call 448 [(.s 41)]),q 43 (.nd .b2s [(.s 42)]),q 44 (.call 446 [(.s 43)]),q 2 (.mv (.s 44)),q 3 (.mv (.c (.int .i64 0)))])
 .ret)))))⟩
def sf433 : SF :=
 ⟨2, 19, [.cell 4 true 36, .t 5],
 (.seq (.reg [q 2 (.box (some 0) 2 (.s 0)),q 3 (.box none 1 (.s 1)),q 4 (.alloc (some 2) partZ),q 5 (.mv (.c (.bool false)))])
 (.seq (.reg [q 7 (.fld 0 (.s 2)),q 8 (.load false 1 (.s 7)),q 9 (.mkfn 449 [(.s 3)]),q 10 (.call 416 [(.s 8), (.s 9)]),q 6 (.mv (.s 10))])
 (.seq (.seq (.reg [q 11 (.mv (.s 6)),q 12 (.int .lss (.s 11) (.c (.int .i64 0)))])
 (.cond (.s 12) (.seq (.reg [q 13 (.build partZ []),
   ⟨none, .store 36 (.s 4) (.s 13), none⟩,
   q 5 (.mv (.c (.bool false)))])
 .ret)
 .skip))
 (.seq (.reg [q 14 (.fld 0 (.s 2)),q 15 (.load false 1 (.s 14)),q 16 (.mv (.s 6)),q 17 (.idx 36 (.s 15) (.s 16)),q 18 (.load true 36 (.s 17)),
   ⟨none, .store 36 (.s 4) (.s 18), none⟩,
   q 5 (.mv (.c (.bool true)))])
 .ret))))⟩
def sf442 : SF :=
 ⟨1, 22, [.t 2, .t 3, .t 4],
 (.seq (.reg [q 2 (.mv (.c (.int .i64 0))),q 3 (.mv (.c (.int .i64 0))),q 4 (.mv (.c (.int .i64 0)))])
 (.seq (.reg [q 6 (.mv (.s 0)),q 7 (.call 454 [(.s 6)]),q 5 (.mv (.s 7)),q 8 (.ext (.s 5) 0),q 9 (.ext (.s 5) 1),q 10 (.ext (.s 5) 2),q 2 (.mv (.s 8)),q 3 (.mv (.s 9)),q 4 (.mv (.s 10))])
 (.seq (.seq (.reg [q 11 (.mv (.s 4)),q 12 (.int .eql (.s 11) (.c (.int .i64 0))),q 13 (.mv (.s 12)),
   ⟨some 14, .mv (.s 2), (some (13, true))⟩,
   ⟨some 15, .call 455 [(.s 14)], (some (13, true))⟩,
   ⟨some 16, .mv (.s 3), (some (13, true))⟩,
   ⟨some 17, .int .lss (.s 15) (.s 16), (some (13, true))⟩,
   q 18 (.pick (.s 13) (.s 17) (.c (.bool false)))])
 (.cond (.s 18) (.seq (.reg [q 2 (.mv (.c (.int .i64 0))),q 3 (.mv (.c (.int .i64 0))),q 4 (.mv (.c (.int .i64 4)))])
 .ret)
 .skip))
 (.seq (.reg [q 19 (.mv (.s 2)),q 20 (.mv (.s 3)),q 21 (.mv (.s 4)),q 2 (.mv (.s 19)),q 3 (.mv (.s 20)),q 4 (.mv (.s 21))])
 .ret))))⟩
def sf443 : SF :=
 ⟨1, 26, [.t 2, .t 3],
 (.seq (.reg [q 2 (.mv (.c (.slice none 0 0))),q 3 (.mv (.c (.int .i64 0)))])
 (.seq (.reg [q 5 (.mv (.s 0)),q 6 (.len (.s 5)),q 7 (.int .sub (.s 6) (.c (.int .i64 4))),q 4 (.mv (.s 7))])
 (.seq (.block 0 (.seq (.reg [q 9 (.mv (.s 4)),q 10 (.int .lss (.s 9) (.c (.int .i64 0))),q 8 (.mv (.s 10))])
 (.cond (.s 8) (.seq (.reg [q 2 (.mv (.c (.slice none 0 0))),q 3 (.mv (.c (.int .i64 3)))])
 .ret)
 (.seq (.dreg [0, 1, 2, 5, 6, 7, 3, 4, 8, 9, 10] [w 12 (.mv (.s 0)),w 13 (.mv (.s 4)),w 14 (.slc 1 (.s 12) none (some (.s 13)) none),w 17 (.mv (.s 0)),w 18 (.mv (.s 4)),w 19 (.slc 1 (.s 17) (some (.s 18)) none none),w 15 (.call 456 [(.s 14)]),w 16 (.call 457 [(.s 15)]),w 20 (.call 194 [(.s 16), (.s 19)]),w 21 (.not (.s 20)),w 11 (.mv (.s 21))])
 (.cond (.s 11) (.seq (.reg [q 2 (.mv (.c (.slice none 0 0))),q 3 (.mv (.c (.int .i64 14)))])
 .ret)
 .skip)))))
 (.seq (.reg [q 22 (.mv (.s 0)),q 23 (.mv (.s 4)),q 24 (.slc 1 (.s 22) none (some (.s 23)) none),q 25 (.call 186 [(.s 24)]),q 2 (.mv (.s 25)),q 3 (.mv (.c (.int .i64 0)))])
 .ret))))⟩
def sf444 : SF :=
 ⟨1, 42, [.cell 2 true 37, .t 3],
 (.seq (.reg [q 2 (.alloc (some 0) recZ),q 3 (.mv (.c (.bool false)))])
 (.seq (.reg [q 6 (.mv (.s 0)),q 7 (.call 458 [(.s 6)]),q 4 (.mv (.s 7))])
 (.seq (.reg [q 8 (.mv (.s 4)),q 9 (.call 459 [(.s 8)]),q 10 (.mv (.s 4)),q 11 (.call 460 [(.s 10), (.c (.int .i64 1099511627776))]),q 12 (.build recZ [(0, 1, (.s 9)), (1, 1, (.s 11))]),q 5 (.alloc none recZ),
   ⟨none, .store 37 (.s 5) (.s 12), none⟩])
 (.seq (.seq (.reg [q 13 (.fld 0 (.s 5)),q 14 (.load false 1 (.s 13))])
 (.block 0 (.seq (.reg [q 16 (.int .eql (.s 14) (.c (.int .u8 0))),q 15 (.mv (.s 16))])
 (.cond (.s 15) (.seq (.reg [q 17 (.mv (.s 4)),q 18 (.call 461 [(.s 17), (.c (.int .i64 128))]),q 19 (.fld 2 (.s 5)),
   ⟨none, .store 1 (.s 19) (.s 18), none⟩])
 (.seq (.dreg [0, 1, 2, 3, 4] [w 20 (.fld 3 (.s 5)),w 21 (.asl 32 1 (.s 20) none none),w 22 (.mv (.s 4)),w 23 (.call 462 [(.s 22), (.c (.int .i64 32))]),w 24 (.hop (.copy 1) [(.s 21), (.s 23)])])
 (.reg [q 25 (.mv (.s 4)),q 26 (.call 460 [(.s 25), (.c (.int .i64 65536))]),q 27 (.fld 35 (.s 5)),
   ⟨none, .store 1 (.s 27) (.s 26), none⟩])))
 (.seq (.reg [q 29 (.int .eql (.s 14) (.c (.int .u8 1))),q 28 (.mv (.s 29))])
 (.cond (.s 28) (.reg [q 30 (.mv (.s 4)),q 31 (.call 460 [(.s 30), (.c (.int .i64 65536))]),q 32 (.fld 36 (.s 5)),
   ⟨none, .store 1 (.s 32) (.s 31), none⟩])
 .skip))))))
 (.seq (.dreg [1, 0, 2, 3, 4, 5, 6, 7, 8, 9, 10] [w 34 (.mv (.s 4)),w 33 (.load true 37 (.s 5)),
   ⟨q 35 (.call 463 [(.s 34)]), [1]⟩,
   w 36 (.int .eql (.s 35) (.c (.int .i64 0))),w 37 (.mv (.s 36)),
   ⟨⟨some 38, .load true 37 (.s 5), (some (37, true))⟩, []⟩,
   ⟨⟨some 39, .call 384 [(.s 38)], (some (37, true))⟩, [1]⟩,
   ⟨⟨some 40, .int .eql (.s 39) (.c (.int .i64 0)), (some (37, true))⟩, []⟩,
   w 41 (.pick (.s 37) (.s 40) (.c (.bool false))),
   ⟨⟨none, .store 37 (.s 2) (.s 33), none⟩, []⟩,
   w 3 (.mv (.s 41))])
 .ret)))))⟩
def sf445 : SF :=
 ⟨1, 13, [.t 2],
 (.seq (.reg [q 2 (.mv (.c (.slice none 0 0)))])
 (.seq (.reg [q 6 (.mv (.s 0)),q 7 (.call 464 [(.s 6)]),q 5 (.mv (.s 7)),q 8 (.ext (.s 5) 0),q 9 (.ext (.s 5) 1),q 3 (.mv (.s 8)),q 4 (.mv (.s 9))])
 (.seq (.seq (.reg [q 10 (.mv (.s 4)),q 11 (.int .neq (.s 10) (.c (.int .i64 0)))])
 (.cond (.s 11) (.seq (.reg [q 2 (.mv (.c (.slice none 0 0)))])
 .ret)
 .skip))
 (.seq (.reg [q 12 (.mv (.s 3)),q 2 (.mv (.s 12))])
 .ret))))⟩
def sf446 : SF :=
 ⟨1, 8, [.t 2],
 (.seq (.reg [q 2 (.mv (.c (.slice none 0 0)))])
 (.seq (.reg [q 3 (.mv (.s 0)),q 4 (.slen (.s 3)),q 5 (.call 445 [(.s 4)]),q 6 (.mv (.s 0)),q 7 (.app 1 1 (.s 5) (.s 6)),q 2 (.mv (.s 7))])
 .ret))⟩
def sf447 : SF :=
 ⟨1, 5, [.t 2],
 (.seq (.reg [q 2 (.mv (.c (.slice none 0 0)))])
 (.seq (.reg [q 3 (.mv (.s 0)),q 4 (.call 465 [(.s 3)]),q 2 (.mv (.s 4))])
 .ret))⟩
def sf448 : SF :=
 ⟨1, 9, [.t 2],
 (.seq (.reg [q 2 (.mv (.c (.slice none 0 0)))])
 (.seq (.reg [q 3 (.mv (.s 0)),q 4 (.call 186 [(.s 3)]),q 5 (.mv (.s 0)),q 6 (.call 456 [(.s 5)]),q 7 (.call 457 [(.s 6)]),q 8 (.app 1 1 (.s 4) (.s 7)),q 2 (.mv (.s 8))])
 .ret))⟩
def sf449 : SF :=
 ⟨2, 8, [.t 3],
 (.seq (.reg [q 2 (.box (some 0) 36 (.s 0)),q 3 (.mv (.c (.bool false)))])
 (.seq (.reg [q 4 (.fld 1 (.s 2)),q 5 (.load false 1 (.s 4)),q 6 (.load false 1 (.s 1)),q 7 (.str .eql (.s 5) (.s 6)),q 3 (.mv (.s 7))])
 .ret))⟩
def sf454 : SF :=
 ⟨1, 41, [.t 2, .t 3, .t 4],
 (.seq (.reg [q 2 (.mv (.c (.int .i64 0))),q 3 (.mv (.c (.int .i64 0))),q 4 (.mv (.c (.int .i64 0)))])
 (.seq (.seq (.reg [q 8 (.mv (.s 0)),q 9 (.len (.s 8)),q 10 (.int .eql (.s 9) (.c (.int .i64 0)))])
 (.cond (.s 10) (.seq (.reg [q 2 (.mv (.c (.int .i64 0))),q 3 (.mv (.c (.int .i64 0))),q 4 (.mv (.c (.int .i64 3)))])
 .ret)
 .skip))
 (.seq (.reg [q 11 (.mv (.s 0)),q 12 (.idx 1 (.s 11) (.c (.int .i64 0))),q 13 (.load false 1 (.s 12)),q 14 (.int .shr (.s 13) (.c (.int .u64 6))),q 15 (.int .shl (.c (.int .i64 1)) (.s 14)),q 5 (.mv (.s 15))])
 (.seq (.seq (.reg [q 16 (.mv (.s 0)),q 17 (.len (.s 16)),q 18 (.mv (.s 5)),q 19 (.int .lss (.s 17) (.s 18))])
 (.cond (.s 19) (.seq (.reg [q 2 (.mv (.c (.int .i64 0))),q 3 (.mv (.c (.int .i64 0))),q 4 (.mv (.c (.int .i64 3)))])
 .ret)
 .skip))
 (.seq (.reg [q 20 (.mv (.s 0)),q 21 (.idx 1 (.s 20) (.c (.int .i64 0))),q 22 (.load false 1 (.s 21)),q 23 (.int .and (.s 22) (.c (.int .u8 63))),q 24 (.conv .i64 (.s 23)),q 2 (.mv (.s 24))])
 (.seq (.seq (.reg [q 25 (.mv (.s 0)),q 26 (.mv (.s 5)),q 27 (.slc 1 (.s 25) (some (.c (.int .i64 1))) (some (.s 26)) none),q 28 (.len (.s 27)),q 29 (.mv (.c (.int .i64 0)))])
 (.block 0 (.loop (.seq (.reg [q 30 (.int .lss (.s 29) (.s 28))])
 (.seq (.cond (.s 30) .skip
 (.exit 0))
 (.seq (.block 1 (.seq (.reg [q 31 (.idx 1 (.s 27) (.s 29)),q 32 (.load false 1 (.s 31)),q 7 (.mv (.s 32))])
 (.reg [q 33 (.mv (.s 2)),q 34 (.int .shl (.s 33) (.c (.int .u64 8))),q 35 (.mv (.s 7)),q 36 (.conv .i64 (.s 35)),q 37 (.int .or (.s 34) (.s 36)),q 2 (.mv (.s 37))])))
 (.reg [q 38 (.int .add (.s 29) (.c (.int .i64 1))),q 29 (.mv (.s 38))])))))))
 (.seq (.reg [q 39 (.mv (.s 2)),q 40 (.mv (.s 5)),q 2 (.mv (.s 39)),q 3 (.mv (.s 40)),q 4 (.mv (.c (.int .i64 0)))])
 .ret)))))))⟩
def sf455 : SF :=
 ⟨1, 14, [.t 2],
 (.seq (.reg [q 2 (.mv (.c (.int .i64 0)))])
 (.seq (.seq (.reg [q 5 (.call 472 []),q 6 (.mv (.c (.int .i64 0)))])
 (.block 0 (.loop (.seq (.reg [q 7 (.int .lss (.s 6) (.c (.int .i64 4)))])
 (.seq (.cond (.s 7) .skip
 (.exit 0))
 (.seq (.block 1 (.seq (.reg [q 8 (.hop (.m (.idxA 4 1 false)) [(.s 5), (.s 6)]),q 4 (.mv (.s 8))])
 (.seq (.reg [q 9 (.mv (.s 0)),q 10 (.mv (.s 4)),q 11 (.call 473 [(.s 9), (.s 10)])])
 (.cond (.s 11) (.seq (.reg [q 12 (.mv (.s 4)),q 2 (.mv (.s 12))])
 .ret)
 .skip))))
 (.reg [q 13 (.int .add (.s 6) (.c (.int .i64 1))),q 6 (.mv (.s 13))])))))))
 (.seq (.reg [q 2 (.mv (.c (.int .i64 0)))])
 .ret)))⟩
def sf456 : SF :=
 ⟨1, 5, [.t 2],
 (.seq (.reg [q 2 (.mv (.c (.int .u32 0)))])
 (.seq (.reg [q 3 (.mv (.s 0)),q 4 (.call 474 [(.c (.int .u32 0)), (.s 3)]),q 2 (.mv (.s 4))])
 .ret))⟩
def sf457 : SF :=
 ⟨1, 21, [.t 2],
 (.seq (.reg [q 2 (.mv (.c (.slice none 0 0)))])
 (.seq (.reg [q 5 (.hop (.mks 1 1 [.v (.int .u8 0)]) [(.c (.int .i64 4)), (.c (.int .i64 4))]),q 3 (.mv (.s 5))])
 (.seq (.seq (.reg [q 6 (.mv (.s 3)),q 7 (.len (.s 6)),q 8 (.mv (.c (.int .i64 0)))])
 (.block 0 (.loop (.seq (.reg [q 9 (.int .lss (.s 8) (.s 7))])
 (.seq (.cond (.s 9) .skip
 (.exit 0))
 (.seq (.block 1 (.seq (.reg [q 10 (.mv (.s 8)),q 4 (.mv (.s 10))])
 (.reg [q 11 (.mv (.s 3)),q 12 (.mv (.s 4)),q 13 (.mv (.s 0)),q 14 (.mv (.s 4)),q 15 (.int .mul (.c (.int .i64 8)) (.s 14)),q 16 (.int .shr (.s 13) (.s 15)),q 17 (.conv .u8 (.s 16)),q 18 (.idx 1 (.s 11) (.s 12)),
   ⟨none, .store 1 (.s 18) (.s 17), none⟩])))
 (.reg [q 19 (.int .add (.s 8) (.c (.int .i64 1))),q 8 (.mv (.s 19))])))))))
 (.seq (.reg [q 20 (.mv (.s 3)),q 2 (.mv (.s 20))])
 .ret))))⟩
def sf458 : SF :=
 ⟨1, 6, [.t 2],
 (.seq (.reg [q 2 (.mv (.c (.pointer none)))])
 (.seq (.reg [q 3 (.mv (.s 0)),q 4 (.build [.v (.slice none 0 0), .v (.int .i64 0)] [(0, 1, (.s 3))]),q 5 (.box none 2 (.s 4)),q 2 (.mv (.s 5))])
 .ret))⟩
def sf459 : SF :=
 ⟨1, 10, [.t 2],
 (.seq (.reg [q 2 (.mv (.c (.int .u8 0)))])
 (.seq (.seq (.reg [q 4 (.mv (.s 0)),q 5 (.call 462 [(.s 4), (.c (.int .i64 1))]),q 3 (.mv (.s 5))])
 (.seq (.reg [q 6 (.mv (.s 3)),q 7 (.str .neq (.s 6) (.c (.string ⟨#[]⟩)))])
 (.cond (.s 7) (.seq (.reg [q 8 (.mv (.s 3)),q 9 (.sidx (.s 8) (.c (.int .i64 0))),q 2 (.mv (.s 9))])
 .ret)
 .skip)))
 (.seq (.reg [q 2 (.mv (.c (.int .u8 0)))])
 .ret)))⟩
def sf460 : SF :=
 ⟨2, 37, [.t 4],
 (.seq (.reg [q 4 (.mv (.c (.int .i64 0)))])
 (.seq (.seq (.reg [q 8 (.mv (.s 0)),q 9 (.eq .ptr false (.s 8) (.c (.pointer none))),q 10 (.mv (.s 9)),
   ⟨some 11, .mv (.s 0), (some (10, false))⟩,
   ⟨some 12, .nilc (.s 11), (some (10, false))⟩,
   ⟨some 13, .fld 1 (.s 12), (some (10, false))⟩,
   ⟨some 14, .load false 1 (.s 13), (some (10, false))⟩,
   ⟨some 15, .int .neq (.s 14) (.c (.int .i64 0)), (some (10, false))⟩,
   q 16 (.pick (.s 10) (.c (.bool true)) (.s 15))])
 (.cond (.s 16) (.seq (.reg [q 4 (.mv (.c (.int .i64 0)))])
 .ret)
 .skip))
 (.seq (.reg [q 18 (.mv (.s 0)),q 19 (.mv (.s 1)),q 20 (.call 475 [(.s 18), (.s 19)]),q 17 (.mv (.s 20)),q 21 (.ext (.s 17) 0),q 22 (.ext (.s 17) 1),q 23 (.ext (.s 17) 2),q 5 (.mv (.s 21)),q 6 (.mv (.s 22)),q 7 (.mv (.s 23))])
 (.seq (.seq (.reg [q 24 (.mv (.s 0)),q 25 (.mv (.s 7)),q 26 (.call 476 [(.s 24), (.s 25)])])
 (.cond (.s 26) (.seq (.reg [q 4 (.mv (.c (.int .i64 0)))])
 .ret)
 .skip))
 (.seq (.reg [q 27 (.mv (.s 0)),q 28 (.mv (.s 0)),q 29 (.nilc (.s 28)),q 30 (.fld 0 (.s 29)),q 31 (.load false 1 (.s 30)),q 32 (.mv (.s 6)),q 33 (.slc 1 (.s 31) (some (.s 32)) none none),q 34 (.nilc (.s 27)),q 35 (.fld 0 (.s 34)),
   ⟨none, .store 1 (.s 35) (.s 33), none⟩])
 (.seq (.reg [q 36 (.mv (.s 5)),q 4 (.mv (.s 36))])
 .ret))))))⟩
def sf461 : SF :=
 ⟨2, 52, [.t 4],
 (.seq (.reg [q 4 (.mv (.c (.string ⟨#[]⟩)))])
 (.seq (.seq (.reg [q 8 (.mv (.s 0)),q 9 (.eq .ptr false (.s 8) (.c (.pointer none))),q 10 (.mv (.s 9)),
   ⟨some 11, .mv (.s 0), (some (10, false))⟩,
   ⟨some 12, .nilc (.s 11), (some (10, false))⟩,
   ⟨some 13, .fld 1 (.s 12), (some (10, false))⟩,
   ⟨some 14, .load false 1 (.s 13), (some (10, false))⟩,
   ⟨some 15, .int .neq (.s 14) (.c (.int .i64 0)), (some (10, false))⟩,
   q 16 (.pick (.s 10) (.c (.bool true)) (.s 15))])
 (.cond (.s 16) (.seq (.reg [q 4 (.mv (.c (.string ⟨#[]⟩)))])
 .ret)
 .skip))
 (.seq (.reg [q 18 (.mv (.s 0)),q 19 (.mv (.s 1)),q 20 (.call 475 [(.s 18), (.s 19)]),q 17 (.mv (.s 20)),q 21 (.ext (.s 17) 0),q 22 (.ext (.s 17) 1),q 23 (.ext (.s 17) 2),q 5 (.mv (.s 21)),q 6 (.mv (.s 22)),q 7 (.mv (.s 23))])
 (.seq (.seq (.reg [q 24 (.mv (.s 7)),q 25 (.int .eql (.s 24) (.c (.int .i64 0))),q 26 (.mv (.s 25)),
   ⟨some 27, .mv (.s 0), (some (26, true))⟩,
   ⟨some 28, .nilc (.s 27), (some (26, true))⟩,
   ⟨some 29, .fld 0 (.s 28), (some (26, true))⟩,
   ⟨some 30, .load false 1 (.s 29), (some (26, true))⟩,
   ⟨some 31, .len (.s 30), (some (26, true))⟩,
   ⟨some 32, .mv (.s 6), (some (26, true))⟩,
   ⟨some 33, .int .sub (.s 31) (.s 32), (some (26, true))⟩,
   ⟨some 34, .mv (.s 5), (some (26, true))⟩,
   ⟨some 35, .int .lss (.s 33) (.s 34), (some (26, true))⟩,
   q 36 (.pick (.s 26) (.s 35) (.c (.bool false)))])
 (.cond (.s 36) (.reg [q 7 (.mv (.c (.int .i64 3)))])
 .skip))
 (.seq (.seq (.reg [q 37 (.mv (.s 0)),q 38 (.mv (.s 7)),q 39 (.call 476 [(.s 37), (.s 38)])])
 (.cond (.s 39) (.seq (.reg [q 4 (.mv (.c (.string ⟨#[]⟩)))])
 .ret)
 .skip))
 (.seq (.reg [q 40 (.mv (.s 0)),q 41 (.mv (.s 0)),q 42 (.nilc (.s 41)),q 43 (.fld 0 (.s 42)),q 44 (.load false 1 (.s 43)),q 45 (.mv (.s 6)),q 46 (.slc 1 (.s 44) (some (.s 45)) none none),q 47 (.nilc (.s 40)),q 48 (.fld 0 (.s 47)),
   ⟨none, .store 1 (.s 48) (.s 46), none⟩])
 (.seq (.reg [q 49 (.mv (.s 0)),q 50 (.mv (.s 5)),q 51 (.call 462 [(.s 49), (.s 50)]),q 4 (.mv (.s 51))])
 .ret)))))))⟩
def sf462 : SF :=
 ⟨2, 47, [.t 4],
 (.seq (.reg [q 4 (.mv (.c (.string ⟨#[]⟩)))])
 (.seq (.seq (.reg [q 6 (.mv (.s 0)),q 7 (.eq .ptr false (.s 6) (.c (.pointer none))),q 8 (.mv (.s 7)),
   ⟨some 9, .mv (.s 0), (some (8, false))⟩,
   ⟨some 10, .nilc (.s 9), (some (8, false))⟩,
   ⟨some 11, .fld 1 (.s 10), (some (8, false))⟩,
   ⟨some 12, .load false 1 (.s 11), (some (8, false))⟩,
   ⟨some 13, .int .neq (.s 12) (.c (.int .i64 0)), (some (8, false))⟩,
   q 14 (.pick (.s 8) (.c (.bool true)) (.s 13))])
 (.cond (.s 14) (.seq (.reg [q 4 (.mv (.c (.string ⟨#[]⟩)))])
 .ret)
 .skip))
 (.seq (.block 0 (.seq (.reg [q 16 (.mv (.s 1)),q 17 (.int .lss (.s 16) (.c (.int .i64 0))),q 15 (.mv (.s 17))])
 (.cond (.s 15) (.seq (.reg [q 18 (.mv (.s 0)),q 19 (.call 476 [(.s 18), (.c (.int .i64 2))])])
 (.seq (.reg [q 4 (.mv (.c (.string ⟨#[]⟩)))])
 .ret))
 (.seq (.reg [q 21 (.mv (.s 0)),q 22 (.nilc (.s 21)),q 23 (.fld 0 (.s 22)),q 24 (.load false 1 (.s 23)),q 25 (.len (.s 24)),q 26 (.mv (.s 1)),q 27 (.int .lss (.s 25) (.s 26)),q 20 (.mv (.s 27))])
 (.cond (.s 20) (.seq (.reg [q 28 (.mv (.s 0)),q 29 (.call 476 [(.s 28), (.c (.int .i64 3))])])
 (.seq (.reg [q 4 (.mv (.c (.string ⟨#[]⟩)))])
 .ret))
 .skip)))))
 (.seq (.reg [q 30 (.mv (.s 0)),q 31 (.nilc (.s 30)),q 32 (.fld 0 (.s 31)),q 33 (.load false 1 (.s 32)),q 34 (.mv (.s 1)),q 35 (.slc 1 (.s 33) none (some (.s 34)) none),q 36 (.nd .b2s [(.s 35)]),q 5 (.mv (.s 36))])
 (.seq (.reg [q 37 (.mv (.s 0)),q 38 (.mv (.s 0)),q 39 (.nilc (.s 38)),q 40 (.fld 0 (.s 39)),q 41 (.load false 1 (.s 40)),q 42 (.mv (.s 1)),q 43 (.slc 1 (.s 41) (some (.s 42)) none none),q 44 (.nilc (.s 37)),q 45 (.fld 0 (.s 44)),
   ⟨none, .store 1 (.s 45) (.s 43), none⟩])
 (.seq (.reg [q 46 (.mv (.s 5)),q 4 (.mv (.s 46))])
 .ret))))))⟩
def sf463 : SF :=
 ⟨1, 15, [.t 2],
 (.seq (.reg [q 2 (.mv (.c (.int .i64 0)))])
 (.seq (.seq (.reg [q 4 (.mv (.s 0)),q 5 (.call 477 [(.s 4)]),q 3 (.mv (.s 5))])
 (.seq (.reg [q 6 (.mv (.s 3)),q 7 (.int .neq (.s 6) (.c (.int .i64 0)))])
 (.cond (.s 7) (.seq (.reg [q 8 (.mv (.s 3)),q 2 (.mv (.s 8))])
 .ret)
 .skip)))
 (.seq (.seq (.reg [q 9 (.mv (.s 0)),q 10 (.nilc (.s 9)),q 11 (.fld 0 (.s 10)),q 12 (.load false 1 (.s 11)),q 13 (.len (.s 12)),q 14 (.int .gtr (.s 13) (.c (.int .i64 0)))])
 (.cond (.s 14) (.seq (.reg [q 2 (.mv (.c (.int .i64 4)))])
 .ret)
 .skip))
 (.seq (.reg [q 2 (.mv (.c (.int .i64 0)))])
 .ret))))⟩
def sf464 : SF :=
 ⟨1, 14, [.t 2, .t 3],
 (.seq (.reg [q 2 (.mv (.c (.slice none 0 0))),q 3 (.mv (.c (.int .i64 0)))])
 (.seq (.reg [q 5 (.mv (.s 0)),q 6 (.call 455 [(.s 5)]),q 4 (.mv (.s 6))])
 (.seq (.seq (.reg [q 7 (.mv (.s 4)),q 8 (.int .eql (.s 7) (.c (.int .i64 0)))])
 (.cond (.s 8) (.seq (.reg [q 2 (.mv (.c (.slice none 0 0))),q 3 (.mv (.c (.int .i64 13)))])
 .ret)
 .skip))
 (.seq (.reg [q 9 (.mv (.s 0)),q 10 (.mv (.s 4)),q 11 (.call 478 [(.s 9), (.s 10)]),q 12 (.ext (.s 11) 0),q 13 (.ext (.s 11) 1),q 2 (.mv (.s 12)),q 3 (.mv (.s 13))])
 .ret))))⟩
def sf465 : SF :=
 ⟨1, 36, [.t 2],
 (.seq (.reg [q 2 (.mv (.c (.slice none 0 0)))])
 (.seq (.reg [q 3 (.mv (.c (.int .i64 0)))])
 (.seq (.seq (.reg [q 9 (.mv (.s 0)),q 10 (.len (.s 9)),q 11 (.mv (.c (.int .i64 0)))])
 (.block 0 (.loop (.seq (.reg [q 12 (.int .lss (.s 11) (.s 10))])
 (.seq (.cond (.s 12) .skip
 (.exit 0))
 (.seq (.block 1 (.seq (.reg [q 13 (.idx 1 (.s 9) (.s 11)),q 14 (.load false 1 (.s 13)),q 5 (.mv (.s 14))])
 (.seq (.reg [q 15 (.mv (.s 3)),q 16 (.mv (.s 5)),q 17 (.len (.s 16)),q 18 (.int .add (.s 15) (.s 17)),q 3 (.mv (.s 18))])
 (.seq (.reg [q 19 (.mv (.s 3)),q 20 (.int .lss (.s 19) (.c (.int .i64 0)))])
 (.cond (.s 20) (.reg [q 21 (.hop (.m (.mki 9)) [(.c (.string ⟨#[108, 101, 110, 32, 111, 117, 116, 32, 111, 102, 32, 114, 97, 110, 103, 101]⟩))]),
   ⟨none, .dead, none⟩])
 .skip)))))
 (.reg [q 22 (.int .add (.s 11) (.c (.int .i64 1))),q 11 (.mv (.s 22))])))))))
 (.seq (.reg [q 23 (.mv (.s 3)),q 24 (.call 479 [(.c (.slice none 0 0)), (.s 23)]),q 6 (.mv (.s 24))])
 (.seq (.seq (.reg [q 25 (.mv (.s 0)),q 26 (.len (.s 25)),q 27 (.mv (.c (.int .i64 0)))])
 (.block 2 (.loop (.seq (.reg [q 28 (.int .lss (.s 27) (.s 26))])
 (.seq (.cond (.s 28) .skip
 (.exit 2))
 (.seq (.block 3 (.seq (.reg [q 29 (.idx 1 (.s 25) (.s 27)),q 30 (.load false 1 (.s 29)),q 8 (.mv (.s 30))])
 (.reg [q 31 (.mv (.s 6)),q 32 (.mv (.s 8)),q 33 (.app 1 1 (.s 31) (.s 32)),q 6 (.mv (.s 33))])))
 (.reg [q 34 (.int .add (.s 27) (.c (.int .i64 1))),q 27 (.mv (.s 34))])))))))
 (.seq (.reg [q 35 (.mv (.s 6)),q 2 (.mv (.s 35))])
 .ret))))))⟩
def sf472 : SF :=
 ⟨0, 2, [.cell 0 true 4],
 (.seq (.reg [q 0 (.alloc (some 0) [.v (.int .i64 0), .v (.int .i64 0), .v (.int .i64 0), .v (.int .i64 0)])])
 (.seq (.reg [q 1 (.hop (.m (.bldA 1)) [(.c (.int .i64 1)), (.c (.int .i64 2)), (.c (.int .i64 4)), (.c (.int .i64 8))]),
   ⟨none, .store 4 (.s 0) (.s 1), none⟩])
 .ret))⟩
def sf473 : SF :=
 ⟨2, 16, [.t 4],
 (.seq (.reg [q 4 (.mv (.c (.bool false)))])
 (.seq (.reg [q 5 (.mv (.s 0)),q 6 (.int .geq (.s 5) (.c (.int .i64 0))),q 7 (.mv (.s 6)),
   ⟨some 8, .mv (.s 0), (some (7, true))⟩,
   ⟨some 9, .conv .u64 (.s 8), (some (7, true))⟩,
   ⟨some 10, .mv (.s 1), (some (7, true))⟩,
   ⟨some 11, .int .mul (.c (.int .i64 8)) (.s 10), (some (7, true))⟩,
   ⟨some 12, .int .sub (.s 11) (.c (.int .i64 2)), (some (7, true))⟩,
   ⟨some 13, .int .shl (.c (.int .u64 1)) (.s 12), (some (7, true))⟩,
   ⟨some 14, .int .lss (.s 9) (.s 13), (some (7, true))⟩,
   q 15 (.pick (.s 7) (.s 14) (.c (.bool false))),q 4 (.mv (.s 15))])
 .ret))⟩
def sf474 : SF :=
 ⟨2, 36, [.t 4],
 (.seq (.reg [q 4 (.mv (.c (.int .u32 0)))])
 (.seq (.reg [q 7 (.mv (.s 0)),q 8 (.com (.s 7)),q 0 (.mv (.s 8))])
 (.seq (.seq (.reg [q 9 (.mv (.s 1)),q 10 (.len (.s 9)),q 11 (.mv (.c (.int .i64 0)))])
 (.block 0 (.loop (.seq (.reg [q 12 (.int .lss (.s 11) (.s 10))])
 (.seq (.cond (.s 12) .skip
 (.exit 0))
 (.seq (.block 1 (.seq (.reg [q 13 (.idx 1 (.s 9) (.s 11)),q 14 (.load false 1 (.s 13)),q 6 (.mv (.s 14))])
 (.seq (.reg [q 15 (.mv (.s 0)),q 16 (.mv (.s 6)),q 17 (.conv .u32 (.s 16)),q 18 (.int .xor (.s 15) (.s 17)),q 0 (.mv (.s 18))])
 (.seq (.reg [q 19 (.mv (.s 0)),q 20 (.int .and (.s 19) (.c (.int .u32 15))),q 21 (.aidx 16 1 (.g 0) (.s 20)),q 22 (.load false 1 (.s 21)),q 23 (.mv (.s 0)),q 24 (.int .shr (.s 23) (.c (.int .u64 4))),q 25 (.int .xor (.s 22) (.s 24)),q 0 (.mv (.s 25))])
 (.reg [q 26 (.mv (.s 0)),q 27 (.int .and (.s 26) (.c (.int .u32 15))),q 28 (.aidx 16 1 (.g 0) (.s 27)),q 29 (.load false 1 (.s 28)),q 30 (.mv (.s 0)),q 31 (.int .shr (.s 30) (.c (.int .u64 4))),q 32 (.int .xor (.s 29) (.s 31)),q 0 (.mv (.s 32))])))))
 (.reg [q 33 (.int .add (.s 11) (.c (.int .i64 1))),q 11 (.mv (.s 33))])))))))
 (.seq (.reg [q 34 (.mv (.s 0)),q 35 (.com (.s 34)),q 4 (.mv (.s 35))])
 .ret))))⟩
def sf475 : SF :=
 ⟨2, 26, [.t 4, .t 5, .t 6],
 (.seq (.reg [q 4 (.mv (.c (.int .i64 0))),q 5 (.mv (.c (.int .i64 0))),q 6 (.mv (.c (.int .i64 0)))])
 (.seq (.reg [q 8 (.mv (.s 0)),q 9 (.nilc (.s 8)),q 10 (.fld 0 (.s 9)),q 11 (.load false 1 (.s 10)),q 12 (.call 442 [(.s 11)]),q 7 (.mv (.s 12)),q 13 (.ext (.s 7) 0),q 14 (.ext (.s 7) 1),q 15 (.ext (.s 7) 2),q 4 (.mv (.s 13)),q 5 (.mv (.s 14)),q 6 (.mv (.s 15))])
 (.seq (.seq (.reg [q 16 (.mv (.s 6)),q 17 (.int .eql (.s 16) (.c (.int .i64 0))),q 18 (.mv (.s 17)),
   ⟨some 19, .mv (.s 4), (some (18, true))⟩,
   ⟨some 20, .mv (.s 1), (some (18, true))⟩,
   ⟨some 21, .int .gtr (.s 19) (.s 20), (some (18, true))⟩,
   q 22 (.pick (.s 18) (.s 21) (.c (.bool false)))])
 (.cond (.s 22) (.seq (.reg [q 4 (.mv (.c (.int .i64 0))),q 5 (.mv (.c (.int .i64 0))),q 6 (.mv (.c (.int .i64 5)))])
 .ret)
 .skip))
 (.seq (.reg [q 23 (.mv (.s 4)),q 24 (.mv (.s 5)),q 25 (.mv (.s 6)),q 4 (.mv (.s 23)),q 5 (.mv (.s 24)),q 6 (.mv (.s 25))])
 .ret))))⟩
def sf476 : SF :=
 ⟨2, 23, [.t 4],
 (.seq (.reg [q 4 (.mv (.c (.bool false)))])
 (.seq (.seq (.reg [q 5 (.mv (.s 1)),q 6 (.int .neq (.s 5) (.c (.int .i64 0))),q 7 (.mv (.s 6)),
   ⟨some 8, .mv (.s 0), (some (7, true))⟩,
   ⟨some 9, .nilc (.s 8), (some (7, true))⟩,
   ⟨some 10, .fld 1 (.s 9), (some (7, true))⟩,
   ⟨some 11, .load false 1 (.s 10), (some (7, true))⟩,
   ⟨some 12, .int .eql (.s 11) (.c (.int .i64 0)), (some (7, true))⟩,
   q 13 (.pick (.s 7) (.s 12) (.c (.bool false)))])
 (.cond (.s 13) (.reg [q 14 (.mv (.s 0)),q 15 (.mv (.s 1)),q 16 (.nilc (.s 14)),q 17 (.fld 1 (.s 16)),
   ⟨none, .store 1 (.s 17) (.s 15), none⟩])
 .skip))
 (.seq (.reg [q 18 (.mv (.s 0)),q 19 (.nilc (.s 18)),q 20 (.fld 1 (.s 19)),q 21 (.load false 1 (.s 20)),q 22 (.int .neq (.s 21) (.c (.int .i64 0))),q 4 (.mv (.s 22))])
 .ret)))⟩
def sf477 : SF :=
 ⟨1, 9, [.t 2],
 (.seq (.reg [q 2 (.mv (.c (.int .i64 0)))])
 (.seq (.seq (.reg [q 3 (.mv (.s 0)),q 4 (.eq .ptr false (.s 3) (.c (.pointer none)))])
 (.cond (.s 4) (.seq (.reg [q 2 (.mv (.c (.int .i64 1)))])
 .ret)
 .skip))
 (.seq (.reg [q 5 (.mv (.s 0)),q 6 (.nilc (.s 5)),q 7 (.fld 1 (.s 6)),q 8 (.load false 1 (.s 7)),q 2 (.mv (.s 8))])
 .ret)))⟩
def sf478 : SF :=
 ⟨2, 43, [.t 4, .t 5],
 (.seq (.reg [q 4 (.mv (.c (.slice none 0 0))),q 5 (.mv (.c (.int .i64 0)))])
 (.seq (.reg [q 9 (.mv (.s 1)),q 10 (.call 490 [(.s 9)]),q 6 (.mv (.s 10))])
 (.seq (.block 0 (.seq (.reg [q 12 (.mv (.s 6)),q 13 (.int .lss (.s 12) (.c (.int .i64 0))),q 11 (.mv (.s 13))])
 (.cond (.s 11) (.seq (.reg [q 4 (.mv (.c (.slice none 0 0))),q 5 (.mv (.c (.int .i64 2)))])
 .ret)
 (.seq (.reg [q 15 (.mv (.s 0)),q 16 (.mv (.s 1)),q 17 (.call 473 [(.s 15), (.s 16)]),q 18 (.not (.s 17)),q 14 (.mv (.s 18))])
 (.cond (.s 14) (.seq (.reg [q 4 (.mv (.c (.slice none 0 0))),q 5 (.mv (.c (.int .i64 13)))])
 .ret)
 .skip)))))
 (.seq (.reg [q 19 (.mv (.s 1)),q 20 (.hop (.mks 1 1 [.v (.int .u8 0)]) [(.s 19), (.s 19)]),q 7 (.mv (.s 20))])
 (.seq (.seq (.reg [q 21 (.mv (.s 1)),q 22 (.int .sub (.s 21) (.c (.int .i64 1))),q 8 (.mv (.s 22))])
 (.block 1 (.loop (.seq (.seq (.reg [q 23 (.mv (.s 8)),q 24 (.int .geq (.s 23) (.c (.int .i64 0)))])
 (.cond (.s 24) .skip
 (.exit 1)))
 (.seq (.block 2 (.seq (.reg [q 27 (.mv (.s 7)),q 28 (.mv (.s 8)),q 29 (.mv (.s 0)),q 30 (.conv .u8 (.s 29)),q 31 (.idx 1 (.s 27) (.s 28)),
   ⟨none, .store 1 (.s 31) (.s 30), none⟩])
 (.reg [q 32 (.mv (.s 0)),q 33 (.int .shr (.s 32) (.c (.int .u64 8))),q 0 (.mv (.s 33))])))
 (.reg [q 25 (.mv (.s 8)),q 26 (.int .sub (.s 25) (.c (.int .i64 1))),q 8 (.mv (.s 26))]))))))
 (.seq (.reg [q 34 (.mv (.s 7)),q 35 (.idx 1 (.s 34) (.c (.int .i64 0))),q 36 (.load false 1 (.s 35)),q 37 (.mv (.s 6)),q 38 (.int .shl (.s 37) (.c (.int .u64 6))),q 39 (.conv .u8 (.s 38)),q 40 (.int .or (.s 36) (.s 39)),q 41 (.idx 1 (.s 34) (.c (.int .i64 0))),
   ⟨none, .store 1 (.s 41) (.s 40), none⟩])
 (.seq (.reg [q 42 (.mv (.s 7)),q 4 (.mv (.s 42)),q 5 (.mv (.c (.int .i64 0)))])
 .ret)))))))⟩
def sf479 : SF :=
 ⟨2, 27, [.t 4],
 (.seq (.reg [q 4 (.mv (.c (.slice none 0 0)))])
 (.seq (.seq (.reg [q 5 (.mv (.s 1)),q 6 (.int .lss (.s 5) (.c (.int .i64 0)))])
 (.cond (.s 6) (.reg [q 7 (.hop (.m (.mki 9)) [(.c (.string ⟨#[99, 97, 110, 110, 111, 116, 32, 98, 101, 32, 110, 101, 103, 97, 116, 105, 118, 101]⟩))]),
   ⟨none, .dead, none⟩])
 .skip))
 (.seq (.seq (.reg [q 8 (.mv (.s 1)),q 9 (.mv (.s 0)),q 10 (.nd .cap [(.s 9)]),q 11 (.mv (.s 0)),q 12 (.len (.s 11)),q 13 (.int .sub (.s 10) (.s 12)),q 14 (.int .sub (.s 8) (.s 13)),q 1 (.mv (.s 14))])
 (.seq (.reg [q 15 (.mv (.s 1)),q 16 (.int .gtr (.s 15) (.c (.int .i64 0)))])
 (.cond (.s 16) (.reg [q 17 (.mv (.s 0)),q 18 (.mv (.s 0)),q 19 (.nd .cap [(.s 18)]),q 20 (.slc 1 (.s 17) none (some (.s 19)) none),q 21 (.mv (.s 1)),q 22 (.hop (.appz 1 1 [.v (.int .u8 0)]) [(.s 20), (.s 21)]),q 23 (.mv (.s 0)),q 24 (.len (.s 23)),q 25 (.slc 1 (.s 22) none (some (.s 24)) none),q 0 (.mv (.s 25))])
 .skip)))
 (.seq (.reg [q 26 (.mv (.s 0)),q 4 (.mv (.s 26))])
 .ret))))⟩
def sf490 : SF :=
 ⟨1, 15, [.t 2],
 (.seq (.reg [q 2 (.mv (.c (.int .i64 0)))])
 (.seq (.seq (.reg [q 5 (.call 472 []),q 6 (.mv (.c (.int .i64 0)))])
 (.block 0 (.loop (.seq (.reg [q 7 (.int .lss (.s 6) (.c (.int .i64 4)))])
 (.seq (.cond (.s 7) .skip
 (.exit 0))
 (.seq (.block 1 (.seq (.reg [q 8 (.mv (.s 6)),q 9 (.hop (.m (.idxA 4 1 false)) [(.s 5), (.s 6)]),q 3 (.mv (.s 8)),q 4 (.mv (.s 9))])
 (.seq (.reg [q 10 (.mv (.s 4)),q 11 (.mv (.s 0)),q 12 (.int .eql (.s 10) (.s 11))])
 (.cond (.s 12) (.seq (.reg [q 13 (.mv (.s 3)),q 2 (.mv (.s 13))])
 .ret)
 .skip))))
 (.reg [q 14 (.int .add (.s 6) (.c (.int .i64 1))),q 6 (.mv (.s 14))])))))))
 (.seq (.reg [q 2 (.mv (.c (.int .i64 (-1))))])
 .ret)))⟩
def sf497 : SF :=
 ⟨2, 130, [.t 4],
 (.seq (.reg [q 4 (.mv (.c (.bool false)))])
 (.seq (.seq (.reg [q 16 (.mv (.s 0)),q 17 (.call 377 [(.s 16), (.c (.int .i64 40))]),q 18 (.not (.s 17))])
 (.cond (.s 18) (.seq (.reg [q 19 (.call 378 []),q 4 (.mv (.s 19))])
 .ret)
 .skip))
 (.seq (.reg [q 20 (.call 294 [(.c (.int .i64 1048576))]),q 5 (.mv (.s 20))])
 (.seq (.reg [q 22 (.mv (.s 5)),q 23 (.call 379 [(.s 22)]),q 21 (.mv (.s 23)),q 24 (.ext (.s 21) 0),q 25 (.ext (.s 21) 1),q 6 (.mv (.s 24)),q 7 (.mv (.s 25))])
 (.seq (.seq (.reg [q 26 (.mv (.s 7)),q 27 (.int .neq (.s 26) (.c (.int .i64 0))),q 28 (.mv (.s 27)),
   ⟨some 29, .mv (.s 6), (some (28, false))⟩,
   ⟨some 30, .eq .ptr false (.s 29) (.c (.pointer none)), (some (28, false))⟩,
   q 31 (.pick (.s 28) (.c (.bool true)) (.s 30))])
 (.cond (.s 31) (.seq (.reg [q 4 (.mv (.c (.bool false)))])
 .ret)
 .skip))
 (.seq (.seq (.reg [q 8 (.mv (.c (.int .i64 0)))])
 (.block 0 (.loop (.seq (.seq (.reg [q 32 (.mv (.s 8)),q 33 (.mv (.s 0)),q 34 (.len (.s 33)),q 35 (.int .lss (.s 32) (.s 34))])
 (.cond (.s 35) .skip
 (.exit 0)))
 (.seq (.block 1 (.reg [q 38 (.mv (.s 6)),q 39 (.mv (.s 0)),q 40 (.mv (.s 8)),q 41 (.idx 44 (.s 39) (.s 40)),q 42 (.fld 1 (.s 41)),q 43 (.load true 37 (.s 42)),q 44 (.call 383 [(.s 43)]),q 45 (.call 386 [(.s 38), (.s 44)])]))
 (.reg [q 36 (.mv (.s 8)),q 37 (.int .add (.s 36) (.c (.int .i64 1))),q 8 (.mv (.s 37))]))))))
 (.seq (.reg [q 46 (.mv (.s 6)),q 47 (.call 380 [(.s 46)]),q 48 (.mv (.s 6)),q 49 (.call 387 [(.s 48)]),q 9 (.alloc (some 0) [.v (.slice none 0 0), .v (.int .i64 0)]),
   ⟨none, .store 2 (.s 9) (.s 47), none⟩,
   q 10 (.mv (.s 49))])
 (.seq (.reg [q 50 (.mv (.s 5)),q 51 (.mv (.s 1)),q 52 (.int .rem (.s 51) (.c (.int .u8 8))),q 53 (.conv .i64 (.s 52)),q 54 (.call 311 [(.s 50), (.s 53)])])
 (.seq (.reg [q 55 (.mv (.s 6)),q 56 (.call 382 [(.s 55)]),q 11 (.mv (.s 56))])
 (.seq (.seq (.dreg [0, 2, 1, 3, 4, 5, 6, 7, 8, 9, 10, 11, 12, 13, 14, 15, 16, 17, 18, 19, 20] [w 57 (.mv (.s 6)),w 59 (.load true 2 (.s 9)),
   ⟨q 58 (.call 380 [(.s 57)]), [1]⟩,
   w 60 (.call 381 [(.s 58), (.s 59)]),w 61 (.not (.s 60)),w 62 (.mv (.s 61)),
   ⟨⟨some 63, .mv (.s 11), (some (62, false))⟩, []⟩,
   ⟨⟨some 64, .int .neq (.s 63) (.c (.int .i64 0)), (some (62, false))⟩, []⟩,
   ⟨⟨some 65, .mv (.s 64), (some (62, false))⟩, []⟩,
   ⟨⟨some 66, .mv (.s 11), (some (65, true))⟩, []⟩,
   ⟨⟨some 67, .int .neq (.s 66) (.c (.int .i64 12)), (some (65, true))⟩, []⟩,
   ⟨⟨some 68, .pick (.s 65) (.s 67) (.c (.bool false)), (some (62, false))⟩, []⟩,
   w 69 (.pick (.s 62) (.c (.bool true)) (.s 68)),w 70 (.mv (.s 69)),
   ⟨⟨some 71, .mv (.s 11), (some (70, false))⟩, []⟩,
   ⟨⟨some 72, .int .eql (.s 71) (.c (.int .i64 0)), (some (70, false))⟩, []⟩,
   ⟨⟨some 73, .mv (.s 72), (some (70, false))⟩, []⟩,
   ⟨⟨some 74, .mv (.s 6), (some (73, true))⟩, []⟩,
   ⟨⟨some 75, .call 388 [(.s 74)], (some (73, true))⟩, []⟩,
   ⟨⟨some 76, .pick (.s 73) (.s 75) (.c (.bool false)), (some (70, false))⟩, []⟩,
   w 77 (.pick (.s 70) (.c (.bool true)) (.s 76))])
 (.cond (.s 77) (.seq (.reg [q 4 (.mv (.c (.bool false)))])
 .ret)
 .skip))
 (.seq (.reg [q 78 (.mv (.s 5)),q 79 (.call 297 [(.s 78), (.c (.int .i64 99)), (.c (.slice none 0 0))])])
 (.seq (.reg [q 81 (.mv (.s 5)),q 82 (.call 379 [(.s 81)]),q 80 (.mv (.s 82)),q 83 (.ext (.s 80) 0),q 84 (.ext (.s 80) 1),q 12 (.mv (.s 83)),q 13 (.mv (.s 84))])
 (.seq (.seq (.dreg [0, 1, 2, 3, 4, 5, 6, 7, 9, 8, 10, 11, 12, 13, 14, 15, 16, 17] [w 85 (.mv (.s 13)),w 86 (.int .neq (.s 85) (.c (.int .i64 0))),w 87 (.mv (.s 86)),
   ⟨⟨some 88, .mv (.s 12), (some (87, false))⟩, []⟩,
   ⟨⟨some 89, .eq .ptr false (.s 88) (.c (.pointer none)), (some (87, false))⟩, []⟩,
   w 90 (.pick (.s 87) (.c (.bool true)) (.s 89)),w 91 (.mv (.s 90)),
   ⟨⟨some 92, .mv (.s 12), (some (91, false))⟩, []⟩,
   ⟨⟨some 94, .load true 2 (.s 9), (some (91, false))⟩, []⟩,
   ⟨⟨some 93, .call 380 [(.s 92)], (some (91, false))⟩, [8]⟩,
   ⟨⟨some 95, .call 381 [(.s 93), (.s 94)], (some (91, false))⟩, []⟩,
   ⟨⟨some 96, .not (.s 95), (some (91, false))⟩, []⟩,
   w 97 (.pick (.s 91) (.c (.bool true)) (.s 96)),w 98 (.mv (.s 97)),
   ⟨⟨some 99, .mv (.s 12), (some (98, false))⟩, []⟩,
   ⟨⟨some 100, .call 382 [(.s 99)], (some (98, false))⟩, []⟩,
   ⟨⟨some 101, .int .neq (.s 100) (.c (.int .i64 0)), (some (98, false))⟩, []⟩,
   w 102 (.pick (.s 98) (.c (.bool true)) (.s 101))])
 (.cond (.s 102) (.seq (.reg [q 4 (.mv (.c (.bool false)))])
 .ret)
 .skip))
 (.seq (.reg [q 104 (.mv (.s 5)),q 105 (.call 300 [(.s 104), (.c (.string ⟨#[46, 115, 117, 109, 112, 116, 101, 114, 45, 110, 101, 119]⟩))]),q 103 (.mv (.s 105)),q 106 (.ext (.s 103) 0),q 107 (.ext (.s 103) 1),q 14 (.mv (.s 106)),q 15 (.mv (.s 107))])
 (.seq (.dreg [0, 1, 2, 3, 5, 4, 6, 7, 8, 9, 11, 10, 12, 13, 14, 15, 16, 17, 18, 19, 20, 21, 22] [w 108 (.mv (.s 15)),w 109 (.int .eql (.s 108) (.c (.int .i64 8))),w 110 (.mv (.s 109)),
   ⟨⟨some 111, .mv (.s 12), (some (110, true))⟩, []⟩,
   ⟨⟨some 113, .load true 2 (.s 9), (some (110, true))⟩, []⟩,
   ⟨⟨some 112, .call 380 [(.s 111)], (some (110, true))⟩, [4]⟩,
   ⟨⟨some 114, .call 381 [(.s 112), (.s 113)], (some (110, true))⟩, []⟩,
   w 115 (.pick (.s 110) (.s 114) (.c (.bool false))),w 116 (.mv (.s 115)),
   ⟨⟨some 117, .mv (.s 12), (some (116, true))⟩, []⟩,
   ⟨⟨some 119, .mv (.s 10), (some (116, true))⟩, []⟩,
   ⟨⟨some 118, .call 387 [(.s 117)], (some (116, true))⟩, []⟩,
   ⟨⟨some 120, .int .leq (.s 118) (.s 119), (some (116, true))⟩, []⟩,
   ⟨⟨some 121, .mv (.s 120), (some (116, true))⟩, []⟩,
   ⟨⟨some 122, .fld 1 (.s 9), (some (121, false))⟩, []⟩,
   ⟨⟨some 123, .load false 1 (.s 122), (some (121, false))⟩, []⟩,
   ⟨⟨some 124, .int .gtr (.s 123) (.c (.int .i64 0)), (some (121, false))⟩, []⟩,
   ⟨⟨some 125, .pick (.s 121) (.c (.bool true)) (.s 124), (some (116, true))⟩, []⟩,
   w 126 (.pick (.s 116) (.s 125) (.c (.bool false))),w 127 (.mv (.s 126)),
   ⟨⟨some 128, .call 378 [], (some (127, true))⟩, []⟩,
   w 129 (.pick (.s 127) (.s 128) (.c (.bool false))),w 4 (.mv (.s 129))])
 .ret)))))))))))))))⟩
abbrev clT : Nat := 91
def sfTab : List (Nat × SF) := [(90, sf90), (163, sf163), (164, sf164), (181, sf181), (182, sf182), (183, sf183), (186, sf186), (189, sf189), (192, sf192), (193, sf193), (194, sf194), (195, sf195), (196, sf196), (197, sf197), (201, sf201), (202, sf202), (203, sf203), (204, sf204), (205, sf205), (206, sf206), (210, sf210), (211, sf211), (212, sf212), (214, sf214), (218, sf218), (219, sf219), (221, sf221), (294, sf294), (297, sf297), (298, sf298), (299, sf299), (300, sf300), (301, sf301), (302, sf302), (303, sf303), (304, sf304), (309, sf309), (311, sf311), (312, sf312), (313, sf313), (315, sf315), (329, sf329), (330, sf330), (331, sf331), (332, sf332), (333, sf333), (334, sf334), (335, sf335), (336, sf336), (337, sf337), (338, sf338), (339, sf339), (340, sf340), (341, sf341), (342, sf342), (343, sf343), (344, sf344), (350, sf350), (351, sf351), (361, sf361), (362, sf362), (363, sf363), (364, sf364), (365, sf365), (366, sf366), (367, sf367), (369, sf369), (377, sf377), (378, sf378), (379, sf379), (380, sf380), (381, sf381), (382, sf382), (383, sf383), (384, sf384), (385, sf385), (386, sf386), (387, sf387), (388, sf388), (396, sf396), (398, sf398), (399, sf399), (400, sf400), (401, sf401), (402, sf402), (403, sf403), (404, sf404), (405, sf405), (406, sf406), (407, sf407), (408, sf408), (409, sf409), (410, sf410), (411, sf411), (412, sf412), (413, sf413), (414, sf414), (415, sf415), (416, sf416), (417, sf417), (418, sf418), (419, sf419), (420, sf420), (421, sf421), (428, sf428), (429, sf429), (430, sf430), (431, sf431), (432, sf432), (433, sf433), (442, sf442), (443, sf443), (444, sf444), (445, sf445), (446, sf446), (447, sf447), (448, sf448), (449, sf449), (454, sf454), (455, sf455), (456, sf456), (457, sf457), (458, sf458), (459, sf459), (460, sf460), (461, sf461), (462, sf462), (463, sf463), (464, sf464), (465, sf465), (472, sf472), (473, sf473), (474, sf474), (475, sf475), (476, sf476), (477, sf477), (478, sf478), (479, sf479), (490, sf490), (497, sf497)]
def code (g : Nat) : SF := (lk sfTab g).getD ⟨0, 0, [], .skip⟩
theorem code90 : code 90 = sf90 := rfl
theorem code163 : code 163 = sf163 := rfl
theorem code164 : code 164 = sf164 := rfl
theorem code181 : code 181 = sf181 := rfl
theorem code182 : code 182 = sf182 := rfl
theorem code183 : code 183 = sf183 := rfl
theorem code186 : code 186 = sf186 := rfl
theorem code189 : code 189 = sf189 := rfl
theorem code192 : code 192 = sf192 := rfl
theorem code193 : code 193 = sf193 := rfl
theorem code194 : code 194 = sf194 := rfl
theorem code195 : code 195 = sf195 := rfl
theorem code196 : code 196 = sf196 := rfl
theorem code197 : code 197 = sf197 := rfl
theorem code201 : code 201 = sf201 := rfl
theorem code202 : code 202 = sf202 := rfl
theorem code203 : code 203 = sf203 := rfl
theorem code204 : code 204 = sf204 := rfl
theorem code205 : code 205 = sf205 := rfl
theorem code206 : code 206 = sf206 := rfl
theorem code210 : code 210 = sf210 := rfl
theorem code211 : code 211 = sf211 := rfl
theorem code212 : code 212 = sf212 := rfl
theorem code214 : code 214 = sf214 := rfl
theorem code218 : code 218 = sf218 := rfl
theorem code219 : code 219 = sf219 := rfl
theorem code221 : code 221 = sf221 := rfl
theorem code294 : code 294 = sf294 := rfl
theorem code297 : code 297 = sf297 := rfl
theorem code298 : code 298 = sf298 := rfl
theorem code299 : code 299 = sf299 := rfl
theorem code300 : code 300 = sf300 := rfl
theorem code301 : code 301 = sf301 := rfl
theorem code302 : code 302 = sf302 := rfl
theorem code303 : code 303 = sf303 := rfl
theorem code304 : code 304 = sf304 := rfl
theorem code309 : code 309 = sf309 := rfl
theorem code311 : code 311 = sf311 := rfl
theorem code312 : code 312 = sf312 := rfl
theorem code313 : code 313 = sf313 := rfl
theorem code315 : code 315 = sf315 := rfl
theorem code329 : code 329 = sf329 := rfl
theorem code330 : code 330 = sf330 := rfl
theorem code331 : code 331 = sf331 := rfl
theorem code332 : code 332 = sf332 := rfl
theorem code333 : code 333 = sf333 := rfl
theorem code334 : code 334 = sf334 := rfl
theorem code335 : code 335 = sf335 := rfl
theorem code336 : code 336 = sf336 := rfl
theorem code337 : code 337 = sf337 := rfl
theorem code338 : code 338 = sf338 := rfl
theorem code339 : code 339 = sf339 := rfl
theorem code340 : code 340 = sf340 := rfl
theorem code341 : code 341 = sf341 := rfl
theorem code342 : code 342 = sf342 := rfl
theorem code343 : code 343 = sf343 := rfl
theorem code344 : code 344 = sf344 := rfl
theorem code350 : code 350 = sf350 := rfl
theorem code351 : code 351 = sf351 := rfl
theorem code361 : code 361 = sf361 := rfl
theorem code362 : code 362 = sf362 := rfl
theorem code363 : code 363 = sf363 := rfl
theorem code364 : code 364 = sf364 := rfl
theorem code365 : code 365 = sf365 := rfl
theorem code366 : code 366 = sf366 := rfl
theorem code367 : code 367 = sf367 := rfl
theorem code369 : code 369 = sf369 := rfl
theorem code377 : code 377 = sf377 := rfl
theorem code378 : code 378 = sf378 := rfl
theorem code379 : code 379 = sf379 := rfl
theorem code380 : code 380 = sf380 := rfl
theorem code381 : code 381 = sf381 := rfl
theorem code382 : code 382 = sf382 := rfl
theorem code383 : code 383 = sf383 := rfl
theorem code384 : code 384 = sf384 := rfl
theorem code385 : code 385 = sf385 := rfl
theorem code386 : code 386 = sf386 := rfl
theorem code387 : code 387 = sf387 := rfl
theorem code388 : code 388 = sf388 := rfl
theorem code396 : code 396 = sf396 := rfl
theorem code398 : code 398 = sf398 := rfl
theorem code399 : code 399 = sf399 := rfl
theorem code400 : code 400 = sf400 := rfl
theorem code401 : code 401 = sf401 := rfl
theorem code402 : code 402 = sf402 := rfl
theorem code403 : code 403 = sf403 := rfl
theorem code404 : code 404 = sf404 := rfl
theorem code405 : code 405 = sf405 := rfl
theorem code406 : code 406 = sf406 := rfl
theorem code407 : code 407 = sf407 := rfl
theorem code408 : code 408 = sf408 := rfl
theorem code409 : code 409 = sf409 := rfl
theorem code410 : code 410 = sf410 := rfl
theorem code411 : code 411 = sf411 := rfl
theorem code412 : code 412 = sf412 := rfl
theorem code413 : code 413 = sf413 := rfl
theorem code414 : code 414 = sf414 := rfl
theorem code415 : code 415 = sf415 := rfl
theorem code416 : code 416 = sf416 := rfl
theorem code417 : code 417 = sf417 := rfl
theorem code418 : code 418 = sf418 := rfl
theorem code419 : code 419 = sf419 := rfl
theorem code420 : code 420 = sf420 := rfl
theorem code421 : code 421 = sf421 := rfl
theorem code428 : code 428 = sf428 := rfl
theorem code429 : code 429 = sf429 := rfl
theorem code430 : code 430 = sf430 := rfl
theorem code431 : code 431 = sf431 := rfl
theorem code432 : code 432 = sf432 := rfl
theorem code433 : code 433 = sf433 := rfl
theorem code442 : code 442 = sf442 := rfl
theorem code443 : code 443 = sf443 := rfl
theorem code444 : code 444 = sf444 := rfl
theorem code445 : code 445 = sf445 := rfl
theorem code446 : code 446 = sf446 := rfl
theorem code447 : code 447 = sf447 := rfl
theorem code448 : code 448 = sf448 := rfl
theorem code449 : code 449 = sf449 := rfl
theorem code454 : code 454 = sf454 := rfl
theorem code455 : code 455 = sf455 := rfl
theorem code456 : code 456 = sf456 := rfl
theorem code457 : code 457 = sf457 := rfl
theorem code458 : code 458 = sf458 := rfl
theorem code459 : code 459 = sf459 := rfl
theorem code460 : code 460 = sf460 := rfl
theorem code461 : code 461 = sf461 := rfl
theorem code462 : code 462 = sf462 := rfl
theorem code463 : code 463 = sf463 := rfl
theorem code464 : code 464 = sf464 := rfl
theorem code465 : code 465 = sf465 := rfl
theorem code472 : code 472 = sf472 := rfl
theorem code473 : code 473 = sf473 := rfl
theorem code474 : code 474 = sf474 := rfl
theorem code475 : code 475 = sf475 := rfl
theorem code476 : code 476 = sf476 := rfl
theorem code477 : code 477 = sf477 := rfl
theorem code478 : code 478 = sf478 := rfl
theorem code479 : code 479 = sf479 := rfl
theorem code490 : code 490 = sf490 := rfl
theorem code497 : code 497 = sf497 := rfl
end Sm
