/-
  Sf
-/
import Derived.Test.YtegmmhldpmmkeaaGreatDoorSmLfB
set_option linter.unusedVariables false
set_option maxRecDepth 100000
namespace Sm
open Go
def QM:SF :=⟨3,33,[.t 6],z [q 6 (.mv (.c (.slice none 0 0)))] (z [m 8 0,m 9 1,m 10 2,m 11 0,n 12 11,q 13 (.gy 36 (.s 8) (some (.s 9)) (some (.s 10)) (some (.s 12)))] (.seq (z [m 14 1,m 15 2,
 q 16 (.int .eql (.s 14) (.s 15))] (.cond (.s 16) (z [m 17 0,m 6 17] .ret) .skip)) (z [m 18 0,n 19 18,m 7 19] (.seq (.bp [0,1,2,3,4,5,6,7] [m' 20 0,m' 21 1,q' 22 (.gy 36 (.s 20) none (some (.s 21)) none),m' 23 0,
 m' 24 2,q' 25 (.gy 36 (.s 23) (some (.s 24)) none none),q' 26 (.app 36 72 (.s 22) (.s 25)),m' 0 26]) (z [m 27 0,m 28 0,n 29 28,m 30 7,q 31 (.gy 36 (.s 27) (some (.s 29)) (some (.s 30)) none),⟨none,
 .cH (.clear 36 lQ) [.s 31],none⟩] (z [m 32 0,m 6 32] .ret))))))⟩
def QN:SF :=⟨4,33,[],.seq (z [l 4 1 0,q 5 (.int .neq (.s 4) (i 0))] (.cond (.s 5) (.seq (.bp [0,1,2,3,4,5,6,7,8,9,10,11,12,13] [l' 6 1 1,l' 7 1 1,j' 8 7,f' 9 0 8,l' 10 1 9,l' 11 1 1,j' 12 11,f' 13 3 12,l' 14 1 13,
 ⟨q 15 (.call 301 [.s 10,.c (.string ⟨#[46,115,117,109,112,116,101,114]⟩),.s 14]),[0]⟩,q' 16 (.int .neq (.s 15) (i 0)),j' 17 6,f' 18 4 17,o' 1 18 16]) .ret) .skip)) (.bp [0,1,2,3,4,5,6,7,8,9,10,11,12,13,14,
 15] [l' 19 1 1,l' 20 1 1,t' 21 2 2,l' 22 1 1,j' 23 22,f' 24 3 23,l' 25 1 24,l' 26 1 3,n' 27 26,q' 28 (.int .add (.s 25) (.s 27)),j' 29 19,f' 30 1 29,o' 2 30 21,j' 31 20,f' 32 3 31,o' 1 32 28])⟩
def QO:SF :=⟨2,9,[.t 2],z [q 2 (.mv (i 0))] (.seq (.bp [0,1,2,3,4,5,6] [l' 3 1 0,j' 4 3,f' 5 0 4,l' 6 1 5,l' 7 1 1,q' 8 (.call 302 [.s 6,.c (.string ⟨#[46,115,117,109,112,116,101,114]⟩),.s 7]),m' 2 8]) .ret)⟩
def QP:SF :=⟨1,7,[.t 1],z [q 1 (.mv (i 0))] (z [l 2 1 0,j 3 2,f 4 0 3,l 5 1 4,q 6 (.call 303 [.s 5,.c (.string ⟨#[46,115,117,109,112,116,101,114]⟩)]),m 1 6] .ret)⟩
def QQ:SF :=⟨2,38,[.t 4],z [q 2 (.box (some 0) 2 (.s 0)),q 3 (.box (some 1) 2 (.s 1)),q 4 (.mv ff)] (.seq (z [f 6 0 2,l 7 1 6,n 8 7,f 9 0 3,l 10 1 9,n 11 10,q 12 (.int .neq (.s 8) (.s 11)),m 13 12,x 14 13 (.dZ 1 (.s 2)),
 x 15 13 (.load false 1 (.s 14)),x 16 13 (.dZ 1 (.s 3)),x 17 13 (.load false 1 (.s 16)),x 18 13 (.int .neq (.s 15) (.s 17)),
 r 19 13 18] (.cond (.s 19) (z [q 4 (.mv ff)] .ret) .skip)) (.seq (z [q 5 (.mv (i 0))] (.block 0 (.loop (.seq (z [m 20 5,f 21 0 2,l 22 1 21,n 23 22,
 q 24 (.int .lss (.s 20) (.s 23))] (.cond (.s 24) .skip (.exit 0))) (.seq (.block 1 (.seq (.bp [0,2,5,7,1,3,4,6,8,9,10] [f' 27 0 2,m' 29 5,f' 32 0 3,m' 34 5,l' 28 1 27,b' 30 36 28 29,t' 31 36 30,l' 33 1 32,
 b' 35 36 33 34,t' 36 36 35,q' 37 (.eq (.ag [.i,.s,.i,.i,.i,.i,.i,.i,.i,.i,.i,.i,.i,.i,.i,.i,.i,.i,.i,.i,.i,.i,.i,.i,.i,.i,.i,.i,.i,.i,.i,.i,.i,.i,.i,
 .i]) true (.s 31) (.s 36))]) (.cond (.s 37) (z [q 4 (.mv ff)] .ret) .skip))) (.bL [m 25 5,q 26 (.int .add (.s 25) (i 1)),m 5 26])))))) (z [q 4 (.mv tt)] .ret)))⟩
def QR:SF :=⟨1,17,[.t 2],z [q 1 (.box (some 0) 13 (.s 0)),q 2 (.mv ff)] (.seq (.bp [0,1,2,3,4,6,5,7,8,9,10,11,12,13,14] [f' 3 11 1,l' 4 1 3,q' 5 (.int .gtr (.s 4) (i 2048)),m' 6 5,y' 7 6 (.dZ 11 (.s 1)),y' 9 6 (.dZ 9 (.s 1)),
 y' 8 6 (.load false 1 (.s 7)),y' 10 6 (.load true 2 (.s 9)),⟨y 11 6 (.call 434 [.s 10]),[6]⟩,⟨y 12 6 (.call 435 [.s 11]),[6]⟩,y' 13 6 (.len (.s 12)),y' 14 6 (.int .mul (i 2) (.s 13)),y' 15 6 (.int .gtr (.s 8) (.s 14)),
 p' 16 6 15,m' 2 16]) .ret)⟩
def QS:SF :=⟨2,87,[.cell 4 true 9,.t 5,.t 6],z [q 2 (.box (some 0) 9 (.s 0)),q 3 (.box (some 1) 2 (.s 1)),q 4 (.alloc (some 2) O1),q 5 (.mv (i 0)),q 6 (.mv (i 0))] (z [t 14 9 2,c 15 346 14,m 7 15] (z [q 8 (.mv (i 0)),
 q 9 (.mv (i 0))] (.seq (z [q 10 (.mv (i 0))] (.block 0 (.loop (.seq (z [m 16 10,m 17 7,n 18 17,q 19 (.int .lss (.s 16) (.s 18))] (.cond (.s 19) .skip (.exit 0))) (.seq (.block 1 (z [m 22 7,m 23 10,b 24 3 22 23,f 25 0 24,
 l 26 1 25,m 11 26] (.seq (z [m 27 7,m 28 10,b 29 3 27 28,f 30 1 29,l 31 1 30,m 32 31,xm 33 32 11,x 34 32 (.dF (.s 33)),x 35 32 (.int .lss (.s 34) (i 10)),r 36 32 35,m 37 36,xm 38 37 11,
 x 39 37 (.sI (.s 38) none (some (i 10))),x 40 37 (.str .neq (.s 39) (.c (.string ⟨#[46,115,117,109,112,116,101,114,45,116]⟩))),
 r 41 37 40] (.cond (.s 41) (.exit 1) .skip)) (z [q 12 (.mv ff)] (.seq (z [q 13 (.mv (i 0))] (.block 2 (.loop (.seq (z [m 42 13,f 43 0 3,l 44 1 43,n 45 44,
 q 46 (.int .lss (.s 42) (.s 45))] (.cond (.s 46) .skip (.exit 2))) (.seq (.block 3 (.bL [m 49 12,m 50 49,x 51 50 (.dZ 0 (.s 3)),x 52 50 (.load false 1 (.s 51)),xm 53 50 13,x 54 50 (.idx 36 (.s 52) (.s 53)),
 x 55 50 (.dZ 0 (.s 54)),x 56 50 (.load false 1 (.s 55)),x 57 50 (.call 397 [.s 56]),xm 58 50 11,x 59 50 (.str .eql (.s 57) (.s 58)),r 60 50 59,m 12 60])) (.bL [m 47 13,q 48 (.int .add (.s 47) (i 1)),
 m 13 48])))))) (.seq (z [m 61 12] (.cond (.s 61) (.exit 1) .skip)) (z [t 63 9 2,m 64 11,cc 65 325 63 64,m 62 65,e 66 0 62,e 67 1 62,o 9 2 66,m 9 67] (.seq (z [m 68 9,
 q 69 (.int .neq (.s 68) (i 0))] (.cond (.s 69) (z [t 70 9 2,m 71 9,o 9 4 70,q 5 (.mv (i 0)),m 6 71] .ret) .skip)) (.bL [m 72 8,q 73 (.int .add (.s 72) (i 1)),m 8 73]))))))))) (.bL [m 20 10,
 q 21 (.int .add (.s 20) (i 1)),m 10 21])))))) (.seq (z [m 74 8,q 75 (.int .gtr (.s 74) (i 0))] (.cond (.s 75) (.bL [t 77 9 2,c 78 327 77,m 76 78,e 79 0 76,e 80 1 76,o 9 2 79,m 9 80]) .skip)) (.seq (z [m 81 9,
 q 82 (.int .neq (.s 81) (i 0))] (.cond (.s 82) (z [t 83 9 2,m 84 9,o 9 4 83,q 5 (.mv (i 0)),m 6 84] .ret) .skip)) (z [t 85 9 2,m 86 8,o 9 4 85,m 5 86,q 6 (.mv (i 0))] .ret))))))⟩
def QT:SF :=⟨1,87,[.cell 2 true 13,.t 3],z [q 1 (.box (some 0) 13 (.s 0)),q 2 (.alloc (some 1) O2),q 3 (.mv (i 0))] (.seq (z [f 6 12 1,l 7 1 6] (.cond (.s 7) (z [t 8 13 1,o 13 2 8,
 q 3 (.mv (i 16))] .ret) .skip)) (z [q 4 (.mv (i 0))] (.seq (z [f 9 0 1,t 10 9 9,q 11 (.call 436 [.s 10,.c (.string ⟨#[46,115,117,109,112,116,101,114,45,110,101,119]⟩)])] (.cond (.s 11) (z [f 13 0 1,t 14 9 13,
 q 15 (.call 325 [.s 14,.c (.string ⟨#[46,115,117,109,112,116,101,114,45,110,101,119]⟩)]),m 12 15,e 16 0 12,e 17 1 12,f 18 0 1,o 9 18 16,m 4 17] (z [m 19 4,q 20 (.int .neq (.s 19) (i 0))] (.cond (.s 20) (z [t 21 13 1,
 m 22 4,cc 23 437 21 22,e 24 0 23,e 25 1 23,o 13 2 24,m 3 25] .ret) .skip))) .skip)) (z [f 26 9 1,t 27 2 26,c 28 434 27,c 29 435 28,m 5 29] (z [f 31 0 1,t 32 9 31,q 33 (.call 320 [.s 32,.c (.string ⟨#[46,115,117,109,112,
 116,101,114,45,110,101,119]⟩)]),m 30 33,e 34 0 30,e 35 1 30,f 36 0 1,o 9 36 34,m 4 35] (.seq (z [m 37 4,q 38 (.int .eql (.s 37) (i 0))] (.cond (.s 38) (.bL [f 40 0 1,t 41 9 40,m 42 5,q 43 (.call 321 [.s 41,
 .c (.string ⟨#[46,115,117,109,112,116,101,114,45,110,101,119]⟩),.s 42]),m 39 43,e 44 0 39,e 45 1 39,f 46 0 1,o 9 46 44,m 4 45]) .skip)) (.seq (z [m 47 4,q 48 (.int .eql (.s 47) (i 0))] (.cond (.s 48) (.bL [f 50 0 1,
 t 51 9 50,q 52 (.call 323 [.s 51,.c (.string ⟨#[46,115,117,109,112,116,101,114,45,110,101,119]⟩)]),m 49 52,e 53 0 49,e 54 1 49,f 55 0 1,o 9 55 53,m 4 54]) .skip)) (.seq (z [m 56 4,
 q 57 (.int .eql (.s 56) (i 0))] (.cond (.s 57) (.bL [f 59 0 1,t 60 9 59,q 61 (.call 326 [.s 60,.c (.string ⟨#[46,115,117,109,112,116,101,114,45,110,101,119]⟩),.c (.string ⟨#[46,115,117,109,112,116,101,114]⟩)]),m 58 61,
 e 62 0 58,e 63 1 58,f 64 0 1,o 9 64 62,m 4 63]) .skip)) (.seq (z [m 65 4,q 66 (.int .neq (.s 65) (i 0))] (.cond (.s 66) (z [t 67 13 1,m 68 4,cc 69 437 67 68,e 70 0 69,e 71 1 69,o 13 2 70,m 3 71] .ret) .skip)) (z [m 72 5,
 n 73 72,f 74 11 1,o 1 74 73] (z [f 76 0 1,t 77 9 76,c 78 327 77,m 75 78,e 79 0 75,e 80 1 75,f 81 0 1,o 9 81 79,m 4 80] (z [m 82 4,q 83 (.int .neq (.s 82) (i 0)),f 84 12 1,o 1 84 83] (z [t 85 13 1,m 86 4,o 13 2 85,
 m 3 86] .ret)))))))))))))⟩
def QU:SF :=⟨2,77,[.cell 4 true 13,.t 5],z [q 2 (.box (some 0) 13 (.s 0)),q 3 (.box (some 1) 37 (.s 1)),q 4 (.alloc (some 2) O2),q 5 (.mv (i 0))] (.seq (z [f 12 12 2,l 13 1 12] (.cond (.s 13) (z [t 14 13 2,o 13 4 14,
 q 5 (.mv (i 16))] .ret) .skip)) (z [t 15 37 3,c 16 438 15,m 6 16] (.seq (z [m 17 6,q 18 (.int .neq (.s 17) (i 0))] (.cond (.s 18) (z [t 19 13 2,m 20 6,o 13 4 19,m 5 20] .ret) .skip)) (z [f 22 9 2,t 23 2 22,t 24 37 3,
 cc 25 439 23 24,m 21 25,e 26 0 21,e 27 1 21,q 7 (.alloc (some 3) [.v (.slice none 0 0),.v (.int .i64 0)]),o 2 7 26,m 8 27] (.seq (z [m 28 8,q 29 (.not (.s 28))] (.cond (.s 29) (z [t 30 13 2,o 13 4 30,
 q 5 (.mv (i 16))] .ret) .skip)) (z [t 31 37 3,q 32 (.aO 37 [.s 31]),c 33 435 32,m 9 33] (z [f 35 0 2,t 36 9 35,m 37 9,q 38 (.call 321 [.s 36,.c (.string ⟨#[46,115,117,109,112,116,101,114]⟩),.s 37]),m 34 38,e 39 0 34,
 e 40 1 34,f 41 0 2,o 9 41 39,m 6 40] (.seq (z [m 42 6,q 43 (.int .eql (.s 42) (i 0))] (.cond (.s 43) (.bL [f 45 0 2,t 46 9 45,q 47 (.call 323 [.s 46,.c (.string ⟨#[46,115,117,109,112,116,101,114]⟩)]),m 44 47,e 48 0 44,
 e 49 1 44,f 50 0 2,o 9 50 48,m 6 49]) .skip)) (.seq (z [m 51 6,q 52 (.int .neq (.s 51) (i 0))] (.cond (.s 52) (z [f 54 0 2,t 55 9 54,f 56 11 2,l 57 1 56,q 58 (.call 322 [.s 55,.c (.string ⟨#[46,115,117,109,112,116,101,
 114]⟩),.s 57]),m 53 58,e 59 0 53,e 60 1 53,q 10 (.alloc (some 4) O1),o 9 10 59,m 11 60] (z [t 61 9 10,m 62 11,q 63 (.int .neq (.s 62) (i 0)),f 64 0 2,o 9 64 61,f 65 12 2,o 1 65 63] (z [t 66 13 2,m 67 6,o 13 4 66,
 m 5 67] .ret))) .skip)) (z [t 68 2 7,f 69 11 2,l 70 1 69,m 71 9,n 72 71,q 73 (.int .add (.s 70) (.s 72)),f 74 9 2,o 2 74 68,f 75 11 2,o 1 75 73] (z [t 76 13 2,o 13 4 76,q 5 (.mv (i 0))] .ret)))))))))))⟩
def QV:SF :=⟨1,111,[.cell 2 true 13,.t 3],z [q 1 (.box (some 0) 9 (.s 0)),q 2 (.alloc (some 1) O2),q 3 (.mv (i 0))] (z [t 14 9 1,q 15 (.build O2 [(0,9,.s 14)]),q 4 (.alloc (some 2) O2),
 o 13 4 15] (z [q 5 (.mv (i 0))] (.seq (z [f 16 0 4,t 17 9 16,q 18 (.call 436 [.s 17,.c (.string ⟨#[46,115,117,109,112,116,101,114,45,110,101,119]⟩)])] (.cond (.s 18) (z [f 20 0 4,t 21 9 20,q 22 (.call 325 [.s 21,
 .c (.string ⟨#[46,115,117,109,112,116,101,114,45,110,101,119]⟩)]),m 19 22,e 23 0 19,e 24 1 19,f 25 0 4,o 9 25 23,m 5 24] (z [m 26 5,q 27 (.int .neq (.s 26) (i 0))] (.cond (.s 27) (z [t 28 13 4,m 29 5,o 13 2 28,
 m 3 29] .ret) .skip))) .skip)) (z [f 31 0 4,t 32 9 31,q 33 (.call 345 [.s 32,.c (.string ⟨#[46,115,117,109,112,116,101,114]⟩)]),m 30 33,e 34 0 30,e 35 1 30,m 5 35] (.seq (z [m 36 5,
 q 37 (.int .eql (.s 36) (i 8))] (.cond (.s 37) (.bL [f 39 0 4,t 40 9 39,q 41 (.call 320 [.s 40,.c (.string ⟨#[46,115,117,109,112,116,101,114]⟩)]),m 38 41,e 42 0 38,e 43 1 38,f 44 0 4,o 9 44 42,
 m 5 43]) .skip)) (.seq (z [m 45 5,q 46 (.int .eql (.s 45) (i 0))] (.cond (.s 46) (.bL [f 48 0 4,t 49 9 48,c 50 327 49,m 47 50,e 51 0 47,e 52 1 47,f 53 0 4,o 9 53 51,m 5 52]) .skip)) (.seq (z [m 54 5,
 q 55 (.int .neq (.s 54) (i 0))] (.cond (.s 55) (z [t 56 13 4,m 57 5,o 13 2 56,m 3 57] .ret) .skip)) (z [f 59 0 4,t 60 9 59,q 61 (.call 345 [.s 60,.c (.string ⟨#[46,115,117,109,112,116,101,114]⟩)]),m 58 61,e 62 0 58,
 e 63 1 58,m 6 62,m 7 63] (z [m 65 6,q 66 (.nd .ZA [.s 65]),c 67 440 66,m 64 67,e 68 0 64,e 69 1 64,e 70 2 64,m 8 68,m 9 69,m 10 70] (z [m 72 8,c 73 441 72,m 71 73,e 74 0 71,e 75 1 71,
 q 11 (.alloc (some 3) [.v (.slice none 0 0),.v (.int .i64 0)]),o 2 11 74,m 12 75] (z [m 76 8,m 77 12,q 78 (.gy 37 (.s 76) none (some (.s 77)) none),c 79 435 78,n 80 79,m 13 80] (.seq (z [m 81 6,q 82 (.dF (.s 81)),
 m 83 13,q 84 (.int .gtr (.s 82) (.s 83))] (.cond (.s 84) (.bL [f 86 0 4,t 87 9 86,m 88 13,q 89 (.call 322 [.s 87,.c (.string ⟨#[46,115,117,109,112,116,101,114]⟩),.s 88]),m 85 89,e 90 0 85,e 91 1 85,f 92 0 4,o 9 92 90,
 m 5 91]) .skip)) (.seq (z [m 93 5,q 94 (.int .eql (.s 93) (i 0))] (.cond (.s 94) (.bL [f 96 0 4,t 97 9 96,q 98 (.call 323 [.s 97,.c (.string ⟨#[46,115,117,109,112,116,101,114]⟩)]),m 95 98,e 99 0 95,e 100 1 95,f 101 0 4,
 o 9 101 99,m 5 100]) .skip)) (.seq (z [m 102 5,q 103 (.int .neq (.s 102) (i 0))] (.cond (.s 103) (z [t 104 13 4,m 105 5,o 13 2 104,m 3 105] .ret) .skip)) (z [t 106 2 11,m 107 13,f 108 9 4,o 2 108 106,f 109 11 4,
 o 1 109 107] (z [t 110 13 4,o 13 2 110,q 3 (.mv (i 0))] .ret))))))))))))))))⟩
def QW:SF :=⟨1,5,[.t 2],z [q 2 (.mv (.c (.string ⟨#[]⟩)))] (z [m 3 0,q 4 .dead,m 2 4] .ret)⟩
def QX:SF :=⟨2,9,[.t 4],z [q 4 (.mv ff)] (z [m 5 0,m 6 1,cc 7 189 5 6,q 8 (.int .geq (.s 7) (i 0)),m 4 8] .ret)⟩
def QY:SF :=⟨1,6,[.t 2],z [q 1 (.box (some 0) 3 (.s 0)),q 2 (.mv ff)] (z [f 3 0 1,l 4 1 3,q 5 (.str .eql (.s 4) (.c (.string ⟨#[46,115,117,109,112,116,101,114,45,110,101,119]⟩))),m 2 5] .ret)⟩
def QZ:SF :=⟨1,59,[.cell 2 true 37,.t 3,.t 4],z [q 2 (.alloc (some 0) fA),q 3 (.mv (i 0)),q 4 (.mv (i 0))] (z [m 12 0,c 13 442 12,m 11 13,e 14 0 11,e 15 1 11,e 16 2 11,m 5 14,m 6 15,m 7 16] (.seq (.block 0 (z [m 18 7,
 q 19 (.int .neq (.s 18) (i 0)),m 17 19] (.cond (.s 17) (z [q 20 (.build fA []),m 21 7,o 37 2 20,q 3 (.mv (i 0)),m 4 21] .ret) (z [m 23 5,q 24 (.int .gtr (.s 23) (i 512)),
 m 22 24] (.cond (.s 22) (z [q 25 (.build fA []),o 37 2 25,q 3 (.mv (i 0)),q 4 (.mv (i 4))] .ret) (z [m 27 5,m 28 0,n 29 28,m 30 6,q 31 (.int .sub (.s 29) (.s 30)),q 32 (.int .gtr (.s 27) (.s 31)),
 m 26 32] (.cond (.s 26) (z [q 33 (.build fA []),o 37 2 33,q 3 (.mv (i 0)),q 4 (.mv (i 3))] .ret) .skip))))))) (z [m 35 0,m 36 6,m 37 6,m 38 5,q 39 (.int .add (.s 37) (.s 38)),
 q 40 (.gy 1 (.s 35) (some (.s 36)) (some (.s 39)) none),c 41 443 40,m 34 41,e 42 0 34,e 43 1 34,m 8 42,m 7 43] (.seq (z [m 44 7,q 45 (.int .neq (.s 44) (i 0))] (.cond (.s 45) (z [q 46 (.build fA []),o 37 2 46,
 q 3 (.mv (i 0)),q 4 (.mv (i 4))] .ret) .skip)) (z [m 48 8,c 49 444 48,m 47 49,e 50 0 47,e 51 1 47,q 9 (.alloc (some 1) fA),o 37 9 50,m 10 51] (.seq (z [m 52 10,
 q 53 (.not (.s 52))] (.cond (.s 53) (z [q 54 (.build fA []),o 37 2 54,q 3 (.mv (i 0)),q 4 (.mv (i 4))] .ret) .skip)) (z [t 55 37 9,m 56 6,m 57 5,q 58 (.int .add (.s 56) (.s 57)),o 37 2 55,m 3 58,
 q 4 (.mv (i 0))] .ret)))))))⟩
def Q2:SF :=⟨1,45,[.t 2,.t 3],z [q 1 (.box none 37 (.s 0)),q 2 (.mv (.c (.slice none 0 0))),q 3 (.mv (i 0))] (.seq (z [t 6 37 1,c 7 384 6,m 4 7] (z [m 8 4,q 9 (.int .neq (.s 8) (i 0))] (.cond (.s 9) (z [m 10 4,
 q 2 (.mv (.c (.slice none 0 0))),m 3 10] .ret) .skip))) (.seq (.bp [0,3,1,2,4,5,6,7] [f' 11 0 1,f' 14 1 1,l' 12 1 11,q' 13 (.aO 1 [.s 12]),l' 15 1 14,⟨c 16 445 15,[2]⟩,q' 17 (.app 1 1 (.s 13) (.s 16)),
 m' 5 17]) (.seq (z [f 18 0 1,l 19 1 18] (.block 0 (z [q 21 (.int .eql (.s 19) (u 0)),m 20 21] (.cond (.s 20) (.bp [0,1,4,5,6,2,7,3,8,9,10,11,12] [m' 22 5,f' 23 2 1,f' 26 3 1,q' 27 (.P6 32 1 (.s 26) none none),
 f' 28 35 1,l' 24 1 23,l' 29 1 28,⟨c 25 446 24,[6]⟩,c' 30 445 29,q' 31 (.aO 1 [.s 25,.s 27,.s 30]),c' 32 447 31,q' 33 (.app 1 1 (.s 22) (.s 32)),m' 5 33]) (z [q 35 (.int .eql (.s 19) (u 1)),
 m 34 35] (.cond (.s 34) (.bL [m 36 5,f 37 36 1,l 38 1 37,c 39 445 38,q 40 (.app 1 1 (.s 36) (.s 39)),m 5 40]) .skip)))))) (z [m 41 5,c 42 448 41,q 43 (.nd .AY [.s 42]),c 44 446 43,m 2 44,q 3 (.mv (i 0))] .ret))))⟩
def Q3:SF :=⟨2,19,[.cell 4 true 36,.t 5],z [q 2 (.box (some 0) 2 (.s 0)),q 3 (.box none 1 (.s 1)),q 4 (.alloc (some 2) lQ),q 5 (.mv ff)] (z [f 7 0 2,l 8 1 7,q 9 (.iD 449 [.s 3]),cc 10 416 8 9,m 6 10] (.seq (z [m 11 6,
 q 12 (.int .lss (.s 11) (i 0))] (.cond (.s 12) (z [q 13 (.build lQ []),o 36 4 13,q 5 (.mv ff)] .ret) .skip)) (z [f 14 0 2,l 15 1 14,m 16 6,b 17 36 15 16,t 18 36 17,o 36 4 18,q 5 (.mv tt)] .ret)))⟩
def Q4:SF :=⟨1,57,[.t 2],z [q 1 (.box (some 0) 2 (.s 0)),q 2 (.mv (.c (.slice none 0 0)))] (z [q 3 (.mv (.c (.slice none 0 0)))] (z [q 4 (.mv (i 0))] (.seq (z [q 5 (.mv (i 0))] (.block 0 (.loop (.seq (z [m 7 5,f 8 0 1,l 9 1 8,
 n 10 9,q 11 (.int .lss (.s 7) (.s 10))] (.cond (.s 11) .skip (.exit 0))) (.seq (.block 1 (z [f 14 0 1,l 15 1 14,m 16 5,b 17 36 15 16,t 18 36 17,q 6 (.alloc (some 1) lQ),o 36 6 18] (z [m 19 3,f 20 0 6,l 21 1 20,
 f 22 1 6,l 23 1 22,f 24 2 6,t 25 32 24,f 26 34 6,l 27 1 26,q 28 (.build fA [(0,1,u 0),(1,1,.s 21),(2,1,.s 23),(3,32,.s 25),(35,1,.s 27)]),q 29 (.aO 37 [.s 28]),q 30 (.app 37 80 (.s 19) (.s 29)),
 m 3 30] (.seq (z [f 31 35 6,l 32 1 31,q 33 (.int .gtr (.s 32) (i 0))] (.cond (.s 33) (.bL [m 34 3,f 35 0 6,l 36 1 35,f 37 35 6,l 38 1 37,q 39 (.build fA [(0,1,u 1),(1,1,.s 36),(36,1,.s 38)]),q 40 (.aO 37 [.s 39]),
 q 41 (.app 37 80 (.s 34) (.s 40)),m 3 41]) .skip)) (.bL [f 42 0 6,l 43 1 42,q 44 (.int .add (.s 43) (i 1)),m 4 44]))))) (.bL [m 12 5,q 13 (.int .add (.s 12) (i 1)),m 5 13])))))) (.seq (z [m 45 4,f 46 1 1,l 47 1 46,
 q 48 (.int .lss (.s 45) (.s 47))] (.cond (.s 48) (.bL [m 49 3,f 50 1 1,l 51 1 50,q 52 (.int .sub (.s 51) (i 1)),q 53 (.build fA [(0,1,u 4),(1,1,.s 52)]),q 54 (.aO 37 [.s 53]),q 55 (.app 37 80 (.s 49) (.s 54)),
 m 3 55]) .skip)) (z [m 56 3,m 2 56] .ret)))))⟩
def Q5:SF :=⟨1,25,[.t 2],z [q 2 (.mv (.c (.slice none 0 0)))] (z [q 3 (.mv (.c (.slice none 0 0)))] (.seq (z [q 4 (.mv (i 0))] (.block 0 (.loop (.seq (z [m 7 4,m 8 0,n 9 8,
 q 10 (.int .lss (.s 7) (.s 9))] (.cond (.s 10) .skip (.exit 0))) (.seq (.block 1 (z [m 14 0,m 15 4,b 16 37 14 15,t 17 37 16,c 18 450 17,m 13 18,e 19 0 13,e 20 1 13,m 5 19,m 6 20] (.bL [m 21 3,m 22 5,
 q 23 (.app 1 1 (.s 21) (.s 22)),m 3 23]))) (.bL [m 11 4,q 12 (.int .add (.s 11) (i 1)),m 4 12])))))) (z [m 24 3,m 2 24] .ret)))⟩
def Q6:SF :=⟨2,22,[.t 4],z [q 2 (.box (some 0) 9 (.s 0)),q 4 (.mv ff)] (z [t 7 9 2,c 8 346 7,m 5 8] (.seq (z [q 6 (.mv (i 0))] (.block 0 (.loop (.seq (z [m 9 6,m 10 5,n 11 10,
 q 12 (.int .lss (.s 9) (.s 11))] (.cond (.s 12) .skip (.exit 0))) (.seq (.block 1 (z [m 15 5,m 16 6,b 17 3 15 16,f 18 0 17,l 19 1 18,m 20 1,
 q 21 (.str .eql (.s 19) (.s 20))] (.cond (.s 21) (z [q 4 (.mv tt)] .ret) .skip))) (.bL [m 13 6,q 14 (.int .add (.s 13) (i 1)),m 6 14])))))) (z [q 4 (.mv ff)] .ret)))⟩
def Q7:SF :=⟨2,18,[.cell 4 true 13,.t 5],z [q 2 (.box (some 0) 13 (.s 0)),q 4 (.alloc (some 1) O2),q 5 (.mv (i 0))] (z [f 9 0 2,t 10 9 9,q 11 (.call 325 [.s 10,.c (.string ⟨#[46,115,117,109,112,116,101,114,45,110,101,119]⟩)]),
 m 8 11,e 12 0 8,e 13 1 8,q 6 (.alloc (some 2) O1),o 9 6 12,m 7 13] (z [t 14 9 6,f 15 0 2,o 9 15 14] (z [t 16 13 2,m 17 1,o 13 4 16,m 5 17] .ret)))⟩
def Q8:SF :=⟨1,64,[.t 2],z [q 1 (.box (some 0) 37 (.s 0)),q 2 (.mv (i 0))] (.seq (z [f 4 0 1,l 5 1 4,q 6 (.int .gtr (.s 5) (u 4)),m 7 6,x 8 7 (.dZ 1 (.s 1)),x 9 7 (.load false 1 (.s 8)),x 10 7 (.int .lss (.s 9) (i 0)),r 11 7 10,
 m 12 11,x 13 12 (.dZ 1 (.s 1)),x 14 12 (.load false 1 (.s 13)),x 15 12 (.int .gtr (.s 14) (i 1099511627776)),r 16 12 15] (.cond (.s 16) (z [q 2 (.mv (i 2))] .ret) .skip)) (.seq (z [f 17 0 1,l 18 1 17,
 q 19 (.int .eql (.s 18) (u 0))] (.cond (.s 19) (z [f 20 2 1,l 21 1 20,c 22 199 21,m 3 22] (.block 0 (z [m 24 3,q 25 (.int .neq (.s 24) (i 0)),m 23 25] (.cond (.s 23) (z [m 26 3,m 2 26] .ret) (z [f 28 2 1,l 29 1 28,
 c 30 200 29,m 27 30] (.cond (.s 27) (z [q 2 (.mv (i 6))] .ret) (z [f 32 35 1,l 33 1 32,c 34 451 33,q 35 (.not (.s 34)),m 31 35] (.cond (.s 31) (z [q 2 (.mv (i 13))] .ret) .skip)))))))) (z [f 36 2 1,l 37 1 36,
 q 38 (.str .neq (.s 37) (.c (.string ⟨#[]⟩))),m 39 38,x 40 39 (.dZ 3 (.s 1)),x 41 39 (.load true 32 (.s 40)),x 42 39 (.build [.v (.int .u8 0),.v (.int .u8 0),.v (.int .u8 0),.v (.int .u8 0),.v (.int .u8 0),
 .v (.int .u8 0),.v (.int .u8 0),.v (.int .u8 0),.v (.int .u8 0),.v (.int .u8 0),.v (.int .u8 0),.v (.int .u8 0),.v (.int .u8 0),.v (.int .u8 0),.v (.int .u8 0),.v (.int .u8 0),.v (.int .u8 0),.v (.int .u8 0),
 .v (.int .u8 0),.v (.int .u8 0),.v (.int .u8 0),.v (.int .u8 0),.v (.int .u8 0),.v (.int .u8 0),.v (.int .u8 0),.v (.int .u8 0),.v (.int .u8 0),.v (.int .u8 0),.v (.int .u8 0),.v (.int .u8 0),.v (.int .u8 0),
 .v (.int .u8 0)] []),x 43 39 (.eq (.ag [.i,.i,.i,.i,.i,.i,.i,.i,.i,.i,.i,.i,.i,.i,.i,.i,.i,.i,.i,.i,.i,.i,.i,.i,.i,.i,.i,.i,.i,.i,.i,.i]) true (.s 41) (.s 42)),r 44 39 43,m 45 44,x 46 45 (.dZ 35 (.s 1)),
 x 47 45 (.load false 1 (.s 46)),x 48 45 (.int .neq (.s 47) (i 0)),r 49 45 48] (.cond (.s 49) (z [q 2 (.mv (i 4))] .ret) .skip)))) (.seq (.block 1 (z [f 51 36 1,l 52 1 51,c 53 451 52,q 54 (.not (.s 53)),
 m 50 54] (.cond (.s 50) (z [q 2 (.mv (i 13))] .ret) (z [f 56 36 1,l 57 1 56,q 58 (.int .neq (.s 57) (i 0)),m 59 58,y 60 59 (.dZ 0 (.s 1)),y 61 59 (.load false 1 (.s 60)),y 62 59 (.int .neq (.s 61) (u 1)),p 63 59 62,
 m 55 63] (.cond (.s 55) (z [q 2 (.mv (i 4))] .ret) .skip))))) (z [q 2 (.mv (i 0))] .ret))))⟩
def Q9:SF :=⟨2,152,[.cell 4 true 2,.t 5],z [q 2 (.box (some 0) 2 (.s 0)),q 3 (.box (some 1) 37 (.s 1)),q 4 (.alloc (some 2) [.v (.slice none 0 0),.v (.int .i64 0)]),
 q 5 (.mv ff)] (z [q 6 (.mv (.c (.slice none 0 0)))] (z [q 7 (.mv (i (-1)))] (.seq (z [q 8 (.mv (i 0))] (.block 0 (.loop (.seq (z [m 11 8,f 12 0 2,l 13 1 12,n 14 13,
 q 15 (.int .lss (.s 11) (.s 14))] (.cond (.s 15) .skip (.exit 0))) (.seq (.block 1 (.seq (.bp [0,2,6,1,3,4,5,7,8] [f' 18 0 2,m' 20 8,f' 24 1 3,l' 19 1 18,b' 21 36 19 20,f' 22 0 21,l' 23 1 22,l' 25 1 24,
 q' 26 (.int .eql (.s 23) (.s 25))]) (.cond (.s 26) (.bL [m 27 8,m 7 27]) .skip))) (.bL [m 16 8,q 17 (.int .add (.s 16) (i 1)),m 8 17])))))) (.seq (.block 2 (z [f 29 0 3,l 30 1 29,q 31 (.int .eql (.s 30) (u 0)),
 m 28 31] (.cond (.s 28) (z [t 33 2 2,f 34 2 3,l 35 1 34,cc 36 452 33 35,m 32 36,e 37 0 32,e 38 1 32,q 9 (.alloc (some 3) lQ),o 36 9 37,m 10 38] (.seq (z [f 39 1 3,l 40 1 39,f 41 1 2,l 42 1 41,
 q 43 (.int .lss (.s 40) (.s 42)),m 44 43,x 45 44 (.dZ 0 (.s 2)),x 46 44 (.load false 1 (.s 45)),x 47 44 (.len (.s 46)),x 48 44 (.int .geq (.s 47) (i 64)),r 49 44 48,m 50 49,xm 51 50 10,
 r 52 50 51] (.cond (.s 52) (z [t 53 2 2,o 2 4 53,q 5 (.mv ff)] .ret) .skip)) (.seq (.bp [0,1,4,6,8,10,15,2,5,7,9,11,12,13,16,17,3,14,18,19,20] [m' 54 6,f' 55 0 2,f' 58 1 3,f' 60 2 3,f' 62 3 3,f' 64 35 3,f' 69 1 3,
 l' 56 1 55,l' 59 1 58,l' 61 1 60,t' 63 32 62,l' 65 1 64,q' 66 (.build lQ [(0,1,.s 59),(1,1,.s 61),(2,32,.s 63),(34,1,.s 65),(35,1,i 0)]),q' 67 (.aO 36 [.s 66]),l' 70 1 69,q' 71 (.int .add (.s 70) (i 1)),
 ⟨q 57 (.app 36 72 (.s 54) (.s 56)),[8,9,10,11,14]⟩,⟨q 68 (.app 36 72 (.s 57) (.s 67)),[14]⟩,q' 72 (.build [.v (.slice none 0 0),.v (.int .i64 0)] [(0,1,.s 68),(1,1,.s 71)]),o' 2 4 72,q' 5 (.mv tt)]) .ret))) (z [f 74 0 3,
 l 75 1 74,q 76 (.int .eql (.s 75) (u 4)),m 73 76] (.cond (.s 73) (.seq (z [f 77 1 3,l 78 1 77,f 79 1 2,l 80 1 79,q 81 (.int .lss (.s 78) (.s 80))] (.cond (.s 81) (z [t 82 2 2,o 2 4 82,
 q 5 (.mv ff)] .ret) .skip)) (z [f 83 0 2,l 84 1 83,f 85 1 3,l 86 1 85,q 87 (.int .add (.s 86) (i 1)),q 88 (.build [.v (.slice none 0 0),.v (.int .i64 0)] [(0,1,.s 84),(1,1,.s 87)]),o 2 4 88,
 q 5 (.mv tt)] .ret)) (z [m 90 7,q 91 (.int .lss (.s 90) (i 0)),m 92 91,x 93 92 (.dZ 0 (.s 3)),x 94 92 (.load false 1 (.s 93)),x 95 92 (.int .gtr (.s 94) (u 4)),r 96 92 95,m 89 96] (.cond (.s 89) (z [t 97 2 2,o 2 4 97,
 q 5 (.mv ff)] .ret) (z [f 99 0 3,l 100 1 99,q 101 (.int .eql (.s 100) (u 1)),m 98 101] (.cond (.s 98) (.seq (.seq (.bp [0,2,4,1,3,5,6,7,8,9,10,12,14,11,13,15,16,17,18,19] [f' 102 36 3,f' 104 0 2,m' 106 7,l' 103 1 102,
 l' 105 1 104,b' 107 36 105 106,f' 108 35 107,l' 109 1 108,q' 110 (.int .lss (.s 103) (.s 109)),m' 111 110,x' 112 111 (.dZ 36 (.s 3)),x' 114 111 (.dZ 0 (.s 2)),jF 116 111 7,x' 113 111 (.load false 1 (.s 112)),
 x' 115 111 (.load false 1 (.s 114)),x' 117 111 (.idx 36 (.s 115) (.s 116)),x' 118 111 (.dZ 34 (.s 117)),x' 119 111 (.load false 1 (.s 118)),x' 120 111 (.int .gtr (.s 113) (.s 119)),
 r' 121 111 120]) (.cond (.s 121) (z [t 122 2 2,o 2 4 122,q 5 (.mv ff)] .ret) .skip)) (z [m 123 6,f 124 0 2,l 125 1 124,q 126 (.app 36 72 (.s 123) (.s 125)),m 6 126] (z [m 127 6,m 128 7,f 129 36 3,l 130 1 129,
 b 131 36 127 128,f 132 35 131,o 1 132 130] (z [m 133 6,f 134 1 2,l 135 1 134,q 136 (.build [.v (.slice none 0 0),.v (.int .i64 0)] [(0,1,.s 133),(1,1,.s 135)]),o 2 4 136,
 q 5 (.mv tt)] .ret)))) .skip))))))))) (.seq (.bp [0,1,3,6,8,9,12,2,4,7,10,13,5,11,14,15,16] [m' 137 6,f' 138 0 2,m' 140 7,f' 143 0 2,m' 145 7,q' 146 (.int .add (.s 145) (i 1)),f' 149 1 2,l' 139 1 138,
 q' 141 (.gy 36 (.s 139) none (some (.s 140)) none),l' 144 1 143,q' 147 (.gy 36 (.s 144) (some (.s 146)) none none),l' 150 1 149,⟨q 142 (.app 36 72 (.s 137) (.s 141)),[9,11]⟩,⟨q 148 (.app 36 72 (.s 142) (.s 147)),[11]⟩,
 q' 151 (.build [.v (.slice none 0 0),.v (.int .i64 0)] [(0,1,.s 148),(1,1,.s 150)]),o' 2 4 151,q' 5 (.mv tt)]) .ret)))))⟩
def Ra:SF :=⟨1,36,[.t 2,.t 3,.t 4],z [q 2 (.mv (.c (.slice none 0 0))),q 3 (.mv (i 0)),q 4 (.mv (i 0))] (z [q 5 (.mv (.c (.slice none 0 0)))] (z [q 6 (.mv (i 0))] (.seq (.block 0 (.loop (.seq (z [m 10 6,m 11 0,n 12 11,
 q 13 (.int .lss (.s 10) (.s 12))] (.cond (.s 13) .skip (.exit 0))) (.block 1 (z [m 15 0,m 16 6,q 17 (.gy 1 (.s 15) (some (.s 16)) none none),c 18 453 17,m 14 18,e 19 0 14,e 20 1 14,e 21 2 14,q 7 (.alloc (some 0) fA),
 o 37 7 19,m 8 20,m 9 21] (.seq (z [m 22 9,q 23 (.int .neq (.s 22) (i 0))] (.cond (.s 23) (z [m 24 5,m 25 6,m 26 9,m 2 24,m 3 25,m 4 26] .ret) .skip)) (z [m 27 5,t 28 37 7,q 29 (.aO 37 [.s 28]),
 q 30 (.app 37 80 (.s 27) (.s 29)),m 5 30] (.bL [m 31 6,m 32 8,q 33 (.int .add (.s 31) (.s 32)),m 6 33])))))))) (z [m 34 5,m 35 6,m 2 34,m 3 35,q 4 (.mv (i 0))] .ret))))⟩
def Rb:SF :=⟨1,31,[.cell 2 true 2,.t 3],z [q 2 (.alloc (some 0) [.v (.slice none 0 0),.v (.int .i64 0)]),q 3 (.mv (i 0))] (z [q 4 (.alloc (some 1) [.v (.slice none 0 0),
 .v (.int .i64 0)])] (.seq (z [q 5 (.mv (i 0))] (.block 0 (.loop (.seq (z [m 8 5,m 9 0,n 10 9,q 11 (.int .lss (.s 8) (.s 10))] (.cond (.s 11) .skip (.exit 0))) (.seq (.block 1 (.seq (.bp [1,2,3,0,4,9,5,6,7,8,10,
 11] [m' 16 0,m' 17 5,b' 18 37 16 17,t' 15 2 4,t' 19 37 18,q' 6 (.alloc (some 2) [.v (.slice none 0 0),.v (.int .i64 0)]),w (cc 20 439 15 19),m' 14 20,e' 21 0 14,e' 22 1 14,o' 2 6 21,m' 7 22]) (.seq (z [m 23 7,
 q 24 (.not (.s 23))] (.cond (.s 24) (z [t 25 2 4,m 26 5,o 2 2 25,m 3 26] .ret) .skip)) (.bL [t 27 2 6,o 2 4 27])))) (.bL [m 12 5,q 13 (.int .add (.s 12) (i 1)),m 5 13])))))) (z [t 28 2 4,m 29 0,n 30 29,o 2 2 28,
 m 3 30] .ret)))⟩
def Re:SF :=⟨1,22,[.t 2,.t 3,.t 4],z [q 2 (.mv (i 0)),q 3 (.mv (i 0)),q 4 (.mv (i 0))] (z [m 6 0,c 7 454 6,m 5 7,e 8 0 5,e 9 1 5,e 10 2 5,m 2 8,m 3 9,m 4 10] (.seq (z [m 11 4,q 12 (.int .eql (.s 11) (i 0)),m 13 12,ym 14 13 2,
 y 15 13 (.call 455 [.s 14]),ym 16 13 3,y 17 13 (.int .lss (.s 15) (.s 16)),p 18 13 17] (.cond (.s 18) (z [q 2 (.mv (i 0)),q 3 (.mv (i 0)),q 4 (.mv (i 4))] .ret) .skip)) (z [m 19 2,m 20 3,m 21 4,m 2 19,m 3 20,
 m 4 21] .ret)))⟩
def Rf:SF :=⟨1,26,[.t 2,.t 3],z [q 2 (.mv (.c (.slice none 0 0))),q 3 (.mv (i 0))] (z [m 5 0,n 6 5,q 7 (.int .sub (.s 6) (i 4)),m 4 7] (.seq (.block 0 (z [m 9 4,q 10 (.int .lss (.s 9) (i 0)),
 m 8 10] (.cond (.s 8) (z [q 2 (.mv (.c (.slice none 0 0))),q 3 (.mv (i 3))] .ret) (.seq (.bp [0,1,2,5,6,7,3,4,8,9,10] [m' 12 0,m' 13 4,q' 14 (.gy 1 (.s 12) none (some (.s 13)) none),m' 17 0,m' 18 4,
 q' 19 (.gy 1 (.s 17) (some (.s 18)) none none),c' 15 456 14,c' 16 457 15,w (cc 20 194 16 19),q' 21 (.not (.s 20)),m' 11 21]) (.cond (.s 11) (z [q 2 (.mv (.c (.slice none 0 0))),
 q 3 (.mv (i 14))] .ret) .skip))))) (z [m 22 0,m 23 4,q 24 (.gy 1 (.s 22) none (some (.s 23)) none),c 25 186 24,m 2 25,q 3 (.mv (i 0))] .ret)))⟩
def Rg:SF :=⟨1,42,[.cell 2 true 37,.t 3],z [q 2 (.alloc (some 0) fA),q 3 (.mv ff)] (z [m 6 0,c 7 458 6,m 4 7] (z [m 8 4,c 9 459 8,m 10 4,q 11 (.call 460 [.s 10,i 1099511627776]),q 12 (.build fA [(0,1,.s 9),(1,1,.s 11)]),
 q 5 (.alloc none fA),o 37 5 12] (.seq (z [f 13 0 5,l 14 1 13] (.block 0 (z [q 16 (.int .eql (.s 14) (u 0)),m 15 16] (.cond (.s 15) (z [m 17 4,q 18 (.call 461 [.s 17,i 128]),f 19 2 5,o 1 19 18] (.seq (.bp [0,1,2,3,
 4] [f' 20 3 5,q' 21 (.P6 32 1 (.s 20) none none),m' 22 4,q' 23 (.call 462 [.s 22,i 32]),q' 24 (.cH (.copy 1) [.s 21,.s 23])]) (.bL [m 25 4,q 26 (.call 460 [.s 25,i 65536]),f 27 35 5,
 o 1 27 26]))) (z [q 29 (.int .eql (.s 14) (u 1)),m 28 29] (.cond (.s 28) (.bL [m 30 4,q 31 (.call 460 [.s 30,i 65536]),f 32 36 5,o 1 32 31]) .skip)))))) (.seq (.bp [1,0,2,3,4,5,6,7,8,9,10] [m' 34 4,t' 33 37 5,
 ⟨c 35 463 34,[1]⟩,q' 36 (.int .eql (.s 35) (i 0)),m' 37 36,y' 38 37 (.load true 37 (.s 5)),⟨y 39 37 (.call 384 [.s 38]),[1]⟩,y' 40 37 (.int .eql (.s 39) (i 0)),p' 41 37 40,o' 37 2 33,m' 3 41]) .ret))))⟩
def Rh:SF :=⟨1,13,[.t 2],z [q 2 (.mv (.c (.slice none 0 0)))] (z [m 6 0,c 7 464 6,m 5 7,e 8 0 5,e 9 1 5,m 3 8,m 4 9] (.seq (z [m 10 4,
 q 11 (.int .neq (.s 10) (i 0))] (.cond (.s 11) (z [q 2 (.mv (.c (.slice none 0 0)))] .ret) .skip)) (z [m 12 3,m 2 12] .ret)))⟩
def Ri:SF :=⟨1,8,[.t 2],z [q 2 (.mv (.c (.slice none 0 0)))] (z [m 3 0,q 4 (.dF (.s 3)),c 5 445 4,m 6 0,q 7 (.app 1 1 (.s 5) (.s 6)),m 2 7] .ret)⟩
def Rj:SF :=⟨1,5,[.t 2],z [q 2 (.mv (.c (.slice none 0 0)))] (z [m 3 0,c 4 465 3,m 2 4] .ret)⟩
def Rk:SF :=⟨1,9,[.t 2],z [q 2 (.mv (.c (.slice none 0 0)))] (z [m 3 0,c 4 186 3,m 5 0,c 6 456 5,c 7 457 6,q 8 (.app 1 1 (.s 4) (.s 7)),m 2 8] .ret)⟩
def Rl:SF :=⟨2,8,[.t 3],z [q 2 (.box (some 0) 36 (.s 0)),q 3 (.mv ff)] (z [f 4 1 2,l 5 1 4,l 6 1 1,q 7 (.str .eql (.s 5) (.s 6)),m 3 7] .ret)⟩
def Rm:SF :=⟨1,48,[.t 2,.t 3],z [q 1 (.box (some 0) 37 (.s 0)),q 2 (.mv (.c (.slice none 0 0))),q 3 (.mv (i 0))] (z [t 7 37 1,c 8 438 7,m 4 8] (.seq (z [m 9 4,q 10 (.int .neq (.s 9) (i 0))] (.cond (.s 10) (z [m 11 4,
 q 2 (.mv (.c (.slice none 0 0))),m 3 11] .ret) .skip)) (.seq (.bp [0,3,1,2,4,5,6,7] [f' 12 0 1,f' 15 1 1,l' 13 1 12,q' 14 (.aO 1 [.s 13]),l' 16 1 15,⟨c 17 466 16,[2]⟩,q' 18 (.app 1 1 (.s 14) (.s 17)),
 m' 5 18]) (.seq (z [f 19 0 1,l 20 1 19] (.block 0 (z [q 22 (.int .eql (.s 20) (u 0)),m 21 22] (.cond (.s 21) (z [f 23 3 1,t 24 32 23,q 6 (.alloc none [.v (.int .u8 0),.v (.int .u8 0),.v (.int .u8 0),.v (.int .u8 0),
 .v (.int .u8 0),.v (.int .u8 0),.v (.int .u8 0),.v (.int .u8 0),.v (.int .u8 0),.v (.int .u8 0),.v (.int .u8 0),.v (.int .u8 0),.v (.int .u8 0),.v (.int .u8 0),.v (.int .u8 0),.v (.int .u8 0),.v (.int .u8 0),
 .v (.int .u8 0),.v (.int .u8 0),.v (.int .u8 0),.v (.int .u8 0),.v (.int .u8 0),.v (.int .u8 0),.v (.int .u8 0),.v (.int .u8 0),.v (.int .u8 0),.v (.int .u8 0),.v (.int .u8 0),.v (.int .u8 0),.v (.int .u8 0),
 .v (.int .u8 0),.v (.int .u8 0)]),o 32 6 24] (.seq (.bp [0,1,5,2,3,4,6,7] [m' 25 5,f' 26 2 1,q' 30 (.P6 32 1 (.s 6) none none),l' 27 1 26,c' 28 467 27,q' 29 (.app 1 1 (.s 25) (.s 28)),q' 31 (.app 1 1 (.s 29) (.s 30)),
 m' 5 31]) (.bL [m 32 5,f 33 35 1,l 34 1 33,c 35 466 34,q 36 (.app 1 1 (.s 32) (.s 35)),m 5 36]))) (z [q 38 (.int .eql (.s 20) (u 1)),m 37 38] (.cond (.s 37) (.bL [m 39 5,f 40 36 1,l 41 1 40,c 42 466 41,
 q 43 (.app 1 1 (.s 39) (.s 42)),m 5 43]) .skip)))))) (z [m 44 5,c 45 468 44,q 46 (.nd .AY [.s 45]),c 47 467 46,m 2 47,q 3 (.mv (i 0))] .ret)))))⟩
def Rn:SF :=⟨1,9,[.t 2],z [q 2 (.mv ff)] (z [m 3 0,q 4 (.int .geq (.s 3) (i 0)),m 5 4,ym 6 5 0,y 7 5 (.int .leq (.s 6) (i 65536)),p 8 5 7,m 2 8] .ret)⟩
def Ro:SF :=⟨2,28,[.cell 4 true 36,.t 5],z [q 2 (.box (some 0) 2 (.s 0)),q 4 (.alloc (some 1) lQ),q 5 (.mv ff)] (.seq (z [q 6 (.mv (i 0))] (.block 0 (.loop (.seq (z [m 7 6,f 8 0 2,l 9 1 8,n 10 9,
 q 11 (.int .lss (.s 7) (.s 10))] (.cond (.s 11) .skip (.exit 0))) (.seq (.block 1 (z [f 14 0 2,l 15 1 14,m 16 6,b 17 36 15 16,f 18 1 17,l 19 1 18,m 20 1,q 21 (.str .eql (.s 19) (.s 20))] (.cond (.s 21) (z [f 22 0 2,
 l 23 1 22,m 24 6,b 25 36 23 24,t 26 36 25,o 36 4 26,q 5 (.mv tt)] .ret) .skip))) (.bL [m 12 6,q 13 (.int .add (.s 12) (i 1)),m 6 13])))))) (z [q 27 (.build lQ []),o 36 4 27,q 5 (.mv ff)] .ret))⟩
def Rp:SF :=⟨1,83,[.cell 2 true 37,.t 3,.t 4],z [q 2 (.alloc (some 0) fA),q 3 (.mv (i 0)),q 4 (.mv (i 0))] (z [m 15 0,c 16 469 15,m 14 16,e 17 0 14,e 18 1 14,e 19 2 14,m 5 17,m 6 18,m 7 19] (.seq (.block 0 (z [m 21 7,
 q 22 (.int .neq (.s 21) (i 0)),m 20 22] (.cond (.s 20) (z [q 23 (.build fA []),m 24 7,o 37 2 23,q 3 (.mv (i 0)),m 4 24] .ret) (z [m 26 5,q 27 (.int .gtr (.s 26) (i 512)),
 m 25 27] (.cond (.s 25) (z [q 28 (.build fA []),o 37 2 28,q 3 (.mv (i 0)),q 4 (.mv (i 4))] .ret) (z [m 30 0,n 31 30,m 32 6,q 33 (.int .sub (.s 31) (.s 32)),m 34 5,q 35 (.int .lss (.s 33) (.s 34)),
 m 29 35] (.cond (.s 29) (z [q 36 (.build fA []),o 37 2 36,q 3 (.mv (i 0)),q 4 (.mv (i 3))] .ret) .skip))))))) (z [m 38 0,m 39 6,m 40 6,m 41 5,q 42 (.int .add (.s 40) (.s 41)),
 q 43 (.gy 1 (.s 38) (some (.s 39)) (some (.s 42)) none),c 44 470 43,m 37 44,e 45 0 37,e 46 1 37,m 8 45,m 9 46] (z [m 48 8,c 49 471 48,m 47 49,e 50 0 47,e 51 1 47,q 10 (.alloc (some 1) fA),o 37 10 50,
 m 11 51] (z [t 53 37 10,c 54 450 53,m 52 54,e 55 0 52,e 56 1 52,m 12 55,m 13 56] (.seq (.seq (.bp [0,1,2,3,4,5,6,7,8,9,10,11,12,13,14,15,16,17,18,19,20] [m' 57 9,q' 58 (.int .neq (.s 57) (i 0)),m' 59 58,jF 60 59 11,
 x' 61 59 (.not (.s 60)),r' 62 59 61,m' 63 62,jF 64 63 13,x' 65 63 (.int .neq (.s 64) (i 0)),r' 66 63 65,m' 67 66,jF 68 67 12,x' 69 67 (.JN (.s 68)),jF 70 67 0,jF 71 67 6,jF 72 67 5,
 x' 73 67 (.int .add (.s 71) (.s 72)),x' 74 67 (.gy 1 (.s 70) none (some (.s 73)) none),x' 75 67 (.JN (.s 74)),x' 76 67 (.str .neq (.s 69) (.s 75)),r' 77 67 76]) (.cond (.s 77) (z [q 78 (.build fA []),o 37 2 78,
 q 3 (.mv (i 0)),q 4 (.mv (i 4))] .ret) .skip)) (z [t 79 37 10,m 80 6,m 81 5,q 82 (.int .add (.s 80) (.s 81)),o 37 2 79,m 3 82,q 4 (.mv (i 0))] .ret)))))))⟩
def Rq:SF :=⟨1,41,[.t 2,.t 3,.t 4],z [q 2 (.mv (i 0)),q 3 (.mv (i 0)),q 4 (.mv (i 0))] (.seq (z [m 8 0,n 9 8,q 10 (.int .eql (.s 9) (i 0))] (.cond (.s 10) (z [q 2 (.mv (i 0)),q 3 (.mv (i 0)),
 q 4 (.mv (i 3))] .ret) .skip)) (z [m 11 0,q 12 (.idx 1 (.s 11) (i 0)),l 13 1 12,q 14 (.int .shr (.s 13) (.c (.int .u64 6))),q 15 (.int .shl (i 1) (.s 14)),m 5 15] (.seq (z [m 16 0,n 17 16,m 18 5,
 q 19 (.int .lss (.s 17) (.s 18))] (.cond (.s 19) (z [q 2 (.mv (i 0)),q 3 (.mv (i 0)),q 4 (.mv (i 3))] .ret) .skip)) (z [m 20 0,q 21 (.idx 1 (.s 20) (i 0)),l 22 1 21,q 23 (.int .and (.s 22) (u 63)),
 q 24 (.conv .i64 (.s 23)),m 2 24] (.seq (z [m 25 0,m 26 5,q 27 (.gy 1 (.s 25) (some (i 1)) (some (.s 26)) none),n 28 27,
 q 29 (.mv (i 0))] (.block 0 (.loop (z [q 30 (.int .lss (.s 29) (.s 28))] (.seq (.cond (.s 30) .skip (.exit 0)) (.seq (.block 1 (z [b 31 1 27 29,l 32 1 31,m 7 32] (.bL [m 33 2,q 34 (.int .shl (.s 33) (.c (.int .u64 8))),
 m 35 7,q 36 (.conv .i64 (.s 35)),q 37 (.int .or (.s 34) (.s 36)),m 2 37]))) (.bL [q 38 (.int .add (.s 29) (i 1)),m 29 38]))))))) (z [m 39 2,m 40 5,m 2 39,m 3 40,q 4 (.mv (i 0))] .ret))))))⟩
def Rr:SF :=⟨1,14,[.t 2],z [q 2 (.mv (i 0))] (.seq (z [q 5 (.call 472 []),
 q 6 (.mv (i 0))] (.block 0 (.loop (z [q 7 (.int .lss (.s 6) (i 4))] (.seq (.cond (.s 7) .skip (.exit 0)) (.seq (.block 1 (z [q 8 (.cH (.m (.JT 4 1 false)) [.s 5,.s 6]),m 4 8] (z [m 9 0,m 10 4,
 cc 11 473 9 10] (.cond (.s 11) (z [m 12 4,m 2 12] .ret) .skip)))) (.bL [q 13 (.int .add (.s 6) (i 1)),m 6 13]))))))) (z [q 2 (.mv (i 0))] .ret))⟩
def Rs:SF :=⟨1,5,[.t 2],z [q 2 (.mv (.c (.int .u32 0)))] (z [m 3 0,q 4 (.call 474 [.c (.int .u32 0),.s 3]),m 2 4] .ret)⟩
def Rt:SF :=⟨1,21,[.t 2],z [q 2 (.mv (.c (.slice none 0 0)))] (z [q 5 (.cH (.UI 1 1 [.v (.int .u8 0)]) [i 4,i 4]),m 3 5] (.seq (z [m 6 3,n 7 6,
 q 8 (.mv (i 0))] (.block 0 (.loop (z [q 9 (.int .lss (.s 8) (.s 7))] (.seq (.cond (.s 9) .skip (.exit 0)) (.seq (.block 1 (z [m 10 8,m 4 10] (.bL [m 11 3,m 12 4,m 13 0,m 14 4,q 15 (.int .mul (i 8) (.s 14)),
 q 16 (.int .shr (.s 13) (.s 15)),q 17 (.conv .u8 (.s 16)),b 18 1 11 12,o 1 18 17]))) (.bL [q 19 (.int .add (.s 8) (i 1)),m 8 19]))))))) (z [m 20 3,m 2 20] .ret)))⟩
def Ru:SF :=⟨1,6,[.t 2],z [q 2 (.mv (.c (.pointer none)))] (z [m 3 0,q 4 (.build [.v (.slice none 0 0),.v (.int .i64 0)] [(0,1,.s 3)]),q 5 (.box none 2 (.s 4)),m 2 5] .ret)⟩
def Rv:SF :=⟨1,10,[.t 2],z [q 2 (.mv (u 0))] (.seq (z [m 4 0,q 5 (.call 462 [.s 4,i 1]),m 3 5] (z [m 6 3,q 7 (.str .neq (.s 6) (.c (.string ⟨#[]⟩)))] (.cond (.s 7) (z [m 8 3,q 9 (.jr (.s 8) (i 0)),
 m 2 9] .ret) .skip))) (z [q 2 (.mv (u 0))] .ret))⟩
def Rw:SF :=⟨2,37,[.t 4],z [q 4 (.mv (i 0))] (.seq (z [m 8 0,q 9 (.eq .ptr false (.s 8) (.c (.pointer none))),m 10 9,xm 11 10 0,x 12 10 (.gw (.s 11)),x 13 10 (.dZ 1 (.s 12)),x 14 10 (.load false 1 (.s 13)),
 x 15 10 (.int .neq (.s 14) (i 0)),r 16 10 15] (.cond (.s 16) (z [q 4 (.mv (i 0))] .ret) .skip)) (z [m 18 0,m 19 1,cc 20 475 18 19,m 17 20,e 21 0 17,e 22 1 17,e 23 2 17,m 5 21,m 6 22,m 7 23] (.seq (z [m 24 0,m 25 7,
 cc 26 476 24 25] (.cond (.s 26) (z [q 4 (.mv (i 0))] .ret) .skip)) (z [m 27 0,m 28 0,j 29 28,f 30 0 29,l 31 1 30,m 32 6,q 33 (.gy 1 (.s 31) (some (.s 32)) none none),j 34 27,f 35 0 34,o 1 35 33] (z [m 36 5,
 m 4 36] .ret)))))⟩
def Rx:SF :=⟨2,52,[.t 4],z [q 4 (.mv (.c (.string ⟨#[]⟩)))] (.seq (z [m 8 0,q 9 (.eq .ptr false (.s 8) (.c (.pointer none))),m 10 9,xm 11 10 0,x 12 10 (.gw (.s 11)),x 13 10 (.dZ 1 (.s 12)),x 14 10 (.load false 1 (.s 13)),
 x 15 10 (.int .neq (.s 14) (i 0)),r 16 10 15] (.cond (.s 16) (z [q 4 (.mv (.c (.string ⟨#[]⟩)))] .ret) .skip)) (z [m 18 0,m 19 1,cc 20 475 18 19,m 17 20,e 21 0 17,e 22 1 17,e 23 2 17,m 5 21,m 6 22,
 m 7 23] (.seq (z [m 24 7,q 25 (.int .eql (.s 24) (i 0)),m 26 25,ym 27 26 0,y 28 26 (.gw (.s 27)),y 29 26 (.dZ 0 (.s 28)),y 30 26 (.load false 1 (.s 29)),y 31 26 (.len (.s 30)),ym 32 26 6,
 y 33 26 (.int .sub (.s 31) (.s 32)),ym 34 26 5,y 35 26 (.int .lss (.s 33) (.s 34)),p 36 26 35] (.cond (.s 36) (.bL [q 7 (.mv (i 3))]) .skip)) (.seq (z [m 37 0,m 38 7,
 cc 39 476 37 38] (.cond (.s 39) (z [q 4 (.mv (.c (.string ⟨#[]⟩)))] .ret) .skip)) (z [m 40 0,m 41 0,j 42 41,f 43 0 42,l 44 1 43,m 45 6,q 46 (.gy 1 (.s 44) (some (.s 45)) none none),j 47 40,f 48 0 47,
 o 1 48 46] (z [m 49 0,m 50 5,cc 51 462 49 50,m 4 51] .ret))))))⟩
def Ry:SF :=⟨2,47,[.t 4],z [q 4 (.mv (.c (.string ⟨#[]⟩)))] (.seq (z [m 6 0,q 7 (.eq .ptr false (.s 6) (.c (.pointer none))),m 8 7,xm 9 8 0,x 10 8 (.gw (.s 9)),x 11 8 (.dZ 1 (.s 10)),x 12 8 (.load false 1 (.s 11)),
 x 13 8 (.int .neq (.s 12) (i 0)),r 14 8 13] (.cond (.s 14) (z [q 4 (.mv (.c (.string ⟨#[]⟩)))] .ret) .skip)) (.seq (.block 0 (z [m 16 1,q 17 (.int .lss (.s 16) (i 0)),m 15 17] (.cond (.s 15) (z [m 18 0,
 q 19 (.call 476 [.s 18,i 2])] (z [q 4 (.mv (.c (.string ⟨#[]⟩)))] .ret)) (z [m 21 0,j 22 21,f 23 0 22,l 24 1 23,n 25 24,m 26 1,q 27 (.int .lss (.s 25) (.s 26)),m 20 27] (.cond (.s 20) (z [m 28 0,q 29 (.call 476 [.s 28,
 i 3])] (z [q 4 (.mv (.c (.string ⟨#[]⟩)))] .ret)) .skip))))) (z [m 30 0,j 31 30,f 32 0 31,l 33 1 32,m 34 1,q 35 (.gy 1 (.s 33) none (some (.s 34)) none),q 36 (.nd .AY [.s 35]),m 5 36] (z [m 37 0,m 38 0,j 39 38,
 f 40 0 39,l 41 1 40,m 42 1,q 43 (.gy 1 (.s 41) (some (.s 42)) none none),j 44 37,f 45 0 44,o 1 45 43] (z [m 46 5,m 4 46] .ret)))))⟩
def Rz:SF :=⟨1,15,[.t 2],z [q 2 (.mv (i 0))] (.seq (z [m 4 0,c 5 477 4,m 3 5] (z [m 6 3,q 7 (.int .neq (.s 6) (i 0))] (.cond (.s 7) (z [m 8 3,m 2 8] .ret) .skip))) (.seq (z [m 9 0,j 10 9,f 11 0 10,l 12 1 11,n 13 12,
 q 14 (.int .gtr (.s 13) (i 0))] (.cond (.s 14) (z [q 2 (.mv (i 4))] .ret) .skip)) (z [q 2 (.mv (i 0))] .ret)))⟩
def RA:SF :=⟨1,14,[.t 2,.t 3],z [q 2 (.mv (.c (.slice none 0 0))),q 3 (.mv (i 0))] (z [m 5 0,c 6 455 5,m 4 6] (.seq (z [m 7 4,q 8 (.int .eql (.s 7) (i 0))] (.cond (.s 8) (z [q 2 (.mv (.c (.slice none 0 0))),
 q 3 (.mv (i 13))] .ret) .skip)) (z [m 9 0,m 10 4,cc 11 478 9 10,e 12 0 11,e 13 1 11,m 2 12,m 3 13] .ret)))⟩
def RC:SF :=⟨1,36,[.t 2],z [q 2 (.mv (.c (.slice none 0 0)))] (z [q 3 (.mv (i 0))] (.seq (z [m 9 0,n 10 9,
 q 11 (.mv (i 0))] (.block 0 (.loop (z [q 12 (.int .lss (.s 11) (.s 10))] (.seq (.cond (.s 12) .skip (.exit 0)) (.seq (.block 1 (z [b 13 1 9 11,l 14 1 13,m 5 14] (z [m 15 3,m 16 5,n 17 16,q 18 (.int .add (.s 15) (.s 17)),
 m 3 18] (z [m 19 3,q 20 (.int .lss (.s 19) (i 0))] (.cond (.s 20) (.bL [q 21 (.cH (.m (.Zv 9)) [.c (.string ⟨#[108,101,110,32,111,117,116,32,111,102,32,114,97,110,103,101]⟩)]),⟨none,.dead,
 none⟩]) .skip))))) (.bL [q 22 (.int .add (.s 11) (i 1)),m 11 22]))))))) (z [m 23 3,q 24 (.call 479 [.c (.slice none 0 0),.s 23]),m 6 24] (.seq (z [m 25 0,n 26 25,
 q 27 (.mv (i 0))] (.block 2 (.loop (z [q 28 (.int .lss (.s 27) (.s 26))] (.seq (.cond (.s 28) .skip (.exit 2)) (.seq (.block 3 (z [b 29 1 25 27,l 30 1 29,m 8 30] (.bL [m 31 6,m 32 8,q 33 (.app 1 1 (.s 31) (.s 32)),
 m 6 33]))) (.bL [q 34 (.int .add (.s 27) (i 1)),m 27 34]))))))) (z [m 35 6,m 2 35] .ret)))))⟩
def RE:SF :=⟨1,11,[.t 2],z [q 2 (.mv (.c (.slice none 0 0)))] (z [m 6 0,c 7 480 6,m 5 7,e 8 0 5,e 9 1 5,m 3 8,m 4 9] (z [m 10 3,m 2 10] .ret))⟩
def RH:SF :=⟨1,8,[.t 2],z [q 2 (.mv (.c (.slice none 0 0)))] (z [m 3 0,q 4 (.dF (.s 3)),c 5 466 4,m 6 0,q 7 (.app 1 1 (.s 5) (.s 6)),m 2 7] .ret)⟩
def RI:SF :=⟨1,10,[.t 2],z [q 2 (.mv (.c (.slice none 0 0)))] (z [q 3 (.aO 1 []),m 4 0,q 5 (.app 1 1 (.s 3) (.s 4)),m 6 0,c 7 481 6,c 8 482 7,q 9 (.app 1 1 (.s 5) (.s 8)),m 2 9] .ret)⟩
def RJ:SF :=⟨1,25,[.t 2,.t 3,.t 4],z [q 2 (.mv (i 0)),q 3 (.mv (i 0)),q 4 (.mv (i 0))] (z [m 9 0,c 10 483 9,m 8 10,e 11 0 8,e 12 1 8,e 13 2 8,m 5 11,m 6 12,m 7 13] (.seq (.block 0 (z [m 15 7,q 16 (.int .neq (.s 15) (i 0)),
 m 14 16] (.cond (.s 14) (z [m 17 7,q 2 (.mv (i 0)),q 3 (.mv (i 0)),m 4 17] .ret) (z [m 19 5,c 20 484 19,m 21 6,q 22 (.int .lss (.s 20) (.s 21)),m 18 22] (.cond (.s 18) (z [q 2 (.mv (i 0)),q 3 (.mv (i 0)),
 q 4 (.mv (i 4))] .ret) .skip))))) (z [m 23 5,m 24 6,m 2 23,m 3 24,q 4 (.mv (i 0))] .ret)))⟩
def RL:SF :=⟨1,27,[.t 2,.t 3],z [q 2 (.mv (.c (.slice none 0 0))),q 3 (.mv (i 0))] (.seq (z [m 5 0,n 6 5,q 7 (.int .lss (.s 6) (i 4))] (.cond (.s 7) (z [q 2 (.mv (.c (.slice none 0 0))),q 3 (.mv (i 3))] .ret) .skip)) (z [m 8 0,
 n 9 8,q 10 (.int .sub (.s 9) (i 4)),m 4 10] (.seq (.seq (.bp [0,1,2,6,7,8,9,3,4,5,10] [m' 11 0,m' 12 4,q' 13 (.gy 1 (.s 11) none (some (.s 12)) none),m' 17 0,m' 18 4,q' 19 (.gy 1 (.s 17) (some (.s 18)) none none),
 q' 20 (.JN (.s 19)),c' 14 481 13,c' 15 482 14,q' 16 (.JN (.s 15)),q' 21 (.str .neq (.s 16) (.s 20))]) (.cond (.s 21) (z [q 2 (.mv (.c (.slice none 0 0))),q 3 (.mv (i 14))] .ret) .skip)) (z [q 22 (.aO 1 []),m 23 0,
 m 24 4,q 25 (.gy 1 (.s 23) none (some (.s 24)) none),q 26 (.app 1 1 (.s 22) (.s 25)),m 2 26,q 3 (.mv (i 0))] .ret))))⟩
def RM:SF :=⟨1,72,[.cell 2 true 37,.t 3],z [q 2 (.alloc (some 0) fA),q 3 (.mv ff)] (z [m 10 0,q 11 (.build [.v (.slice none 0 0),.v (.int .i64 0)] [(0,1,.s 10)]),c 12 485 11,m 9 12,e 13 0 9,e 14 1 9,
 q 4 (.alloc (some 1) [.v (.slice none 0 0),.v (.int .i64 0)]),o 2 4 13,m 5 14] (z [m 15 5,q 16 (.build fA [(0,1,.s 15)]),q 6 (.alloc (some 2) fA),o 37 6 16] (z [q 7 (.mv (.c (.string ⟨#[]⟩)))] (z [t 18 2 4,
 q 19 (.call 486 [.s 18,i 1099511627776]),m 17 19,e 20 0 17,e 21 1 17,o 2 4 20,f 22 1 6,o 1 22 21] (.seq (z [f 23 0 6,l 24 1 23] (.block 0 (z [q 26 (.int .eql (.s 24) (u 0)),m 25 26] (.cond (.s 25) (z [t 28 2 4,
 q 29 (.call 487 [.s 28,i 128]),m 27 29,e 30 0 27,e 31 1 27,o 2 4 30,f 32 2 6,o 1 32 31] (z [t 34 2 4,q 35 (.call 488 [.s 34,i 32]),m 33 35,e 36 0 33,e 37 1 33,o 2 4 36,
 m 7 37] (.seq (z [q 8 (.mv (i 0))] (.block 1 (.loop (.seq (z [m 38 8,m 39 7,q 40 (.dF (.s 39)),q 41 (.int .lss (.s 38) (.s 40)),m 42 41,ym 43 42 8,y 44 42 (.int .lss (.s 43) (i 32)),
 p 45 42 44] (.cond (.s 45) .skip (.exit 1))) (.seq (.block 2 (.bL [m 48 8,m 49 7,m 50 8,q 51 (.jr (.s 49) (.s 50)),f 52 3 6,q 53 (.sH 32 1 (.s 52) (.s 48)),o 1 53 51])) (.bL [m 46 8,q 47 (.int .add (.s 46) (i 1)),
 m 8 47])))))) (.bL [t 55 2 4,q 56 (.call 486 [.s 55,i 65536]),m 54 56,e 57 0 54,e 58 1 54,o 2 4 57,f 59 35 6,o 1 59 58])))) (z [q 61 (.int .eql (.s 24) (u 1)),m 60 61] (.cond (.s 60) (.bL [t 63 2 4,
 q 64 (.call 486 [.s 63,i 65536]),m 62 64,e 65 0 62,e 66 1 62,o 2 4 65,f 67 36 6,o 1 67 66]) .skip)))))) (.seq (.bp [0,1,2,3,4,5] [t' 68 37 6,t' 69 2 4,⟨c 70 489 69,[0]⟩,q' 71 (.int .eql (.s 70) (i 0)),o' 37 2 68,
 m' 3 71]) .ret))))))⟩
def RN:SF :=⟨0,2,[.cell 0 true 4],z [q 0 (.alloc (some 0) [.v (.int .i64 0),.v (.int .i64 0),.v (.int .i64 0),.v (.int .i64 0)])] (z [q 1 (.cH (.m (.Nu 1)) [i 1,i 2,i 4,i 8]),o 4 0 1] .ret)⟩
def RO:SF :=⟨2,16,[.t 4],z [q 4 (.mv ff)] (z [m 5 0,q 6 (.int .geq (.s 5) (i 0)),m 7 6,ym 8 7 0,y 9 7 (.conv .u64 (.s 8)),ym 10 7 1,y 11 7 (.int .mul (i 8) (.s 10)),y 12 7 (.int .sub (.s 11) (i 2)),
 y 13 7 (.int .shl (.c (.int .u64 1)) (.s 12)),y 14 7 (.int .lss (.s 9) (.s 13)),p 15 7 14,m 4 15] .ret)⟩
def RP:SF :=⟨2,36,[.t 4],z [q 4 (.mv (.c (.int .u32 0)))] (z [m 7 0,q 8 (.P5 (.s 7)),m 0 8] (.seq (z [m 9 1,n 10 9,
 q 11 (.mv (i 0))] (.block 0 (.loop (z [q 12 (.int .lss (.s 11) (.s 10))] (.seq (.cond (.s 12) .skip (.exit 0)) (.seq (.block 1 (z [b 13 1 9 11,l 14 1 13,m 6 14] (z [m 15 0,m 16 6,q 17 (.conv .u32 (.s 16)),
 q 18 (.int .xor (.s 15) (.s 17)),m 0 18] (z [m 19 0,q 20 (.int .and (.s 19) (.c (.int .u32 15))),q 21 (.sH 16 1 (.g 0) (.s 20)),l 22 1 21,m 23 0,q 24 (.int .shr (.s 23) (.c (.int .u64 4))),
 q 25 (.int .xor (.s 22) (.s 24)),m 0 25] (.bL [m 26 0,q 27 (.int .and (.s 26) (.c (.int .u32 15))),q 28 (.sH 16 1 (.g 0) (.s 27)),l 29 1 28,m 30 0,q 31 (.int .shr (.s 30) (.c (.int .u64 4))),
 q 32 (.int .xor (.s 29) (.s 31)),m 0 32]))))) (.bL [q 33 (.int .add (.s 11) (i 1)),m 11 33]))))))) (z [m 34 0,q 35 (.P5 (.s 34)),m 4 35] .ret)))⟩
def RQ:SF :=⟨2,26,[.t 4,.t 5,.t 6],z [q 4 (.mv (i 0)),q 5 (.mv (i 0)),q 6 (.mv (i 0))] (z [m 8 0,j 9 8,f 10 0 9,l 11 1 10,c 12 442 11,m 7 12,e 13 0 7,e 14 1 7,e 15 2 7,m 4 13,m 5 14,m 6 15] (.seq (z [m 16 6,
 q 17 (.int .eql (.s 16) (i 0)),m 18 17,ym 19 18 4,ym 20 18 1,y 21 18 (.int .gtr (.s 19) (.s 20)),p 22 18 21] (.cond (.s 22) (z [q 4 (.mv (i 0)),q 5 (.mv (i 0)),q 6 (.mv (i 5))] .ret) .skip)) (z [m 23 4,m 24 5,m 25 6,
 m 4 23,m 5 24,m 6 25] .ret)))⟩
def RR:SF :=⟨2,23,[.t 4],z [q 4 (.mv ff)] (.seq (z [m 5 1,q 6 (.int .neq (.s 5) (i 0)),m 7 6,ym 8 7 0,y 9 7 (.gw (.s 8)),y 10 7 (.dZ 1 (.s 9)),y 11 7 (.load false 1 (.s 10)),y 12 7 (.int .eql (.s 11) (i 0)),
 p 13 7 12] (.cond (.s 13) (.bL [m 14 0,m 15 1,j 16 14,f 17 1 16,o 1 17 15]) .skip)) (z [m 18 0,j 19 18,f 20 1 19,l 21 1 20,q 22 (.int .neq (.s 21) (i 0)),m 4 22] .ret))⟩
def RS:SF :=⟨1,9,[.t 2],z [q 2 (.mv (i 0))] (.seq (z [m 3 0,q 4 (.eq .ptr false (.s 3) (.c (.pointer none)))] (.cond (.s 4) (z [q 2 (.mv (i 1))] .ret) .skip)) (z [m 5 0,j 6 5,f 7 1 6,l 8 1 7,m 2 8] .ret))⟩
def RT:SF :=⟨2,43,[.t 4,.t 5],z [q 4 (.mv (.c (.slice none 0 0))),q 5 (.mv (i 0))] (z [m 9 1,c 10 490 9,m 6 10] (.seq (.block 0 (z [m 12 6,q 13 (.int .lss (.s 12) (i 0)),m 11 13] (.cond (.s 11) (z [q 4 (.mv (.c (.slice none 0 0))),
 q 5 (.mv (i 2))] .ret) (z [m 15 0,m 16 1,cc 17 473 15 16,q 18 (.not (.s 17)),m 14 18] (.cond (.s 14) (z [q 4 (.mv (.c (.slice none 0 0))),q 5 (.mv (i 13))] .ret) .skip))))) (z [m 19 1,
 q 20 (.cH (.UI 1 1 [.v (.int .u8 0)]) [.s 19,.s 19]),m 7 20] (.seq (z [m 21 1,q 22 (.int .sub (.s 21) (i 1)),m 8 22] (.block 1 (.loop (.seq (z [m 23 8,
 q 24 (.int .geq (.s 23) (i 0))] (.cond (.s 24) .skip (.exit 1))) (.seq (.block 2 (z [m 27 7,m 28 8,m 29 0,q 30 (.conv .u8 (.s 29)),b 31 1 27 28,o 1 31 30] (.bL [m 32 0,q 33 (.int .shr (.s 32) (.c (.int .u64 8))),
 m 0 33]))) (.bL [m 25 8,q 26 (.int .sub (.s 25) (i 1)),m 8 26])))))) (z [m 34 7,q 35 (.idx 1 (.s 34) (i 0)),l 36 1 35,m 37 6,q 38 (.int .shl (.s 37) (.c (.int .u64 6))),q 39 (.conv .u8 (.s 38)),
 q 40 (.int .or (.s 36) (.s 39)),q 41 (.idx 1 (.s 34) (i 0)),o 1 41 40] (z [m 42 7,m 4 42,q 5 (.mv (i 0))] .ret))))))⟩
def RU:SF :=⟨2,27,[.t 4],z [q 4 (.mv (.c (.slice none 0 0)))] (.seq (z [m 5 1,q 6 (.int .lss (.s 5) (i 0))] (.cond (.s 6) (.bL [q 7 (.cH (.m (.Zv 9)) [.c (.string ⟨#[99,97,110,110,111,116,32,98,101,32,110,101,103,97,116,105,118,
 101]⟩)]),⟨none,.dead,none⟩]) .skip)) (.seq (z [m 8 1,m 9 0,q 10 (.nd .cap [.s 9]),m 11 0,n 12 11,q 13 (.int .sub (.s 10) (.s 12)),q 14 (.int .sub (.s 8) (.s 13)),m 1 14] (z [m 15 1,
 q 16 (.int .gtr (.s 15) (i 0))] (.cond (.s 16) (.bL [m 17 0,m 18 0,q 19 (.nd .cap [.s 18]),q 20 (.gy 1 (.s 17) none (some (.s 19)) none),m 21 1,q 22 (.cH (.HU 1 1 [.v (.int .u8 0)]) [.s 20,.s 21]),m 23 0,n 24 23,
 q 25 (.gy 1 (.s 22) none (some (.s 24)) none),m 0 25]) .skip))) (z [m 26 0,m 4 26] .ret)))⟩
def RV:SF :=⟨1,13,[.t 2,.t 3],z [q 2 (.mv (.c (.slice none 0 0))),q 3 (.mv (i 0))] (.seq (z [m 4 0,c 5 484 4,q 6 (.int .eql (.s 5) (i 0))] (.cond (.s 6) (z [q 2 (.mv (.c (.slice none 0 0))),q 3 (.mv (i 13))] .ret) .skip)) (z [m 7 0,
 m 8 0,c 9 484 8,cc 10 491 7 9,e 11 0 10,e 12 1 10,m 2 11,m 3 12] .ret))⟩
def Afo:SF :=⟨1,6,[.t 2],z [q 2 (.mv (.c (.int .u32 0)))] (z [m 3 0,q 4 (.call 492 [.c (.int .u32 4294967295),.s 3]),q 5 (.P5 (.s 4)),m 2 5] .ret)⟩
def RX:SF :=⟨1,15,[.t 2],z [q 2 (.mv (.c (.slice none 0 0)))] (z [m 3 0,q 4 (.conv .u8 (.s 3)),m 5 0,q 6 (.int .shr (.s 5) (.c (.int .u64 8))),q 7 (.conv .u8 (.s 6)),m 8 0,q 9 (.int .shr (.s 8) (.c (.int .u64 16))),
 q 10 (.conv .u8 (.s 9)),m 11 0,q 12 (.int .shr (.s 11) (.c (.int .u64 24))),q 13 (.conv .u8 (.s 12)),q 14 (.aO 1 [.s 4,.s 7,.s 10,.s 13]),m 2 14] .ret)⟩
def RY:SF :=⟨1,47,[.t 2,.t 3,.t 4],z [q 2 (.mv (i 0)),q 3 (.mv (i 0)),q 4 (.mv (i 0))] (.seq (z [m 9 0,n 10 9,q 11 (.int .eql (.s 10) (i 0))] (.cond (.s 11) (z [q 2 (.mv (i 0)),q 3 (.mv (i 0)),
 q 4 (.mv (i 3))] .ret) .skip)) (z [q 5 (.mv (i 1))] (.seq (z [q 6 (.mv (i 0))] (.block 0 (.loop (.seq (z [m 12 6,m 13 0,q 14 (.idx 1 (.s 13) (i 0)),l 15 1 14,q 16 (.int .quo (.s 15) (u 64)),q 17 (.conv .i64 (.s 16)),
 q 18 (.int .lss (.s 12) (.s 17))] (.cond (.s 18) .skip (.exit 0))) (.seq (.block 1 (.bL [m 21 5,q 22 (.int .mul (i 2) (.s 21)),m 5 22])) (.bL [m 19 6,q 20 (.int .add (.s 19) (i 1)),m 6 20])))))) (.seq (z [m 23 0,
 n 24 23,m 25 5,q 26 (.int .lss (.s 24) (.s 25))] (.cond (.s 26) (z [q 2 (.mv (i 0)),q 3 (.mv (i 0)),q 4 (.mv (i 3))] .ret) .skip)) (z [m 27 0,q 28 (.idx 1 (.s 27) (i 0)),l 29 1 28,q 30 (.int .rem (.s 29) (u 64)),
 q 31 (.conv .i64 (.s 30)),m 7 31] (.seq (z [q 8 (.mv (i 1))] (.block 2 (.loop (.seq (z [m 32 8,m 33 5,q 34 (.int .lss (.s 32) (.s 33))] (.cond (.s 34) .skip (.exit 2))) (.seq (.block 3 (.bL [m 37 7,
 q 38 (.int .mul (i 256) (.s 37)),m 39 0,m 40 8,b 41 1 39 40,l 42 1 41,q 43 (.conv .i64 (.s 42)),q 44 (.int .add (.s 38) (.s 43)),m 7 44])) (.bL [m 35 8,q 36 (.int .add (.s 35) (i 1)),m 8 36])))))) (z [m 45 7,m 46 5,
 m 2 45,m 3 46,q 4 (.mv (i 0))] .ret)))))))⟩
def RZ:SF :=⟨1,12,[.t 2],z [q 2 (.mv (i 0))] (.seq (z [q 3 (.mv (i 1))] (.block 0 (.loop (.seq (z [m 4 3,q 5 (.int .leq (.s 4) (i 8))] (.cond (.s 5) .skip (.exit 0))) (.seq (.block 1 (z [m 8 0,m 9 3,
 cc 10 493 8 9] (.cond (.s 10) (z [m 11 3,m 2 11] .ret) .skip))) (.bL [m 6 3,q 7 (.int .mul (i 2) (.s 6)),m 3 7])))))) (z [q 2 (.mv (i 0))] .ret))⟩
def R0:SF :=⟨1,18,[.cell 2 true 2,.t 3],z [q 1 (.box (some 0) 2 (.s 0)),q 2 (.alloc (some 1) [.v (.slice none 0 0),.v (.int .i64 0)]),q 3 (.mv (u 0))] (z [t 7 2 1,q 8 (.call 488 [.s 7,i 1]),m 6 8,e 9 0 6,e 10 1 6,
 q 4 (.alloc (some 2) [.v (.slice none 0 0),.v (.int .i64 0)]),o 2 4 9,m 5 10] (.seq (z [f 11 1 4,l 12 1 11,q 13 (.int .neq (.s 12) (i 0))] (.cond (.s 13) (z [t 14 2 4,o 2 2 14,
 q 3 (.mv (u 0))] .ret) .skip)) (.seq (.bp [1,2,0,3,4] [m' 16 5,q' 17 (.jr (.s 16) (i 0)),t' 15 2 4,o' 2 2 15,m' 3 17]) .ret)))⟩
def R1:SF :=⟨2,38,[.cell 4 true 2,.t 5],z [q 2 (.box (some 0) 2 (.s 0)),q 4 (.alloc (some 1) [.v (.slice none 0 0),.v (.int .i64 0)]),q 5 (.mv (i 0))] (.seq (z [f 9 1 2,l 10 1 9,
 q 11 (.int .neq (.s 10) (i 0))] (.cond (.s 11) (z [t 12 2 2,o 2 4 12,q 5 (.mv (i 0))] .ret) .skip)) (z [f 14 0 2,l 15 1 14,c 16 469 15,m 13 16,e 17 0 13,e 18 1 13,e 19 2 13,m 6 17,m 7 18,
 m 8 19] (.seq (.block 0 (z [m 21 8,q 22 (.int .neq (.s 21) (i 0)),m 20 22] (.cond (.s 20) (z [t 23 2 2,m 24 8,cc 25 494 23 24,o 2 4 25,q 5 (.mv (i 0))] .ret) (z [m 27 6,m 28 1,q 29 (.int .gtr (.s 27) (.s 28)),
 m 26 29] (.cond (.s 26) (z [t 30 2 2,q 31 (.call 494 [.s 30,i 5]),o 2 4 31,q 5 (.mv (i 0))] .ret) .skip))))) (z [f 32 0 2,l 33 1 32,m 34 7,q 35 (.gy 1 (.s 33) (some (.s 34)) none none),
 q 36 (.build [.v (.slice none 0 0),.v (.int .i64 0)] [(0,1,.s 35),(1,1,i 0)]),m 37 6,o 2 4 36,m 5 37] .ret))))⟩
def R2:SF :=⟨2,31,[.cell 4 true 2,.t 5],z [q 2 (.box (some 0) 2 (.s 0)),q 4 (.alloc (some 1) [.v (.slice none 0 0),.v (.int .i64 0)]),q 5 (.mv (.c (.string ⟨#[]⟩)))] (z [t 11 2 2,m 12 1,cc 13 486 11 12,m 10 13,e 14 0 10,e 15 1 10,
 q 6 (.alloc (some 2) [.v (.slice none 0 0),.v (.int .i64 0)]),o 2 6 14,m 7 15] (z [t 17 2 6,m 18 7,cc 19 488 17 18,m 16 19,e 20 0 16,e 21 1 16,q 8 (.alloc (some 3) [.v (.slice none 0 0),.v (.int .i64 0)]),o 2 8 20,
 m 9 21] (.seq (z [f 22 1 8,l 23 1 22,q 24 (.int .neq (.s 23) (i 0))] (.cond (.s 24) (z [t 25 2 2,f 26 1 8,l 27 1 26,cc 28 494 25 27,o 2 4 28,q 5 (.mv (.c (.string ⟨#[]⟩)))] .ret) .skip)) (z [t 29 2 8,m 30 9,o 2 4 29,
 m 5 30] .ret))))⟩
def R3:SF :=⟨2,34,[.cell 4 true 2,.t 5],z [q 2 (.box (some 0) 2 (.s 0)),q 4 (.alloc (some 1) [.v (.slice none 0 0),.v (.int .i64 0)]),q 5 (.mv (.c (.string ⟨#[]⟩)))] (.seq (.block 0 (z [f 7 1 2,l 8 1 7,q 9 (.int .neq (.s 8) (i 0)),
 m 6 9] (.cond (.s 6) (z [t 10 2 2,o 2 4 10,q 5 (.mv (.c (.string ⟨#[]⟩)))] .ret) (z [m 12 1,q 13 (.int .lss (.s 12) (i 0)),m 11 13] (.cond (.s 11) (z [t 14 2 2,q 15 (.call 494 [.s 14,i 2]),o 2 4 15,
 q 5 (.mv (.c (.string ⟨#[]⟩)))] .ret) (z [f 17 0 2,l 18 1 17,n 19 18,m 20 1,q 21 (.int .lss (.s 19) (.s 20)),m 16 21] (.cond (.s 16) (z [t 22 2 2,q 23 (.call 494 [.s 22,i 3]),o 2 4 23,
 q 5 (.mv (.c (.string ⟨#[]⟩)))] .ret) .skip))))))) (.seq (.bp [0,2,5,7,1,3,4,6,8,9,10,11] [f' 24 0 2,m' 26 1,f' 29 0 2,m' 31 1,l' 25 1 24,q' 27 (.gy 1 (.s 25) (some (.s 26)) none none),
 q' 28 (.build [.v (.slice none 0 0),.v (.int .i64 0)] [(0,1,.s 27),(1,1,i 0)]),l' 30 1 29,q' 32 (.gy 1 (.s 30) none (some (.s 31)) none),q' 33 (.JN (.s 32)),⟨o 2 4 28,[7]⟩,m' 5 33]) .ret))⟩
def R4:SF :=⟨1,14,[.t 2],z [q 1 (.box (some 0) 2 (.s 0)),q 2 (.mv (i 0))] (.seq (z [f 3 1 1,l 4 1 3,q 5 (.int .eql (.s 4) (i 0)),m 6 5,y 7 6 (.dZ 0 (.s 1)),y 8 6 (.load false 1 (.s 7)),y 9 6 (.len (.s 8)),
 y 10 6 (.int .gtr (.s 9) (i 0)),p 11 6 10] (.cond (.s 11) (z [q 2 (.mv (i 4))] .ret) .skip)) (z [f 12 1 1,l 13 1 12,m 2 13] .ret))⟩
def R5:SF :=⟨1,15,[.t 2],z [q 2 (.mv (i 0))] (.seq (z [q 5 (.call 472 []),q 6 (.mv (i 0))] (.block 0 (.loop (z [q 7 (.int .lss (.s 6) (i 4))] (.seq (.cond (.s 7) .skip (.exit 0)) (.seq (.block 1 (z [m 8 6,
 q 9 (.cH (.m (.JT 4 1 false)) [.s 5,.s 6]),m 3 8,m 4 9] (z [m 10 4,m 11 0,q 12 (.int .eql (.s 10) (.s 11))] (.cond (.s 12) (z [m 13 3,m 2 13] .ret) .skip)))) (.bL [q 14 (.int .add (.s 6) (i 1)),
 m 6 14]))))))) (z [q 2 (.mv (i (-1)))] .ret))⟩
def R6:SF :=⟨2,49,[.t 4,.t 5],z [q 4 (.mv (.c (.slice none 0 0))),q 5 (.mv (i 0))] (.seq (z [m 8 1,q 9 (.int .neq (.s 8) (i 1)),m 10 9,ym 11 10 1,y 12 10 (.int .neq (.s 11) (i 2)),p 13 10 12,m 14 13,ym 15 14 1,
 y 16 14 (.int .neq (.s 15) (i 4)),p 17 14 16,m 18 17,ym 19 18 1,y 20 18 (.int .neq (.s 19) (i 8)),p 21 18 20] (.cond (.s 21) (z [q 4 (.mv (.c (.slice none 0 0))),q 5 (.mv (i 2))] .ret) .skip)) (.seq (z [m 22 0,m 23 1,
 cc 24 493 22 23,q 25 (.not (.s 24))] (.cond (.s 25) (z [q 4 (.mv (.c (.slice none 0 0))),q 5 (.mv (i 13))] .ret) .skip)) (z [q 6 (.mv (.c (.slice none 0 0)))] (.seq (z [m 26 1,q 27 (.int .sub (.s 26) (i 1)),
 m 7 27] (.block 0 (.loop (.seq (z [m 28 7,q 29 (.int .geq (.s 28) (i 0))] (.cond (.s 29) .skip (.exit 0))) (.seq (.block 1 (.bL [m 32 6,m 33 0,m 34 7,q 35 (.int .mul (i 8) (.s 34)),q 36 (.int .shr (.s 33) (.s 35)),
 q 37 (.int .and (.s 36) (i 255)),q 38 (.conv .u8 (.s 37)),q 39 (.aO 1 [.s 38]),q 40 (.app 1 1 (.s 32) (.s 39)),m 6 40])) (.bL [m 30 7,q 31 (.int .sub (.s 30) (i 1)),m 7 31])))))) (.seq (.bp [0,1,3,2,4,5,6,
 7] [m' 41 6,q' 42 (.idx 1 (.s 41) (i 0)),m' 44 1,l' 43 1 42,⟨c 45 495 44,[3]⟩,q' 46 (.int .add (.s 43) (.s 45)),q' 47 (.idx 1 (.s 41) (i 0)),o' 1 47 46]) (z [m 48 6,m 4 48,q 5 (.mv (i 0))] .ret))))))⟩
def R7:SF :=⟨2,33,[.t 4],z [q 4 (.mv (.c (.int .u32 0)))] (.seq (z [q 5 (.mv (i 0))] (.block 0 (.loop (.seq (z [m 7 5,m 8 1,n 9 8,q 10 (.int .lss (.s 7) (.s 9))] (.cond (.s 10) .skip (.exit 0))) (.seq (.block 1 (z [m 13 0,m 14 1,
 m 15 5,b 16 1 14 15,l 17 1 16,q 18 (.conv .u32 (.s 17)),q 19 (.int .xor (.s 13) (.s 18)),m 0 19] (z [q 6 (.mv (i 0))] (.block 2 (.loop (.seq (z [m 20 6,
 q 21 (.int .lss (.s 20) (i 8))] (.cond (.s 21) .skip (.exit 2))) (.seq (.block 3 (z [m 24 0,q 25 (.int .rem (.s 24) (.c (.int .u32 2))),q 26 (.int .eql (.s 25) (.c (.int .u32 1)))] (.cond (.s 26) (.bL [m 27 0,
 q 28 (.int .quo (.s 27) (.c (.int .u32 2))),q 29 (.int .xor (.s 28) (.c (.int .u32 3988292384))),m 0 29]) (.bL [m 30 0,q 31 (.int .quo (.s 30) (.c (.int .u32 2))),m 0 31])))) (.bL [m 22 6,
 q 23 (.int .add (.s 22) (i 1)),m 6 23])))))))) (.bL [m 11 5,q 12 (.int .add (.s 11) (i 1)),m 5 12])))))) (z [m 32 0,m 4 32] .ret))⟩
def R8:SF :=⟨2,36,[.t 4],z [q 4 (.mv ff)] (.seq (z [m 5 1] (.block 0 (z [q 7 (.int .eql (.s 5) (i 1)),m 6 7] (.cond (.s 6) (z [m 8 0,q 9 (.int .geq (.s 8) (i 0)),m 10 9,ym 11 10 0,y 12 10 (.int .lss (.s 11) (i 64)),p 13 10 12,
 m 4 13] .ret) (z [q 15 (.int .eql (.s 5) (i 2)),m 14 15] (.cond (.s 14) (z [m 16 0,q 17 (.int .geq (.s 16) (i 0)),m 18 17,ym 19 18 0,y 20 18 (.int .lss (.s 19) (i 16384)),p 21 18 20,
 m 4 21] .ret) (z [q 23 (.int .eql (.s 5) (i 4)),m 22 23] (.cond (.s 22) (z [m 24 0,q 25 (.int .geq (.s 24) (i 0)),m 26 25,ym 27 26 0,y 28 26 (.int .lss (.s 27) (i 1073741824)),p 29 26 28,
 m 4 29] .ret) .skip)))))))) (z [m 30 0,q 31 (.int .geq (.s 30) (i 0)),m 32 31,ym 33 32 0,y 34 32 (.int .leq (.s 33) (i 4611686018427387903)),p 35 32 34,m 4 35] .ret))⟩
def R9:SF :=⟨2,9,[.cell 4 true 2],z [q 2 (.box (some 0) 2 (.s 0)),q 4 (.alloc (some 1) [.v (.slice none 0 0),.v (.int .i64 0)])] (z [f 5 0 2,l 6 1 5,m 7 1,q 8 (.build [.v (.slice none 0 0),.v (.int .i64 0)] [(0,1,.s 6),(1,1,.s 7)]),
 o 2 4 8] .ret)⟩
def Sa:SF :=⟨1,10,[.t 2],z [q 2 (.mv (u 0))] (.seq (z [m 3 0] (.block 0 (z [q 5 (.int .eql (.s 3) (i 1)),m 4 5] (.cond (.s 4) (z [q 2 (.mv (u 0))] .ret) (z [q 7 (.int .eql (.s 3) (i 2)),
 m 6 7] (.cond (.s 6) (z [q 2 (.mv (u 64))] .ret) (z [q 9 (.int .eql (.s 3) (i 4)),m 8 9] (.cond (.s 8) (z [q 2 (.mv (u 128))] .ret) .skip)))))))) (z [q 2 (.mv (u 192))] .ret))⟩
def Afp:SF :=⟨2,44,[.t 4],z [q 4 (.mv ff)] (.seq (z [m 8 1,q 9 (.call 377 [.s 8,i 40]),q 10 (.not (.s 9))] (.cond (.s 10) (z [q 11 (.call 378 []),m 4 11] .ret) .skip)) (z [m 13 0,q 14 (.conv .i64 (.s 13)),c 15 389 14,m 12 15,
 e 16 0 12,e 17 1 12,m 5 16,m 6 17] (.seq (z [m 18 6,q 19 (.not (.s 18)),m 20 19,xm 21 20 5,x 22 20 (.call 390 [.s 21]),x 23 20 (.not (.s 22)),
 r 24 20 23] (.cond (.s 24) (z [q 4 (.mv ff)] .ret) .skip)) (.seq (z [q 7 (.mv (i 0))] (.block 0 (.loop (.seq (z [m 25 7,m 26 1,n 27 26,
 q 28 (.int .lss (.s 25) (.s 27))] (.cond (.s 28) .skip (.exit 0))) (.seq (.block 1 (z [m 31 5,m 32 1,m 33 7,b 34 44 32 33,t 35 44 34,cc 36 391 31 35,q 37 (.not (.s 36)),m 38 37,xm 39 38 5,x 40 38 (.call 390 [.s 39]),
 x 41 38 (.not (.s 40)),r 42 38 41] (.cond (.s 42) (z [q 4 (.mv ff)] .ret) .skip))) (.bL [m 29 7,q 30 (.int .add (.s 29) (i 1)),m 7 30])))))) (z [q 43 (.call 378 []),m 4 43] .ret)))))⟩
abbrev clT:Nat:=91
def AcF:List (Nat×SF):=[(90,AcG),(154,Sc),(160,Sd),(163,Mw),(164,Se),(170,Sf),(176,Sg),(181,Mx),(182,My),(183,Sh),(186,Si),(187,Sj),(189,Sk),(191,Sl),(192,Sn),(193,Sp),(194,Sq),(195,Mz),(196,MA),(197,Sr),(199,Ss),(200,Su),(201,Sw),(202,Sx),(203,Sy),(204,MB),(205,MC),(206,Sz),(209,SA),(210,SB),(211,SD),(212,SE),(214,MD),(218,ME),(219,MF),(221,MG),(294,SG),(295,SH),(296,SI),(297,SJ),(298,SK),(299,SL),(300,SM),(301,SO),(302,SP),(303,SQ),(304,SR),(308,Afq),(309,SU),(310,SV),(311,SX),(312,SY),(313,SZ),(314,S0),(315,S1),(318,S2),(319,S3),(320,S4),(321,S5),(322,S6),(323,S7),(324,S8),(325,S9),(326,Ta),(327,Tb),(328,Tc),(329,Td),(330,Te),(331,Tf),(332,Tg),(333,Th),(334,Ti),(335,Tj),(336,Tl),(337,Tm),(338,Tn),(339,To),(340,Tp),(341,Tq),(342,Ts),(343,Tt),(344,Tu),(345,Tv),(346,Tw),(347,Tx),(350,Ty),(351,Tz),(352,TA),(353,TB),(354,TC),(355,TD),(356,TE),(357,TF),(358,TG),(359,TH),(360,TI),(361,TJ),(362,TK),(363,MH),(364,TL),(365,TM),(366,TN),(367,TO),(368,TP),(369,TQ),(370,TR),(377,Afr),(378,TT),(379,TU),(380,TV),(382,TW),(383,TX),(384,TY),(385,TZ),(386,T0),(387,T1),(388,T2),(389,Afs),(390,T3),(391,T4),(392,T5),(394,T6),(395,T7),(396,T8),(397,T9),(398,Ua),(399,Ub),(400,Uc),(401,Ud),(402,Ue),(404,Uf),(405,Ug),(406,Uh),(407,Ui),(408,Uj),(409,Uk),(410,Ul),(411,Um),(412,Un),(413,Uo),(414,Up),(415,Uq),(416,Ur),(417,Us),(418,QM),(419,QN),(420,QO),(421,QP),(422,QQ),(423,QR),(424,QS),(425,QT),(426,QU),(427,QV),(428,QW),(429,QX),(430,QY),(431,QZ),(432,Q2),(433,Q3),(434,Q4),(435,Q5),(436,Q6),(437,Q7),(438,Q8),(439,Q9),(440,Ra),(441,Rb),(442,Re),(443,Rf),(444,Rg),(445,Rh),(446,Ri),(447,Rj),(448,Rk),(449,Rl),(450,Rm),(451,Rn),(452,Ro),(453,Rp),(454,Rq),(455,Rr),(456,Rs),(457,Rt),(458,Ru),(459,Rv),(460,Rw),(461,Rx),(462,Ry),(463,Rz),(464,RA),(465,RC),(466,RE),(467,RH),(468,RI),(469,RJ),(470,RL),(471,RM),(472,RN),(473,RO),(474,RP),(475,RQ),(476,RR),(477,RS),(478,RT),(479,RU),(480,RV),(481,Afo),(482,RX),(483,RY),(484,RZ),(485,R0),(486,R1),(487,R2),(488,R3),(489,R4),(490,R5),(491,R6),(492,R7),(493,R8),(494,R9),(495,Sa),(498,Afp)]
def code(g:Nat):SF:=(lk AcF g).getD ⟨0,0,[],.skip⟩
theorem YM:code 90=AcG:=rfl
theorem GZ:code 154=Sc:=rfl
theorem GB:code 160=Sd:=rfl
theorem GM:code 163=Mw:=rfl
theorem GI:code 164=Se:=rfl
theorem GN:code 170=Sf:=rfl
theorem GS:code 176=Sg:=rfl
theorem G0:code 181=Mx:=rfl
theorem GW:code 182=My:=rfl
theorem GG:code 183=Sh:=rfl
theorem rP:code 186=Si:=rfl
theorem GY:code 187=Sj:=rfl
theorem GJ:code 189=Sk:=rfl
theorem G2:code 191=Sl:=rfl
theorem GP:code 192=Sn:=rfl
theorem GQ:code 193=Sp:=rfl
theorem GR:code 194=Sq:=rfl
theorem G7:code 195=Mz:=rfl
theorem G1:code 196=MA:=rfl
theorem GD:code 197=Sr:=rfl
theorem GX:code 199=Ss:=rfl
theorem G6:code 200=Su:=rfl
theorem G5:code 201=Sw:=rfl
theorem G':code 202=Sx:=rfl
theorem GL:code 203=Sy:=rfl
theorem GK:code 204=MB:=rfl
theorem GH:code 205=MC:=rfl
theorem GO:code 206=Sz:=rfl
theorem G8:code 209=SA:=rfl
theorem Ha:code 210=SB:=rfl
theorem GC:code 211=SD:=rfl
theorem GF:code 212=SE:=rfl
theorem G9:code 214=MD:=rfl
theorem Hb:code 218=ME:=rfl
theorem GU:code 219=MF:=rfl
theorem G4:code 221=MG:=rfl
theorem Di:code 294=SG:=rfl
theorem DX:code 295=SH:=rfl
theorem D7:code 296=SI:=rfl
theorem Dr:code 297=SJ:=rfl
theorem C8:code 298=SK:=rfl
theorem Ed:code 299=SL:=rfl
theorem Dh:code 300=SM:=rfl
theorem C1:code 301=SO:=rfl
theorem CX:code 302=SP:=rfl
theorem C4:code 303=SQ:=rfl
theorem Db:code 304=SR:=rfl
theorem Ee:code 308=Afq:=rfl
theorem C':code 309=SU:=rfl
theorem Dd:code 310=SV:=rfl
theorem De:code 311=SX:=rfl
theorem Dp:code 312=SY:=rfl
theorem Ef:code 313=SZ:=rfl
theorem Df:code 314=S0:=rfl
theorem Dg:code 315=S1:=rfl
theorem D5:code 318=S2:=rfl
theorem DV:code 319=S3:=rfl
theorem DH:code 320=S4:=rfl
theorem DN:code 321=S5:=rfl
theorem DO:code 322=S6:=rfl
theorem DP:code 323=S7:=rfl
theorem DI:code 324=S8:=rfl
theorem DQ:code 325=S9:=rfl
theorem DY:code 326=Ta:=rfl
theorem DT:code 327=Tb:=rfl
theorem DU:code 328=Tc:=rfl
theorem C7:code 329=Td:=rfl
theorem D9:code 330=Te:=rfl
theorem Dl:code 331=Tf:=rfl
theorem D4:code 332=Tg:=rfl
theorem D2:code 333=Th:=rfl
theorem C9:code 334=Ti:=rfl
theorem Ea:code 335=Tj:=rfl
theorem Ec:code 336=Tl:=rfl
theorem C2:code 337=Tm:=rfl
theorem C3:code 338=Tn:=rfl
theorem Eh:code 339=To:=rfl
theorem CY:code 340=Tp:=rfl
theorem CZ:code 341=Tq:=rfl
theorem C5:code 342=Ts:=rfl
theorem C6:code 343=Tt:=rfl
theorem Dc:code 344=Tu:=rfl
theorem DZ:code 345=Tv:=rfl
theorem D1:code 346=Tw:=rfl
theorem DM:code 347=Tx:=rfl
theorem D3:code 350=Ty:=rfl
theorem Da:code 351=Tz:=rfl
theorem Dx:code 352=TA:=rfl
theorem DG:code 353=TB:=rfl
theorem DB:code 354=TC:=rfl
theorem DA:code 355=TD:=rfl
theorem DD:code 356=TE:=rfl
theorem DE:code 357=TF:=rfl
theorem Dy:code 358=TG:=rfl
theorem DC:code 359=TH:=rfl
theorem Dz:code 360=TI:=rfl
theorem Dm:code 361=TJ:=rfl
theorem O0:code 362=TK:=rfl
theorem Dj:code 363=MH:=rfl
theorem D':code 364=TL:=rfl
theorem D8:code 365=TM:=rfl
theorem Eb:code 366=TN:=rfl
theorem Ei:code 367=TO:=rfl
theorem Dw:code 368=TP:=rfl
theorem O6:code 369=TQ:=rfl
theorem Dv:code 370=TR:=rfl
theorem AeN:code 377=Afr:=rfl
theorem FM:code 378=TT:=rfl
theorem Fx:code 379=TU:=rfl
theorem Fw:code 380=TV:=rfl
theorem FI:code 382=TW:=rfl
theorem O7:code 383=TX:=rfl
theorem EU:code 384=TY:=rfl
theorem Fi:code 385=TZ:=rfl
theorem FA:code 386=T0:=rfl
theorem Fu:code 387=T1:=rfl
theorem FL:code 388=T2:=rfl
theorem AeP:code 389=Afs:=rfl
theorem xA:code 390=T3:=rfl
theorem FZ:code 391=T4:=rfl
theorem F0:code 392=T5:=rfl
theorem O3:code 394=T6:=rfl
theorem Fv:code 395=T7:=rfl
theorem FK:code 396=T8:=rfl
theorem O8:code 397=T9:=rfl
theorem Fs:code 398=Ua:=rfl
theorem E8:code 399=Ub:=rfl
theorem Fj:code 400=Uc:=rfl
theorem Fm:code 401=Ud:=rfl
theorem E':code 402=Ue:=rfl
theorem Ft:code 404=Uf:=rfl
theorem Fk:code 405=Ug:=rfl
theorem FB:code 406=Uh:=rfl
theorem FC:code 407=Ui:=rfl
theorem FF:code 408=Uj:=rfl
theorem FG:code 409=Uk:=rfl
theorem FH:code 410=Ul:=rfl
theorem Fo:code 411=Um:=rfl
theorem ET:code 412=Un:=rfl
theorem ER:code 413=Uo:=rfl
theorem Fb:code 414=Up:=rfl
theorem Fe:code 415=Uq:=rfl
theorem Fa:code 416=Ur:=rfl
theorem Fg:code 417=Us:=rfl
theorem Fh:code 418=QM:=rfl
theorem xn:code 419=QN:=rfl
theorem Fy:code 420=QO:=rfl
theorem Fz:code 421=QP:=rfl
theorem F1:code 422=QQ:=rfl
theorem FV:code 423=QR:=rfl
theorem O9:code 424=QS:=rfl
theorem O':code 425=QT:=rfl
theorem OZ:code 426=QU:=rfl
theorem FX:code 427=QV:=rfl
theorem O4:code 428=QW:=rfl
theorem Fp:code 429=QX:=rfl
theorem Fq:code 430=QY:=rfl
theorem E3:code 431=QZ:=rfl
theorem EX:code 432=Q2:=rfl
theorem Ff:code 433=Q3:=rfl
theorem FQ:code 434=Q4:=rfl
theorem FU:code 435=Q5:=rfl
theorem FT:code 436=Q6:=rfl
theorem O5:code 437=Q7:=rfl
theorem EW:code 438=Q8:=rfl
theorem FO:code 439=Q9:=rfl
theorem E9:code 440=Ra:=rfl
theorem FP:code 441=Rb:=rfl
theorem FJ:code 442=Re:=rfl
theorem EN:code 443=Rf:=rfl
theorem E0:code 444=Rg:=rfl
theorem EH:code 445=Rh:=rfl
theorem EI:code 446=Ri:=rfl
theorem EG:code 447=Rj:=rfl
theorem EJ:code 448=Rk:=rfl
theorem Fc:code 449=Rl:=rfl
theorem EZ:code 450=Rm:=rfl
theorem ES:code 451=Rn:=rfl
theorem FN:code 452=Ro:=rfl
theorem E4:code 453=Rp:=rfl
theorem xr:code 454=Rq:=rfl
theorem En:code 455=Rr:=rfl
theorem Ey:code 456=Rs:=rfl
theorem EC:code 457=Rt:=rfl
theorem Ga:code 458=Ru:=rfl
theorem Gg:code 459=Rv:=rfl
theorem Gd:code 460=Rw:=rfl
theorem Gf:code 461=Rx:=rfl
theorem Ge:code 462=Ry:=rfl
theorem Gi:code 463=Rz:=rfl
theorem E7:code 464=RA:=rfl
theorem EF:code 465=RC:=rfl
theorem EL:code 466=RE:=rfl
theorem EM:code 467=RH:=rfl
theorem EK:code 468=RI:=rfl
theorem F':code 469=RJ:=rfl
theorem EO:code 470=RL:=rfl
theorem E1:code 471=RM:=rfl
theorem Em:code 472=RN:=rfl
theorem El:code 473=RO:=rfl
theorem Eu:code 474=RP:=rfl
theorem Gc:code 475=RQ:=rfl
theorem Gb:code 476=RR:=rfl
theorem Gh:code 477=RS:=rfl
theorem E6:code 478=RT:=rfl
theorem EE:code 479=RU:=rfl
theorem F9:code 480=RV:=rfl
theorem Ew:code 481=Afo:=rfl
theorem Ez:code 482=RX:=rfl
theorem xE:code 483=RY:=rfl
theorem F4:code 484=RZ:=rfl
theorem Gn:code 485=R0:=rfl
theorem Gk:code 486=R1:=rfl
theorem Gm:code 487=R2:=rfl
theorem Gl:code 488=R3:=rfl
theorem Gp:code 489=R4:=rfl
theorem E5:code 490=R5:=rfl
theorem F6:code 491=R6:=rfl
theorem Ev:code 492=R7:=rfl
theorem F3:code 493=R8:=rfl
theorem Gj:code 494=R9:=rfl
theorem F5:code 495=Sa:=rfl
theorem AeR:code 498=Afp:=rfl
end Sm
