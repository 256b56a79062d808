/-
  SfB
-/
import Derived.Test.YtegmmhldpmmkeaaGreatDoorSmLfA
set_option linter.unusedVariables false
set_option maxRecDepth 100000
namespace Sm
open Go
def S9:SF :=⟨2,52,[.cell 4 true 9,.t 5],z [q 2 (.box (some 0) 9 (.s 0)),q 4 (.alloc (some 1) O1),q 5 (.mv (i 0))] (z [t 11 9 2,m 12 1,cc 13 354 11 12,m 6 13] (.seq (z [m 14 6,
 q 15 (.int .neq (.s 14) (i 0))] (.cond (.s 15) (z [t 16 9 2,m 17 6,o 9 4 16,m 5 17] .ret) .skip)) (z [t 19 9 2,m 20 1,cc 21 358 19 20,m 18 21,e 22 0 18,e 23 1 18,q 7 (.alloc (some 2) [.v (.string ⟨#[]⟩),.v (.bool false),
 .v (.int .i64 0)]),o 3 7 22,m 8 23] (.seq (z [m 24 8,q 25 (.not (.s 24))] (.cond (.s 25) (z [t 26 9 2,o 9 4 26,q 5 (.mv (i 8))] .ret) .skip)) (z [t 27 9 2,c 28 352 27,
 m 9 28] (.seq (z [q 10 (.mv (i 0))] (.block 0 (.loop (.seq (z [m 29 10,m 30 9,n 31 30,q 32 (.int .lss (.s 29) (.s 31))] (.cond (.s 32) .skip (.exit 0))) (.seq (.block 1 (z [m 35 9,m 36 10,b 37 3 35 36,f 38 0 37,
 l 39 1 38,c 40 170 39,m 41 1,q 42 (.str .eql (.s 40) (.s 41))] (.cond (.s 42) (z [t 43 9 2,o 9 4 43,q 5 (.mv (i 10))] .ret) .skip))) (.bL [m 33 10,q 34 (.int .add (.s 33) (i 1)),m 10 34])))))) (.seq (.bp [0,1,2,3,4,5,
 6,7,8,9] [t' 44 9 2,t' 45 9 2,t' 46 3 7,q' 47 (.aO 3 [.s 46]),⟨q 48 (.call 359 [.s 45,.s 47,.c (.slice none 0 0)]),[0]⟩,w (cc 49 357 44 48),e' 50 0 49,e' 51 1 49,o' 9 4 50,m' 5 51]) .ret)))))))⟩
def Ta:SF :=⟨3,73,[.cell 6 true 9,.t 7],z [q 3 (.box (some 0) 9 (.s 0)),q 6 (.alloc (some 1) O1),q 7 (.mv (i 0))] (z [t 13 9 3,m 14 1,cc 15 354 13 14,m 8 15] (.seq (z [m 16 8,
 q 17 (.int .eql (.s 16) (i 0))] (.cond (.s 17) (.bL [m 18 2,c 19 199 18,m 8 19]) .skip)) (.seq (z [m 20 8,q 21 (.int .neq (.s 20) (i 0))] (.cond (.s 21) (z [t 22 9 3,m 23 8,o 9 6 22,m 7 23] .ret) .skip)) (z [t 25 9 3,
 m 26 1,cc 27 355 25 26,m 24 27,e 28 0 24,e 29 1 24,q 9 (.alloc (some 2) [.v (.string ⟨#[]⟩),.v (.bool false),.v (.int .i64 0)]),o 3 9 28,m 8 29] (.seq (z [m 30 8,
 q 31 (.int .eql (.s 30) (i 0))] (.cond (.s 31) (.bL [t 32 9 3,m 33 2,cc 34 360 32 33,m 8 34]) .skip)) (z [t 36 9 3,m 37 2,cc 38 358 36 37,m 35 38,e 39 0 35,e 40 1 35,q 10 (.alloc (some 3) [.v (.string ⟨#[]⟩),
 .v (.bool false),.v (.int .i64 0)]),o 3 10 39,m 11 40] (.seq (z [m 41 8,q 42 (.int .eql (.s 41) (i 0)),m 43 42,ym 44 43 11,p 45 43 44,m 46 45,y 47 46 (.dZ 1 (.s 10)),y 48 46 (.load false 1 (.s 47)),
 p 49 46 48] (.cond (.s 49) (.bL [q 8 (.mv (i 9))]) .skip)) (.seq (z [m 50 8,q 51 (.int .neq (.s 50) (i 0))] (.cond (.s 51) (z [t 52 9 3,m 53 8,o 9 6 52,m 7 53] .ret) .skip)) (z [t 54 3 9,q 55 (.aO 3 [.s 54]),
 m 12 55] (.seq (z [m 56 11] (.cond (.s 56) (.bL [m 57 12,t 58 3 10,q 59 (.aO 3 [.s 58]),q 60 (.app 3 32 (.s 57) (.s 59)),m 12 60]) .skip)) (.seq (.bp [2,3,4,0,1,5,6,7,8,9,10,11,12,13] [m' 63 12,m' 64 2,f' 65 2 9,
 t' 61 9 3,t' 62 9 3,l' 66 1 65,q' 67 (.build [.v (.string ⟨#[]⟩),.v (.bool false),.v (.int .i64 0)] [(0,1,.s 64),(1,1,ff),(2,1,.s 66)]),q' 68 (.aO 3 [.s 67]),⟨q 69 (.call 359 [.s 62,.s 63,.s 68]),[3]⟩,
 w (cc 70 357 61 69),e' 71 0 70,e' 72 1 70,o' 9 6 71,m' 7 72]) .ret)))))))))))⟩
def Tb:SF :=⟨1,18,[.cell 2 true 9,.t 3],z [q 1 (.box (some 0) 9 (.s 0)),q 2 (.alloc (some 1) O1),q 3 (.mv (i 0))] (.seq (z [f 5 4 1,l 6 1 5] (.cond (.s 6) (z [t 7 9 1,o 9 2 7,q 3 (.mv (i 11))] .ret) .skip)) (z [t 8 9 1,
 q 4 (.alloc (some 2) O1),o 9 4 8] (z [t 9 9 1,c 10 352 9,f 11 1 4,o 1 11 10,f 12 2 4,⟨none,.store 1 (.s 12) (.c (.slice none 0 0)),none⟩] (z [t 13 9 1,t 14 9 4,cc 15 357 13 14,e 16 0 15,e 17 1 15,o 9 2 16,
 m 3 17] .ret))))⟩
def Tc:SF :=⟨3,21,[.cell 6 true 9,.t 7],z [q 3 (.box (some 0) 9 (.s 0)),q 6 (.alloc (some 1) O1),q 7 (.mv (i 0))] (.seq (.block 0 (z [f 9 4 3,l 10 1 9,m 8 10] (.cond (.s 8) (z [t 11 9 3,o 9 6 11,q 7 (.mv (i 11))] .ret) (z [m 13 1,
 q 14 (.int .lss (.s 13) (i 0)),m 12 14] (.cond (.s 12) (z [t 15 9 3,o 9 6 15,q 7 (.mv (i 2))] .ret) .skip))))) (z [m 16 1,m 17 2,f 18 6 3,o 1 18 16,f 19 7 3,o 1 19 17] (z [t 20 9 3,o 9 6 20,q 7 (.mv (i 0))] .ret)))⟩
def Td:SF :=⟨1,9,[.t 2],z [q 2 (.mv (.c (.map none)))] (.seq (z [m 3 0,q 4 (.cH (.m (.ka false)) [.s 3])] (.cond (.s 4) (z [q 2 (.mv (.c (.map none)))] .ret) .skip)) (z [m 5 0,q 6 (.cH (.m (.Zv 91)) [.s 5]),
 q 7 (.cH (.m .IQ) [.s 6]),q 8 (.cH (.m (.tas 91)) [.s 7]),m 2 8] .ret))⟩
def Te:SF :=⟨2,32,[],z [q 3 (.box (some 0) 2 (.s 1))] (z [f 6 0 3,l 7 1 6,n 8 7,q 9 (.mv (i 0))] (.block 0 (.loop (z [q 10 (.int .lss (.s 9) (.s 8))] (.seq (.cond (.s 10) .skip (.exit 0)) (.seq (.block 1 (z [m 11 9,b 12 1 7 9,
 l 13 1 12,m 4 11,m 5 13] (z [f 14 1 3,l 15 1 14,m 16 4,b 17 1 15 16,l 18 1 17,q 19 (.eq .ptr false (.s 18) (.c (.pointer none)))] (.cond (.s 19) (.bL [m 20 0,m 21 5,⟨none,.cH (.m (.del true)) [.s 20,.s 21],
 none⟩]) (.bL [m 22 0,m 23 5,f 24 1 3,l 25 1 24,m 26 4,b 27 1 25 26,l 28 1 27,j 29 28,t 30 2 29,⟨none,.cH (.m (.bt true)) [.s 22,.s 23,.s 30],none⟩]))))) (.bL [q 31 (.int .add (.s 9) (i 1)),m 9 31])))))))⟩
def Tf:SF :=⟨1,13,[.t 2],z [q 2 (.mv (.c (.slice none 0 0)))] (z [m 4 0,j 5 4,f 6 2 5,l 7 1 6,c 8 361 7,c 9 90 8,m 3 9] (z [m 10 3,q 11 (.call 362 [.s 10,.f 363])] (z [m 12 3,m 2 12] .ret)))⟩
def Tg:SF :=⟨2,30,[.t 4,.t 5],z [q 4 (.mv (.c (.pointer none))),q 5 (.mv (i 0))] (z [m 9 0,j 10 9,f 11 2 10,l 12 1 11,m 13 1,q 14 (.cH (.m (.CF true true true [.v (.bool false),.v (.int .i64 0)])) [.s 12,.s 13]),m 8 14,e 15 0 8,
 e 16 1 8,q 6 (.alloc (some 0) [.v (.bool false),.v (.int .i64 0)]),o 2 6 15,m 7 16] (.seq (.block 0 (z [m 18 7,q 19 (.not (.s 18)),m 17 19] (.cond (.s 17) (z [q 4 (.mv (.c (.pointer none))),
 q 5 (.mv (i 8))] .ret) (z [f 21 0 6,l 22 1 21,m 20 22] (.cond (.s 20) (z [q 4 (.mv (.c (.pointer none))),q 5 (.mv (i 9))] .ret) .skip))))) (.seq (.bp [0,1,2,4,3,5,6,7,8] [m' 23 0,j' 24 23,f' 25 4 24,f' 27 1 6,
 l' 26 1 25,l' 28 1 27,b' 29 2 26 28,m' 4 29,q' 5 (.mv (i 0))]) .ret)))⟩
def Th:SF :=⟨2,28,[.t 4],z [q 4 (.mv (i 0))] (.seq (.block 0 (z [m 9 0,q 10 (.eq .ptr false (.s 9) (.c (.pointer none))),m 8 10] (.cond (.s 8) (z [q 4 (.mv (i 1))] .ret) (z [m 12 0,j 13 12,f 14 5 13,l 15 1 14,
 m 11 15] (.cond (.s 11) (z [q 4 (.mv (i 11))] .ret) .skip))))) (.seq (z [m 16 1,n 17 16,
 q 18 (.mv (i 0))] (.block 1 (.loop (z [q 19 (.int .lss (.s 18) (.s 17))] (.seq (.cond (.s 19) .skip (.exit 1)) (.seq (.block 2 (z [b 20 1 16 18,l 21 1 20,m 6 21] (z [m 22 6,c 23 192 22,m 7 23] (z [m 24 7,
 q 25 (.int .neq (.s 24) (i 0))] (.cond (.s 25) (z [m 26 7,m 4 26] .ret) .skip))))) (.bL [q 27 (.int .add (.s 18) (i 1)),m 18 27]))))))) (z [q 4 (.mv (i 0))] .ret)))⟩
def Ti:SF :=⟨2,8,[],.bL [l 2 1 0,l 3 1 1,q 4 (.aO 1 [.s 3]),q 5 (.aO 1 [.c (.pointer none)]),q 6 (.build [.v (.slice none 0 0),.v (.slice none 0 0)] [(0,1,.s 4),(1,1,.s 5)]),cc 7 364 2 6]⟩
def Tj:SF :=⟨2,37,[.t 4],z [q 4 (.mv (i 0))] (z [m 7 0,j 8 7,f 9 6 8,l 10 1 9,q 11 (.int .add (.s 10) (i 1)),j 12 7,f 13 6 12,o 1 13 11] (.seq (.bp [0,1,2,4,5,6,3,7,8,9] [m' 14 0,j' 15 14,f' 16 7 15,m' 18 0,j' 19 18,f' 20 9 19,
 c' 17 365 16,c' 21 365 20,m' 5 17,m' 6 21]) (.seq (.block 0 (z [m 23 5,m 22 23] (.cond (.s 22) (z [m 24 0,j 25 24,f 26 5 25,⟨none,.store 1 (.s 26) tt,none⟩] (.seq (z [m 27 0,j 28 27,f 29 8 28,
 l 30 1 29] (.cond (.s 30) (.bL [m 31 1,q 32 (.er (.s 31) [])]) .skip)) (z [q 4 (.mv (i 11))] .ret))) (z [m 34 6,m 33 34] (.cond (.s 33) (z [q 4 (.mv (i 12))] .ret) .skip))))) (z [m 35 1,
 q 36 (.er (.s 35) [])] (z [q 4 (.mv (i 0))] .ret)))))⟩
def Tl:SF :=⟨3,37,[.t 6],z [q 3 (.box none 1 (.s 0)),q 4 (.box none 1 (.s 1)),q 5 (.box none 1 (.s 2)),q 6 (.mv (i 0))] (.seq (z [l 11 1 3,l 12 1 4,q 13 (.aO 1 [.s 12]),cc 14 333 11 13,m 7 14] (z [m 15 7,
 q 16 (.int .neq (.s 15) (i 0))] (.cond (.s 16) (z [m 17 7,m 6 17] .ret) .skip))) (.seq (z [l 18 1 3,l 19 1 4,cc 20 350 18 19,m 8 20] (z [m 21 8,q 22 (.int .neq (.s 21) (i 0))] (.cond (.s 22) (z [m 23 8,
 m 6 23] .ret) .skip))) (.seq (.seq (.bp [0,1,2,3,4,9,5,6,7,8,10,11] [l' 25 1 3,j' 26 25,f' 27 2 26,l' 28 1 27,l' 29 1 4,q' 9 (.alloc (some 3) [.v (.bool false),.v (.int .i64 0)]),
 q' 30 (.cH (.m (.CF true true true [.v (.bool false),.v (.int .i64 0)])) [.s 28,.s 29]),m' 24 30,e' 31 0 24,e' 32 1 24,o' 2 9 31,m' 10 32]) (z [m 33 10] (.cond (.s 33) (z [q 6 (.mv (i 7))] .ret) .skip))) (z [l 34 1 3,
 q 35 (.iD 366 [.s 5,.s 3,.s 4]),cc 36 335 34 35,m 6 36] .ret))))⟩
def Tm:SF :=⟨2,15,[.t 3],z [q 3 (.mv (i 0))] (.seq (.seq (.bp [0,1,2,4,5,6,3,7,8,9,10] [l' 4 1 1,q' 5 (.int .lss (.s 4) (i 0)),m' 6 5,jF 8 6 0,x' 9 6 (.gw (.s 8)),x' 10 6 (.dZ 0 (.s 9)),x' 7 6 (.load false 1 (.s 1)),
 x' 11 6 (.load false 1 (.s 10)),x' 12 6 (.len (.s 11)),x' 13 6 (.int .gtr (.s 7) (.s 12)),r' 14 6 13]) (.cond (.s 14) (z [q 3 (.mv (i 13))] .ret) .skip)) (z [q 3 (.mv (i 0))] .ret))⟩
def Tn:SF :=⟨2,22,[],.bp [0,1,2,3,4,10,11,12,5,6,7,8,9,13,14,15,16,17,18,19,20] [m' 3 0,m' 4 0,m' 5 0,j' 6 5,f' 7 0 6,m' 13 0,j' 14 13,f' 15 1 14,l' 8 1 7,l' 9 1 1,l' 10 1 1,q' 11 (.gy 1 (.s 8) none (some (.s 9)) (some (.s 10))),
 l' 12 1 1,l' 16 1 15,q' 17 (.mm false (.s 12) (.s 16)),j' 18 3,f' 19 0 18,⟨o 1 19 11,[12]⟩,j' 20 4,f' 21 1 20,o' 1 21 17]⟩
def To:SF :=⟨4,38,[.t 8],z [q 7 (.box none 1 (.s 3)),q 8 (.mv (i 0))] (.seq (z [m 13 0,m 14 1,q 15 (.aO 1 [.s 14]),cc 16 333 13 15,m 9 16] (z [m 17 9,q 18 (.int .neq (.s 17) (i 0))] (.cond (.s 18) (z [m 19 9,
 m 8 19] .ret) .skip))) (z [m 21 0,m 22 1,cc 23 332 21 22,m 20 23,e 24 0 20,e 25 1 20,q 10 (.alloc none [.v (.pointer none)]),o 1 10 24,m 11 25] (.seq (z [m 26 11,
 q 27 (.int .neq (.s 26) (i 0))] (.cond (.s 27) (z [m 28 11,m 8 28] .ret) .skip)) (.seq (z [m 29 2,l 30 1 10,q 31 (.er (.s 29) [.s 30]),m 12 31] (z [m 32 12,q 33 (.int .neq (.s 32) (i 0))] (.cond (.s 33) (z [m 34 12,
 m 8 34] .ret) .skip))) (z [m 35 0,q 36 (.iD 367 [.s 7,.s 10]),cc 37 335 35 36,m 8 37] .ret)))))⟩
def Tp:SF :=⟨3,15,[.t 4],z [q 4 (.mv (i 0))] (.seq (.seq (.bp [0,1,2,3,4,5,6,7,8,9] [l' 5 1 1,n' 6 5,l' 7 1 2,j' 8 7,f' 9 0 8,l' 10 1 9,l' 11 1 2,⟨c 12 313 11,[0,2,5]⟩,q' 13 (.int .sub (.s 10) (.s 12)),
 q' 14 (.int .gtr (.s 6) (.s 13))]) (.cond (.s 14) (z [q 4 (.mv (i 10))] .ret) .skip)) (z [q 4 (.mv (i 0))] .ret))⟩
def Tq:SF :=⟨2,13,[],.bp [0,1,2,3,4,6,5,7,8,9,10] [m' 3 0,m' 4 0,j' 5 4,f' 6 0 5,l' 7 1 6,l' 9 1 1,⟨c 8 186 7,[5]⟩,q' 10 (.app 1 1 (.s 8) (.s 9)),j' 11 3,f' 12 0 11,o' 1 12 10]⟩
def Ts:SF :=⟨1,3,[.t 2],z [q 2 (.mv (i 0))] (z [q 2 (.mv (i 0))] .ret)⟩
def Tt:SF :=⟨1,10,[],.bL [m 2 0,m 3 0,j 4 3,f 5 0 4,l 6 1 5,n 7 6,j 8 2,f 9 1 8,o 1 9 7]⟩
def Tu:SF :=⟨1,12,[],.bp [0,1,2,3,4,5,6,7,8,9,10,11,12] [l' 1 1 0,l' 2 1 0,l' 3 1 0,j' 4 3,f' 5 2 4,l' 6 1 5,⟨c 7 329 6,[0,1]⟩,j' 8 1,f' 9 1 8,⟨o 1 9 7,[1]⟩,j' 10 2,f' 11 3 10,w ⟨none,.store 1 (.s 11) (.c (.slice none 0 0)),
 none⟩]⟩
def Tv:SF :=⟨2,26,[.t 4,.t 5],z [q 2 (.box (some 0) 9 (.s 0)),q 4 (.mv (.c (.string ⟨#[]⟩))),q 5 (.mv (i 0))] (.seq (z [f 8 4 2,l 9 1 8] (.cond (.s 9) (z [q 4 (.mv (.c (.string ⟨#[]⟩))),q 5 (.mv (i 11))] .ret) .skip)) (z [t 11 9 2,
 m 12 1,cc 13 355 11 12,m 10 13,e 14 0 10,e 15 1 10,q 6 (.alloc (some 1) [.v (.string ⟨#[]⟩),.v (.bool false),.v (.int .i64 0)]),o 3 6 14,m 7 15] (.seq (z [m 16 7,q 17 (.int .neq (.s 16) (i 0))] (.cond (.s 17) (z [m 18 7,
 q 4 (.mv (.c (.string ⟨#[]⟩))),m 5 18] .ret) .skip)) (z [f 19 3 2,l 20 1 19,f 21 2 6,l 22 1 21,b 23 2 20 22,f 24 0 23,l 25 1 24,m 4 25,q 5 (.mv (i 0))] .ret))))⟩
def Tw:SF :=⟨1,48,[.t 2],z [q 1 (.box (some 0) 9 (.s 0)),q 2 (.mv (.c (.slice none 0 0)))] (.seq (z [f 7 4 1,
 l 8 1 7] (.cond (.s 8) (z [q 2 (.mv (.c (.slice none 0 0)))] .ret) .skip)) (z [q 3 (.mv (.c (.slice none 0 0)))] (z [t 9 9 1,c 10 352 9,m 4 10] (.seq (z [q 5 (.mv (i 0))] (.block 0 (.loop (.seq (z [m 11 5,m 12 4,n 13 12,
 q 14 (.int .lss (.s 11) (.s 13))] (.cond (.s 14) .skip (.exit 0))) (.seq (.block 1 (.seq (.bp [0,1,2,3,5,6,7,8,4,9,10,11,12] [m' 17 4,m' 18 5,b' 19 3 17 18,f' 20 0 19,m' 22 4,m' 23 5,b' 24 3 22 23,f' 25 1 24,
 l' 21 1 20,l' 26 1 25,q' 27 (.build [.v (.string ⟨#[]⟩),.v (.bool false),.v (.slice none 0 0)] [(0,1,.s 21),(1,1,.s 26)]),q' 6 (.alloc (some 1) [.v (.string ⟨#[]⟩),.v (.bool false),.v (.slice none 0 0)]),
 o' 3 6 27]) (.seq (z [f 28 1 6,l 29 1 28,q 30 (.not (.s 29))] (.cond (.s 30) (.bp [0,2,3,4,5,1,6,7,8,9,10,11,12] [f' 31 3 1,m' 33 4,m' 34 5,b' 35 3 33 34,f' 36 2 35,l' 32 1 31,l' 37 1 36,b' 38 2 32 37,f' 39 0 38,
 l' 40 1 39,q' 41 (.nd .ZA [.s 40]),f' 42 2 6,o' 1 42 41]) .skip)) (.bL [m 43 3,t 44 3 6,q 45 (.aO 3 [.s 44]),q 46 (.app 3 48 (.s 43) (.s 45)),m 3 46])))) (.bL [m 15 5,q 16 (.int .add (.s 15) (i 1)),
 m 5 16])))))) (z [m 47 3,m 2 47] .ret)))))⟩
def Tx:SF :=⟨1,34,[.t 2],z [q 1 (.box (some 0) 9 (.s 0)),q 2 (.mv (i 0))] (z [q 3 (.mv (i 0))] (z [t 6 9 1,c 7 352 6,m 4 7] (.seq (z [q 5 (.mv (i 0))] (.block 0 (.loop (.seq (z [m 8 5,m 9 4,n 10 9,
 q 11 (.int .lss (.s 8) (.s 10))] (.cond (.s 11) .skip (.exit 0))) (.seq (.block 1 (z [m 14 4,m 15 5,b 16 3 14 15,f 17 1 16,l 18 1 17,q 19 (.not (.s 18))] (.cond (.s 19) (.bp [0,1,3,4,5,6,2,7,8,9,10,11,12,13] [m' 20 3,
 f' 21 3 1,m' 23 4,m' 24 5,b' 25 3 23 24,f' 26 2 25,l' 22 1 21,l' 27 1 26,b' 28 2 22 27,f' 29 0 28,l' 30 1 29,q' 31 (.dF (.s 30)),q' 32 (.int .add (.s 20) (.s 31)),m' 3 32]) .skip))) (.bL [m 12 5,
 q 13 (.int .add (.s 12) (i 1)),m 5 13])))))) (z [m 33 3,m 2 33] .ret))))⟩
def Ty:SF :=⟨2,28,[.t 4],z [q 4 (.mv (i 0))] (z [m 8 1,c 9 164 8,m 5 9] (.seq (z [m 10 5,q 11 (.str .eql (.s 10) (.c (.string ⟨#[]⟩)))] (.cond (.s 11) (z [q 4 (.mv (i 0))] .ret) .skip)) (z [m 13 0,j 14 13,f 15 2 14,l 16 1 15,m 17 5,
 q 18 (.cH (.m (.CF true true true [.v (.bool false),.v (.int .i64 0)])) [.s 16,.s 17]),m 12 18,e 19 0 12,e 20 1 12,q 6 (.alloc (some 0) [.v (.bool false),.v (.int .i64 0)]),o 2 6 19,m 7 20] (.seq (.block 0 (z [m 22 7,
 q 23 (.not (.s 22)),m 21 23] (.cond (.s 21) (z [q 4 (.mv (i 8))] .ret) (z [f 25 0 6,l 26 1 25,q 27 (.not (.s 26)),m 24 27] (.cond (.s 24) (z [q 4 (.mv (i 9))] .ret) .skip))))) (z [q 4 (.mv (i 0))] .ret)))))⟩
def Tz:SF :=⟨4,11,[],.bL [l 4 1 0,l 5 1 1,l 6 1 2,q 7 (.aO 1 [.s 5,.s 6]),q 8 (.aO 1 [.c (.pointer none),.s 3]),q 9 (.build [.v (.slice none 0 0),.v (.slice none 0 0)] [(0,1,.s 7),(1,1,.s 8)]),cc 10 364 4 9]⟩
def TA:SF :=⟨1,22,[.t 2],z [q 1 (.box (some 0) 9 (.s 0)),q 2 (.mv (.c (.slice none 0 0)))] (z [f 5 1 1,l 6 1 5,m 3 6] (.seq (z [q 4 (.mv (i 0))] (.block 0 (.loop (.seq (z [m 7 4,f 8 2 1,l 9 1 8,n 10 9,
 q 11 (.int .lss (.s 7) (.s 10))] (.cond (.s 11) .skip (.exit 0))) (.seq (.block 1 (.bL [m 14 3,f 15 2 1,l 16 1 15,m 17 4,b 18 2 16 17,t 19 2 18,cc 20 368 14 19,m 3 20])) (.bL [m 12 4,q 13 (.int .add (.s 12) (i 1)),
 m 4 13])))))) (z [m 21 3,m 2 21] .ret)))⟩
def TB:SF :=⟨3,62,[.cell 6 true 9,.t 7],z [q 3 (.box (some 0) 9 (.s 0)),q 6 (.alloc (some 1) O1),q 7 (.mv (i 0))] (z [t 13 9 3,m 14 1,cc 15 354 13 14,m 8 15] (.seq (z [m 16 8,
 q 17 (.int .eql (.s 16) (i 0))] (.cond (.s 17) (.bL [t 18 9 3,m 19 1,cc 20 360 18 19,m 8 20]) .skip)) (z [t 22 9 3,m 23 1,cc 24 358 22 23,m 21 24,e 25 0 21,e 26 1 21,q 9 (.alloc (some 2) [.v (.string ⟨#[]⟩),
 .v (.bool false),.v (.int .i64 0)]),o 3 9 25,m 10 26] (.seq (z [m 27 8,q 28 (.int .eql (.s 27) (i 0)),m 29 28,ym 30 29 10,p 31 29 30] (.cond (.s 31) (.bL [q 8 (.mv (i 7))]) .skip)) (.seq (z [m 32 8,
 q 33 (.int .neq (.s 32) (i 0))] (.cond (.s 33) (z [t 34 9 3,m 35 8,o 9 6 34,m 7 35] .ret) .skip)) (z [m 36 1,m 37 2,q 38 (.build [.v (.string ⟨#[]⟩),.v (.bool false),.v (.int .i64 0)] [(0,1,.s 36),(1,1,.s 37)]),
 q 11 (.alloc (some 3) [.v (.string ⟨#[]⟩),.v (.bool false),.v (.int .i64 0)]),o 3 11 38] (z [t 39 9 3,q 12 (.alloc (some 4) O1),o 9 12 39] (.seq (z [m 40 2,q 41 (.not (.s 40))] (.cond (.s 41) (z [f 42 3 3,l 43 1 42,
 n 44 43,f 45 2 11,o 1 45 44] (.bL [q 46 (.aO 2 []),f 47 3 3,l 48 1 47,q 49 (.app 2 24 (.s 46) (.s 48)),q 50 (.build [.v (.string ⟨#[]⟩),.v (.int .i64 0)] []),q 51 (.aO 2 [.s 50]),
 q 52 (.app 2 24 (.s 49) (.s 51)),f 53 3 12,o 1 53 52])) .skip)) (.seq (.bp [0,1,2,3,4,5,6,7,8,9] [t' 54 9 3,t' 55 9 12,t' 56 3 11,q' 57 (.aO 3 [.s 56]),⟨q 58 (.call 359 [.s 55,.c (.slice none 0 0),.s 57]),[0]⟩,
 w (cc 59 357 54 58),e' 60 0 59,e' 61 1 59,o' 9 6 60,m' 7 61]) .ret)))))))))⟩
def TC:SF :=⟨2,9,[.t 4],z [q 2 (.box (some 0) 9 (.s 0)),q 4 (.mv (i 0))] (.seq (z [f 5 4 2,l 6 1 5] (.cond (.s 6) (z [q 4 (.mv (i 11))] .ret) .skip)) (z [m 7 1,c 8 199 7,m 4 8] .ret))⟩
def TD:SF :=⟨2,23,[.cell 4 true 3,.t 5],z [q 2 (.box (some 0) 9 (.s 0)),q 4 (.alloc (some 1) [.v (.string ⟨#[]⟩),.v (.bool false),.v (.int .i64 0)]),q 5 (.mv (i 0))] (z [t 9 9 2,m 10 1,cc 11 358 9 10,m 8 11,e 12 0 8,e 13 1 8,
 q 6 (.alloc (some 2) [.v (.string ⟨#[]⟩),.v (.bool false),.v (.int .i64 0)]),o 3 6 12,m 7 13] (.seq (.block 0 (z [m 15 7,q 16 (.not (.s 15)),m 14 16] (.cond (.s 14) (z [t 17 3 6,o 3 4 17,
 q 5 (.mv (i 8))] .ret) (z [f 19 1 6,l 20 1 19,m 18 20] (.cond (.s 18) (z [t 21 3 6,o 3 4 21,q 5 (.mv (i 9))] .ret) .skip))))) (z [t 22 3 6,o 3 4 22,q 5 (.mv (i 0))] .ret)))⟩
def TE:SF :=⟨3,18,[.cell 6 true 9],z [q 3 (.box (some 0) 9 (.s 0)),q 5 (.box (some 1) 2 (.s 2)),q 6 (.alloc (some 2) O1)] (z [q 7 (.aO 2 []),f 8 3 3,l 9 1 8,q 10 (.app 2 24 (.s 7) (.s 9)),f 11 3 3,o 1 11 10] (z [f 12 3 3,
 l 13 1 12,m 14 1,t 15 2 5,b 16 2 13 14,o 2 16 15] (z [t 17 9 3,o 9 6 17] .ret)))⟩
def TF:SF :=⟨2,62,[.cell 4 true 9,.t 5],z [q 2 (.box (some 0) 9 (.s 0)),q 3 (.box (some 1) 9 (.s 1)),q 4 (.alloc (some 2) O1),q 5 (.mv (i 0))] (z [f 8 5 2,l 9 1 8,q 10 (.int .add (.s 9) (i 1)),f 11 5 2,o 1 11 10] (.seq (.bp [0,3,
 1,2,6,4,5,7] [f' 12 6 2,f' 15 8 2,l' 13 1 12,q' 14 (.int .eql (.s 13) (i 0)),m' 6 14,l' 16 1 15,q' 17 (.int .eql (.s 16) (i 0)),m' 7 17]) (.seq (z [f 18 6 2,l 19 1 18,
 q 20 (.int .geq (.s 19) (i 0))] (.cond (.s 20) (.bL [f 21 6 2,l 22 1 21,q 23 (.int .sub (.s 22) (i 1)),f 24 6 2,o 1 24 23]) .skip)) (.seq (z [f 25 8 2,l 26 1 25,
 q 27 (.int .geq (.s 26) (i 0))] (.cond (.s 27) (.bL [f 28 8 2,l 29 1 28,q 30 (.int .sub (.s 29) (i 1)),f 31 8 2,o 1 31 30]) .skip)) (.seq (z [m 32 6,m 33 32,y 34 33 (.dZ 7 (.s 2)),y 35 33 (.load false 1 (.s 34)),
 y 36 33 (.not (.s 35)),p 37 33 36,m 38 37,xm 39 38 7,xm 40 38 39,ym 41 40 6,y 42 40 (.not (.s 41)),x 43 38 (.pick (.s 40) (.s 42) ff),r 44 38 43] (.cond (.s 44) (.seq (z [m 45 6] (.cond (.s 45) (z [f 46 4 2,⟨none,
 .store 1 (.s 46) tt,none⟩] (z [t 47 9 2,o 9 4 47,q 5 (.mv (i 11))] .ret)) .skip)) (z [t 48 9 2,o 9 4 48,q 5 (.mv (i 12))] .ret)) .skip)) (.seq (.bp [0,2,4,1,6,3,5,7,8,9,10,11] [f' 49 5 2,f' 51 6 2,f' 53 8 2,l' 50 1 49,
 f' 55 5 3,l' 52 1 51,l' 54 1 53,⟨o 1 55 50,[5,6]⟩,f' 56 6 3,⟨o 1 56 52,[6]⟩,f' 57 8 3,o' 1 57 54]) (.seq (z [m 58 6] (.cond (.s 58) (z [f 59 4 3,⟨none,.store 1 (.s 59) tt,none⟩] (z [t 60 9 3,o 9 4 60,
 q 5 (.mv (i 11))] .ret)) .skip)) (z [t 61 9 3,o 9 4 61,q 5 (.mv (i 0))] .ret))))))))⟩
def TG:SF :=⟨2,28,[.cell 4 true 3,.t 5],z [q 2 (.box (some 0) 9 (.s 0)),q 4 (.alloc (some 1) [.v (.string ⟨#[]⟩),.v (.bool false),.v (.int .i64 0)]),q 5 (.mv ff)] (z [t 8 9 2,c 9 352 8,
 m 6 9] (.seq (z [q 7 (.mv (i 0))] (.block 0 (.loop (.seq (z [m 10 7,m 11 6,n 12 11,q 13 (.int .lss (.s 10) (.s 12))] (.cond (.s 13) .skip (.exit 0))) (.seq (.block 1 (z [m 16 6,m 17 7,b 18 3 16 17,f 19 0 18,l 20 1 19,
 m 21 1,q 22 (.str .eql (.s 20) (.s 21))] (.cond (.s 22) (z [m 23 6,m 24 7,b 25 3 23 24,t 26 3 25,o 3 4 26,q 5 (.mv tt)] .ret) .skip))) (.bL [m 14 7,q 15 (.int .add (.s 14) (i 1)),
 m 7 15])))))) (z [q 27 (.build [.v (.string ⟨#[]⟩),.v (.bool false),.v (.int .i64 0)] []),o 3 4 27,q 5 (.mv ff)] .ret)))⟩
def TH:SF :=⟨3,19,[.cell 6 true 9],z [q 3 (.box (some 0) 9 (.s 0)),q 6 (.alloc (some 1) O1)] (z [q 7 (.mv (.c (.slice none 0 0)))] (z [m 8 7,f 9 2 3,l 10 1 9,q 11 (.app 2 48 (.s 8) (.s 10)),m 12 1,m 13 2,
 q 14 (.build [.v (.slice none 0 0),.v (.slice none 0 0)] [(0,1,.s 12),(1,1,.s 13)]),q 15 (.aO 2 [.s 14]),q 16 (.app 2 48 (.s 11) (.s 15)),f 17 2 3,o 1 17 16] (z [t 18 9 3,o 9 6 18] .ret)))⟩
def TI:SF :=⟨2,25,[.t 4],z [q 2 (.box (some 0) 9 (.s 0)),q 4 (.mv (i 0))] (z [m 8 1,c 9 170 8,m 5 9] (.seq (z [m 10 5,q 11 (.str .eql (.s 10) (.c (.string ⟨#[]⟩)))] (.cond (.s 11) (z [q 4 (.mv (i 0))] .ret) .skip)) (z [t 13 9 2,
 m 14 5,cc 15 358 13 14,m 12 15,e 16 0 12,e 17 1 12,q 6 (.alloc (some 1) [.v (.string ⟨#[]⟩),.v (.bool false),.v (.int .i64 0)]),o 3 6 16,m 7 17] (.seq (.block 0 (z [m 19 7,q 20 (.not (.s 19)),
 m 18 20] (.cond (.s 18) (z [q 4 (.mv (i 8))] .ret) (z [f 22 1 6,l 23 1 22,q 24 (.not (.s 23)),m 21 24] (.cond (.s 21) (z [q 4 (.mv (i 9))] .ret) .skip))))) (z [q 4 (.mv (i 0))] .ret)))))⟩
def TJ:SF :=⟨1,4,[.t 2],z [q 1 (.box none 1 (.s 0)),q 2 (.mv (.c .nilFunc))] (z [q 3 (.iD 369 [.s 1]),m 2 3] .ret)⟩
def TK:SF :=⟨2,14,[],z [m 5 0,n 6 5,m 4 6] (.bL [m 7 0,m 8 4,m 9 4,q 10 (.conv .u64 (.s 9)),q 11 .dead,m 12 1,q 13 .dead])⟩
def MH:SF :=⟨2,13,[.t 4],z [q 4 (.mv (i 0))] (.seq (.block 0 (z [m 6 0,m 7 1,cc 8 163 6 7,m 5 8] (.cond (.s 5) (z [q 4 (.mv (i (-1)))] .ret) (z [m 10 1,m 11 0,cc 12 163 10 11,
 m 9 12] (.cond (.s 9) (z [q 4 (.mv (i 1))] .ret) .skip))))) (z [q 4 (.mv (i 0))] .ret))⟩
def TL:SF :=⟨2,31,[],z [q 3 (.box (some 0) 2 (.s 1))] (.seq (.bp [0,1,2,3,4,5] [m' 4 0,j' 5 4,f' 6 2 5,l' 7 1 6,t' 8 2 3,w (cc 9 330 7 8)]) (.bp [0,1,2,3,5,6,7,10,11,12,4,8,9,13,14,15,16,17,18,19,20,21] [m' 10 0,m' 11 0,
 j' 12 11,f' 13 3 12,m' 15 0,j' 16 15,f' 17 3 16,m' 20 0,j' 21 20,f' 22 3 21,l' 14 1 13,l' 18 1 17,n' 19 18,l' 23 1 22,n' 24 23,q' 25 (.gy 2 (.s 14) none (some (.s 19)) (some (.s 24))),t' 26 2 3,
 q' 27 (.aO 2 [.s 26]),q' 28 (.app 2 48 (.s 25) (.s 27)),j' 29 10,f' 30 3 29,o' 1 30 28]))⟩
def TM:SF :=⟨1,16,[.t 2],z [q 2 (.mv ff)] (.seq (z [m 3 0,j 4 3,l 5 1 4,q 6 (.int .eql (.s 5) (i (-1)))] (.cond (.s 6) (z [q 2 (.mv ff)] .ret) .skip)) (z [m 7 0,j 8 7,l 9 1 8,q 10 (.int .sub (.s 9) (i 1)),j 11 7,
 o 1 11 10] (z [m 12 0,j 13 12,l 14 1 13,q 15 (.int .eql (.s 14) (i (-1))),m 2 15] .ret)))⟩
def TN:SF :=⟨3,34,[],z [l 4 1 0,q 5 (.build [.v (.bool false),.v (.int .i64 0)] [(0,1,.s 4)]),q 6 (.box none 2 (.s 5)),m 3 6] (.seq (z [l 7 1 0,q 8 (.not (.s 7))] (.cond (.s 8) (z [m 9 3,l 10 1 1,j 11 10,f 12 4 11,l 13 1 12,n 14 13,
 j 15 9,f 16 1 15,o 1 16 14] (.bp [5,6,0,1,2,3,4,7,8,9,10] [q' 22 (.build [.v (.slice none 0 0),.v (.int .i64 0)] []),q' 23 (.aO 2 [.s 22]),l' 17 1 1,l' 18 1 1,j' 19 18,f' 20 4 19,l' 21 1 20,
 ⟨q 24 (.app 2 32 (.s 21) (.s 23)),[2]⟩,j' 25 17,f' 26 4 25,o' 1 26 24])) .skip)) (.bL [l 27 1 1,l 28 1 2,q 29 (.aO 1 [.s 28]),m 30 3,q 31 (.aO 1 [.s 30]),q 32 (.build [.v (.slice none 0 0),
 .v (.slice none 0 0)] [(0,1,.s 29),(1,1,.s 31)]),cc 33 364 27 32]))⟩
def TO:SF :=⟨2,5,[],.bL [l 2 1 0,l 3 1 1,q 4 (.er (.s 2) [.s 3])]⟩
def TP:SF :=⟨2,62,[.t 4],z [q 3 (.box (some 0) 2 (.s 1)),q 4 (.mv (.c (.slice none 0 0)))] (z [q 5 (.mv (.c (.slice none 0 0)))] (.seq (z [q 6 (.mv (i 0))] (.block 0 (.loop (.seq (z [m 10 6,m 11 0,n 12 11,
 q 13 (.int .lss (.s 10) (.s 12))] (.cond (.s 13) .skip (.exit 0))) (.seq (.block 1 (z [q 7 (.mv ff)] (.seq (z [q 8 (.mv (i 0))] (.block 2 (.loop (.seq (z [m 16 8,f 17 0 3,l 18 1 17,n 19 18,
 q 20 (.int .lss (.s 16) (.s 19))] (.cond (.s 20) .skip (.exit 2))) (.seq (.block 3 (.bp [0,1,2,4,8,9,10,11,3,5,6,7,12,13,14,15] [m' 23 7,m' 24 23,x' 25 24 (.dZ 0 (.s 3)),jF 27 24 8,jF 31 24 0,jF 32 24 6,
 x' 33 24 (.idx 3 (.s 31) (.s 32)),x' 34 24 (.dZ 0 (.s 33)),x' 26 24 (.load false 1 (.s 25)),x' 28 24 (.idx 3 (.s 26) (.s 27)),x' 29 24 (.dZ 0 (.s 28)),x' 30 24 (.load false 1 (.s 29)),x' 35 24 (.load false 1 (.s 34)),
 x' 36 24 (.str .eql (.s 30) (.s 35)),r' 37 24 36,m' 7 37])) (.bL [m 21 8,q 22 (.int .add (.s 21) (i 1)),m 8 22])))))) (z [m 38 7,q 39 (.not (.s 38))] (.cond (.s 39) (.bL [m 40 5,m 41 0,m 42 6,b 43 3 41 42,t 44 3 43,
 q 45 (.aO 3 [.s 44]),q 46 (.app 3 32 (.s 40) (.s 45)),m 5 46]) .skip))))) (.bL [m 14 6,q 15 (.int .add (.s 14) (i 1)),m 6 15])))))) (.seq (z [q 9 (.mv (i 0))] (.block 4 (.loop (.seq (z [m 47 9,f 48 1 3,l 49 1 48,
 n 50 49,q 51 (.int .lss (.s 47) (.s 50))] (.cond (.s 51) .skip (.exit 4))) (.seq (.block 5 (.bL [m 54 5,f 55 1 3,l 56 1 55,m 57 9,b 58 3 56 57,t 59 3 58,cc 60 370 54 59,m 5 60])) (.bL [m 52 9,
 q 53 (.int .add (.s 52) (i 1)),m 9 53])))))) (z [m 61 5,m 4 61] .ret))))⟩
def TQ:SF :=⟨2,14,[],z [l 4 1 1,q 5 (.cH (.m .PY) [.s 4])] (.block 0 (.loop (z [q 6 (.cH (.m .UB) [.s 5]),e 7 0 6] (.seq (.cond (.s 7) .skip (.exit 0)) (.block 1 (z [q 8 (.cH (.m .UD) [.s 5]),e 9 0 8,m 3 9] (z [m 10 0,m 11 3,
 q 12 (.er (.s 10) [.s 11]),q 13 (.not (.s 12))] (.cond (.s 13) .ret .skip))))))))⟩
def TR:SF :=⟨2,35,[.t 4],z [q 3 (.box (some 0) 3 (.s 1)),q 4 (.mv (.c (.slice none 0 0)))] (z [q 5 (.mv (i 0))] (.seq (.block 0 (.loop (.seq (.seq (.bp [0,1,2,3,4,5,6,7,8,10,9,11,12,13] [m' 7 5,m' 8 0,n' 9 8,
 q' 10 (.int .lss (.s 7) (.s 9)),m' 11 10,xI 12 11 0,xI 13 11 5,y' 14 11 (.idx 3 (.s 12) (.s 13)),y' 15 11 (.dZ 0 (.s 14)),y' 17 11 (.dZ 0 (.s 3)),y' 16 11 (.load false 1 (.s 15)),y' 18 11 (.load false 1 (.s 17)),
 y' 19 11 (.call 176 [.s 16,.s 18]),p' 20 11 19]) (.cond (.s 20) .skip (.exit 0))) (.block 1 (.bL [m 21 5,q 22 (.int .add (.s 21) (i 1)),m 5 22]))))) (z [q 6 (.mv (.c (.slice none 0 0)))] (.seq (.bp [0,1,2,3,8,9,10,5,
 6,4,7,11,12] [m' 23 6,m' 24 0,m' 25 5,q' 26 (.gy 3 (.s 24) none (some (.s 25)) none),m' 31 0,m' 32 5,q' 33 (.gy 3 (.s 31) (some (.s 32)) none none),t' 28 3 3,q' 29 (.aO 3 [.s 28]),⟨q 27 (.app 3 32 (.s 23) (.s 26)),
 [7]⟩,q' 30 (.app 3 32 (.s 27) (.s 29)),q' 34 (.app 3 32 (.s 30) (.s 33)),m' 4 34]) .ret))))⟩
def Afr:SF :=⟨2,63,[.t 4],z [q 4 (.mv ff)] (.seq (z [m 6 0,n 7 6,m 8 1,q 9 (.int .gtr (.s 7) (.s 8))] (.cond (.s 9) (z [q 4 (.mv ff)] .ret) .skip)) (.seq (z [q 5 (.mv (i 0))] (.block 0 (.loop (.seq (z [m 10 5,m 11 0,n 12 11,
 q 13 (.int .lss (.s 10) (.s 12))] (.cond (.s 13) .skip (.exit 0))) (.seq (.block 1 (z [m 16 0,m 17 5,b 18 44 16 17,f 19 1 18,f 20 2 19,l 21 1 20,q 22 (.dF (.s 21)),q 23 (.int .gtr (.s 22) (i 300)),m 24 23,xm 25 24 0,
 xm 26 24 5,x 27 24 (.idx 44 (.s 25) (.s 26)),x 28 24 (.dZ 38 (.s 27)),x 29 24 (.dZ 3 (.s 28)),x 30 24 (.load false 1 (.s 29)),x 31 24 (.len (.s 30)),x 32 24 (.int .gtr (.s 31) (i 300)),r 33 24 32,m 34 33,xm 35 34 0,
 xm 36 34 5,x 37 34 (.idx 44 (.s 35) (.s 36)),x 38 34 (.dZ 38 (.s 37)),x 39 34 (.dZ 1 (.s 38)),x 40 34 (.load false 1 (.s 39)),x 41 34 (.dF (.s 40)),x 42 34 (.int .gtr (.s 41) (i 300)),r 43 34 42,m 44 43,xm 45 44 0,
 xm 46 44 5,x 47 44 (.idx 44 (.s 45) (.s 46)),x 48 44 (.dZ 38 (.s 47)),x 49 44 (.dZ 2 (.s 48)),x 50 44 (.load false 1 (.s 49)),x 51 44 (.dF (.s 50)),x 52 44 (.int .gtr (.s 51) (i 300)),r 53 44 52,m 54 53,xm 55 54 0,
 xm 56 54 5,x 57 54 (.idx 44 (.s 55) (.s 56)),x 58 54 (.dZ 1 (.s 57)),x 59 54 (.dZ 1 (.s 58)),x 60 54 (.load false 1 (.s 59)),x 61 54 (.int .gtr (.s 60) (i 2199023255552)),
 r 62 54 61] (.cond (.s 62) (z [q 4 (.mv ff)] .ret) .skip))) (.bL [m 14 5,q 15 (.int .add (.s 14) (i 1)),m 5 15])))))) (z [q 4 (.mv tt)] .ret)))⟩
def TT:SF :=⟨0,81,[.t 0],z [q 0 (.mv ff)] (z [q 6 (.call 294 [i 1000]),m 1 6] (z [m 8 1,c 9 379 8,m 7 9,e 10 0 7,e 11 1 7,m 2 10,m 3 11] (.seq (z [m 12 3,q 13 (.int .neq (.s 12) (i 0)),m 14 13,xm 15 14 2,
 x 16 14 (.eq .ptr false (.s 15) (.c (.pointer none))),r 17 14 16,m 18 17,xm 19 18 1,x 20 18 (.call 315 [.s 19]),x 21 18 (.int .neq (.s 20) (i 3)),r 22 18 21,m 23 22,xm 24 23 2,x 25 23 (.build fA [(2,1,
 .c (.string ⟨#[97]⟩)),(35,1,i 3)]),x 26 23 (.call 386 [.s 24,.s 25]),x 27 23 (.int .neq (.s 26) (i 0)),r 28 23 27,m 29 28,xm 30 29 2,x 31 29 (.build fA [(2,1,.c (.string ⟨#[97]⟩))]),x 32 29 (.call 386 [.s 30,.s 31]),
 x 33 29 (.int .neq (.s 32) (i 16)),r 34 29 33] (.cond (.s 34) (z [q 0 (.mv ff)] .ret) .skip)) (z [m 35 1,q 36 (.call 297 [.s 35,i 0,.c (.slice none 0 0)])] (z [m 38 1,c 39 379 38,m 37 39,e 40 0 37,e 41 1 37,m 4 40,
 m 5 41] (z [m 42 5,q 43 (.int .eql (.s 42) (i 0)),m 44 43,ym 45 44 4,y 46 44 (.call 380 [.s 45]),y 47 44 (.field false 0 1 (.s 46)),y 48 44 (.len (.s 47)),y 49 44 (.int .eql (.s 48) (i 1)),p 50 44 49,m 51 50,ym 52 51 4,
 y 53 51 (.call 380 [.s 52]),y 54 51 (.field false 1 1 (.s 53)),y 55 51 (.int .eql (.s 54) (i 1)),p 56 51 55,m 57 56,ym 58 57 4,y 59 57 (.call 382 [.s 58]),y 60 57 (.int .eql (.s 59) (i 0)),p 61 57 60,m 62 61,ym 63 62 4,
 y 64 62 (.call 388 [.s 63]),y 65 62 (.not (.s 64)),p 66 62 65,m 67 66,y 68 67 (.call 396 [i 12]),y 69 67 (.str .eql (.s 68) (.c (.string ⟨#[46,115,117,109,112,116,101,114,45,116,49,50]⟩))),p 70 67 69,m 71 70,
 q 72 (.pick (.s 71) tt ff),m 73 72,q 74 (.pick (.s 73) tt ff),m 75 74,q 76 (.pick (.s 75) tt ff),m 77 76,q 78 (.pick (.s 77) tt ff),m 79 78,q 80 (.pick (.s 79) tt ff),m 0 80] .ret))))))⟩
def TU:SF :=⟨1,82,[.t 2,.t 3],z [q 2 (.mv (.c (.pointer none))),q 3 (.mv (i 0))] (.seq (z [m 16 0,q 17 (.eq .ptr false (.s 16) (.c (.pointer none)))] (.cond (.s 17) (z [q 2 (.mv (.c (.pointer none))),
 q 3 (.mv (i 1))] .ret) .skip)) (.seq (z [m 18 0,c 19 398 18,m 4 19] (z [m 20 4,q 21 (.int .neq (.s 20) (i 0))] (.cond (.s 21) (z [m 22 4,q 2 (.mv (.c (.pointer none))),m 3 22] .ret) .skip))) (z [m 24 0,
 q 25 (.call 300 [.s 24,.c (.string ⟨#[46,115,117,109,112,116,101,114]⟩)]),m 23 25,e 26 0 23,e 27 1 23,m 5 26,m 6 27] (.seq (z [m 28 6,q 29 (.int .eql (.s 28) (i 8))] (.cond (.s 29) (.bL [m 30 0,q 31 (.call 299 [.s 30,
 .c (.string ⟨#[46,115,117,109,112,116,101,114]⟩)]),m 6 31]) .skip)) (.seq (z [m 32 6,q 33 (.int .neq (.s 32) (i 0))] (.cond (.s 33) (z [m 34 6,q 2 (.mv (.c (.pointer none))),m 3 34] .ret) .skip)) (.seq (z [m 35 0,
 c 36 304 35,m 7 36] (z [m 37 7,q 38 (.int .neq (.s 37) (i 0))] (.cond (.s 38) (z [m 39 7,q 2 (.mv (.c (.pointer none))),m 3 39] .ret) .skip))) (z [m 41 5,c 42 399 41,m 40 42,e 43 0 40,e 44 1 40,e 45 2 40,m 8 43,m 9 44,
 m 10 45] (z [m 47 8,c 48 400 47,m 46 48,e 49 0 46,e 50 1 46,q 11 (.alloc (some 0) [.v (.slice none 0 0),.v (.int .i64 0)]),o 2 11 49,m 12 50] (.seq (.bp [0,2,3,4,1,5,6,7,8,9] [m' 51 0,m' 53 8,m' 54 12,
 q' 55 (.gy 37 (.s 53) none (some (.s 54)) none),t' 52 2 11,⟨c 56 401 55,[4]⟩,n' 57 56,q' 58 (.build [.v (.pointer none),.v (.slice none 0 0),.v (.int .i64 0),.v (.int .i64 0),.v (.bool false)] [(0,1,.s 51),(1,2,.s 52),
 (3,1,.s 57)]),q' 59 (.box none 5 (.s 58)),m' 13 59]) (.seq (z [m 60 5,n 61 60,m 62 13,j 63 62,f 64 3 63,l 65 1 64,q 66 (.int .gtr (.s 61) (.s 65))] (.cond (.s 66) (z [m 67 0,m 68 13,j 69 68,f 70 3 69,l 71 1 70,
 q 72 (.call 301 [.s 67,.c (.string ⟨#[46,115,117,109,112,116,101,114]⟩),.s 71]),m 14 72] (z [m 73 14,q 74 (.int .neq (.s 73) (i 0))] (.cond (.s 74) (z [m 75 14,q 2 (.mv (.c (.pointer none))),
 m 3 75] .ret) .skip))) .skip)) (.seq (z [m 76 0,q 77 (.call 303 [.s 76,.c (.string ⟨#[46,115,117,109,112,116,101,114]⟩)]),m 15 77] (z [m 78 15,q 79 (.int .neq (.s 78) (i 0))] (.cond (.s 79) (z [m 80 15,
 q 2 (.mv (.c (.pointer none))),m 3 80] .ret) .skip))) (z [m 81 13,m 2 81,q 3 (.mv (i 0))] .ret))))))))))))⟩
def TV:SF :=⟨1,16,[.cell 2 true 2],z [q 2 (.alloc (some 0) [.v (.slice none 0 0),.v (.int .i64 0)])] (.seq (z [m 4 0,q 5 (.eq .ptr false (.s 4) (.c (.pointer none)))] (.cond (.s 5) (z [q 6 (.build [.v (.slice none 0 0),
 .v (.int .i64 0)] []),o 2 2 6] .ret) .skip)) (z [m 7 0,j 8 7,f 9 1 8,t 10 2 9,q 3 (.alloc (some 1) [.v (.slice none 0 0),.v (.int .i64 0)]),o 2 3 10] (z [f 11 0 3,l 12 1 11,c 13 402 12,f 14 0 3,o 1 14 13] (z [t 15 2 3,
 o 2 2 15] .ret))))⟩
def TW:SF :=⟨1,48,[.t 2],z [q 1 (.box none 1 (.s 0)),q 2 (.mv (i 0))] (.seq (z [l 6 1 1,c 7 404 6,m 3 7] (z [m 8 3,q 9 (.int .neq (.s 8) (i 0))] (.cond (.s 9) (z [m 10 3,m 2 10] .ret) .skip))) (z [l 11 1 1,j 12 11,f 13 1 12,
 t 14 2 13,c 15 405 14,c 16 401 15,q 4 (.alloc none [.v (.slice none 0 0)]),o 1 4 16] (z [q 17 (.iD 406 [.s 1]),q 18 (.iD 407 [.s 1]),q 19 (.iD 408 [.s 1,.s 4]),q 20 (.iD 409 [.s 1]),q 21 (.iD 410 [.s 1]),
 q 22 (.aO 1 [.s 17,.s 18,.s 19,.s 20,.s 21]),c 23 411 22,m 5 23] (.seq (z [m 24 5,q 25 (.int .neq (.s 24) (i 0))] (.cond (.s 25) (z [l 26 1 1,j 27 26,f 28 0 27,l 29 1 28,q 30 (.call 298 [.s 29,.c (.string ⟨#[46,115,
 117,109,112,116,101,114,45,110,101,119]⟩)])] (z [m 31 5,m 2 31] .ret)) .skip)) (z [l 32 1 1,l 33 1 4,n 34 33,j 35 32,f 36 3 35,o 1 36 34] (z [l 37 1 1,j 38 37,f 39 0 38,l 40 1 39,c 41 304 40,m 5 41] (z [l 42 1 1,m 43 5,
 q 44 (.int .neq (.s 43) (i 0)),j 45 42,f 46 4 45,o 1 46 44] (z [m 47 5,m 2 47] .ret))))))))⟩
def TX:SF :=⟨1,16,[.cell 2 true 37],z [q 1 (.box (some 0) 37 (.s 0)),q 2 (.alloc (some 1) fA)] (z [f 3 0 1,l 4 1 3,f 5 1 1,l 6 1 5,f 7 2 1,l 8 1 7,f 9 3 1,t 10 32 9,f 11 35 1,l 12 1 11,f 13 36 1,l 14 1 13,q 15 (.build fA [(0,1,
 .s 4),(1,1,.s 6),(2,1,.s 8),(3,32,.s 10),(35,1,.s 12),(36,1,.s 14)]),o 37 2 15] .ret)⟩
def TY:SF :=⟨1,53,[.t 2],z [q 1 (.box (some 0) 37 (.s 0)),q 2 (.mv (i 0))] (z [f 5 0 1,l 6 1 5,f 7 1 1,l 8 1 7,f 9 36 1,l 10 1 9,q 11 (.build fA [(0,1,.s 6),(1,1,.s 8),(36,1,.s 10)]),q 3 (.alloc (some 1) fA),
 o 37 3 11] (.seq (.block 0 (z [f 13 0 1,l 14 1 13,q 15 (.int .gtr (.s 14) (u 4)),m 16 15,x 17 16 (.dZ 1 (.s 1)),x 18 16 (.load false 1 (.s 17)),x 19 16 (.int .lss (.s 18) (i 0)),r 20 16 19,m 21 20,
 x 22 21 (.dZ 1 (.s 1)),x 23 21 (.load false 1 (.s 22)),x 24 21 (.int .gtr (.s 23) (i 1099511627776)),r 25 21 24,m 12 25] (.cond (.s 12) (z [q 2 (.mv (i 2))] .ret) (z [f 27 0 1,l 28 1 27,q 29 (.int .eql (.s 28) (u 0)),
 m 26 29] (.cond (.s 26) (z [t 30 37 1,c 31 412 30,m 4 31] (z [m 32 4,q 33 (.int .neq (.s 32) (i 0))] (.cond (.s 33) (z [m 34 4,m 2 34] .ret) .skip))) (z [t 36 37 1,t 37 37 3,q 38 (.eq (.ag [.i,.i,.s,.i,.i,.i,.i,.i,.i,.i,
 .i,.i,.i,.i,.i,.i,.i,.i,.i,.i,.i,.i,.i,.i,.i,.i,.i,.i,.i,.i,.i,.i,.i,.i,.i,.i,.i]) true (.s 36) (.s 37)),m 35 38] (.cond (.s 35) (z [q 2 (.mv (i 4))] .ret) .skip))))))) (.seq (.block 1 (z [f 40 36 1,l 41 1 40,
 c 42 413 41,q 43 (.not (.s 42)),m 39 43] (.cond (.s 39) (z [q 2 (.mv (i 13))] .ret) (z [f 45 36 1,l 46 1 45,q 47 (.int .neq (.s 46) (i 0)),m 48 47,y 49 48 (.dZ 0 (.s 1)),y 50 48 (.load false 1 (.s 49)),
 y 51 48 (.int .neq (.s 50) (u 1)),p 52 48 51,m 44 52] (.cond (.s 44) (z [q 2 (.mv (i 4))] .ret) .skip))))) (z [q 2 (.mv (i 0))] .ret))))⟩
def TZ:SF :=⟨2,85,[.cell 4 true 2,.t 5],z [q 2 (.box (some 0) 2 (.s 0)),q 3 (.box none 37 (.s 1)),q 4 (.alloc (some 2) [.v (.slice none 0 0),.v (.int .i64 0)]),q 5 (.mv ff)] (z [t 7 2 2,c 8 414 7,o 2 2 8] (z [f 9 0 2,l 10 1 9,
 q 11 (.iD 415 [.s 3]),cc 12 416 10 11,m 6 12] (.seq (z [f 13 0 3,l 14 1 13] (.block 0 (z [q 16 (.int .eql (.s 14) (u 0)),m 15 16] (.cond (.s 15) (z [t 17 2 2,t 18 37 3,cc 19 417 17 18,e 20 0 19,e 21 1 19,o 2 4 20,
 m 5 21] .ret) (z [q 23 (.int .eql (.s 14) (u 4)),m 22 23] (.cond (.s 22) (.seq (z [f 24 1 3,l 25 1 24,f 26 1 2,l 27 1 26,q 28 (.int .lss (.s 25) (.s 27))] (.cond (.s 28) (z [t 29 2 2,o 2 4 29,
 q 5 (.mv ff)] .ret) .skip)) (z [f 30 1 3,l 31 1 30,q 32 (.int .add (.s 31) (i 1)),f 33 1 2,o 1 33 32] (z [t 34 2 2,o 2 4 34,q 5 (.mv tt)] .ret))) (z [q 36 (.int .eql (.s 14) (u 1)),
 m 35 36] (.cond (.s 35) (.seq (.seq (.bp [0,1,2,3,5,7,4,6,8,9,10,11,12,13,14,16,18,15,17,19,20,21,22,23] [m' 37 6,q' 38 (.int .lss (.s 37) (i 0)),m' 39 38,x' 40 39 (.dZ 36 (.s 3)),x' 42 39 (.dZ 0 (.s 2)),jF 44 39 6,
 x' 41 39 (.load false 1 (.s 40)),x' 43 39 (.load false 1 (.s 42)),x' 45 39 (.idx 36 (.s 43) (.s 44)),x' 46 39 (.dZ 35 (.s 45)),x' 47 39 (.load false 1 (.s 46)),x' 48 39 (.int .lss (.s 41) (.s 47)),r' 49 39 48,m' 50 49,
 x' 51 50 (.dZ 36 (.s 3)),x' 53 50 (.dZ 0 (.s 2)),jF 55 50 6,x' 52 50 (.load false 1 (.s 51)),x' 54 50 (.load false 1 (.s 53)),x' 56 50 (.idx 36 (.s 54) (.s 55)),x' 57 50 (.dZ 34 (.s 56)),
 x' 58 50 (.load false 1 (.s 57)),x' 59 50 (.int .gtr (.s 52) (.s 58)),r' 60 50 59]) (.cond (.s 60) (z [t 61 2 2,o 2 4 61,q 5 (.mv ff)] .ret) .skip)) (z [f 62 0 2,l 63 1 62,m 64 6,f 65 36 3,l 66 1 65,b 67 36 63 64,
 f 68 35 67,o 1 68 66] (z [t 69 2 2,o 2 4 69,q 5 (.mv tt)] .ret))) (.seq (z [q 71 (.int .eql (.s 14) (u 2)),m 70 71] (.cond (.s 70) .skip (.bL [q 72 (.int .eql (.s 14) (u 3)),m 70 72]))) (.cond (.s 70) (.seq (z [m 73 6,
 q 74 (.int .lss (.s 73) (i 0))] (.cond (.s 74) (z [t 75 2 2,o 2 4 75,q 5 (.mv ff)] .ret) .skip)) (z [f 76 0 2,l 77 1 76,m 78 6,m 79 6,q 80 (.int .add (.s 79) (i 1)),q 81 (.call 418 [.s 77,.s 78,.s 80]),f 82 0 2,
 o 1 82 81] (z [t 83 2 2,o 2 4 83,q 5 (.mv tt)] .ret))) .skip)))))))))) (z [t 84 2 2,o 2 4 84,q 5 (.mv ff)] .ret))))⟩
def T0:SF :=⟨2,39,[.cell 4 false 1],z [q 2 (.box none 1 (.s 0)),q 3 (.box (some 1) 37 (.s 1)),q 4 (.alloc none [.v (.int .i64 0)])] (.seq (z [l 10 1 2,c 11 404 10,m 5 11] (z [m 12 5,
 q 13 (.int .neq (.s 12) (i 0))] (.cond (.s 13) (z [m 14 5,o 1 4 14] .ret) .skip))) (.seq (z [t 15 37 3,c 16 384 15,m 6 16] (z [m 17 6,q 18 (.int .neq (.s 17) (i 0))] (.cond (.s 18) (z [m 19 6,
 o 1 4 19] .ret) .skip))) (.seq (.bp [0,1,2,3,4,5,6,7,8,9,10,11] [l' 21 1 2,j' 22 21,f' 23 1 22,t' 24 2 23,t' 25 37 3,w (cc 26 385 24 25),m' 20 26,e' 27 0 20,e' 28 1 20,q' 7 (.alloc none [.v (.slice none 0 0),
 .v (.int .i64 0)]),o' 2 7 27,m' 8 28]) (.seq (z [m 29 8,q 30 (.not (.s 29))] (.cond (.s 30) (z [⟨none,.store 1 (.s 4) (i 16),none⟩] .ret) .skip)) (z [t 31 37 3,q 32 (.aO 37 [.s 31]),c 33 401 32,
 q 9 (.alloc none [.v (.slice none 0 0)]),o 1 9 33] (.P7 [q 34 (.iD 419 [.s 4,.s 2,.s 7,.s 9])] (.s 34) [] 419 (z [q 35 (.iD 420 [.s 2,.s 9]),q 36 (.iD 421 [.s 2]),q 37 (.aO 1 [.s 35,.s 36]),c 38 411 37,
 o 1 4 38] .ret)))))))⟩
def T1:SF :=⟨1,9,[.t 2],z [q 2 (.mv (i 0))] (.seq (z [m 3 0,q 4 (.eq .ptr false (.s 3) (.c (.pointer none)))] (.cond (.s 4) (z [q 2 (.mv (i 0))] .ret) .skip)) (z [m 5 0,j 6 5,f 7 3 6,l 8 1 7,m 2 8] .ret))⟩
def T2:SF :=⟨1,27,[.t 2],z [q 2 (.mv ff)] (.seq (.bp [0,1,2,3,4,5,6,7,8,9,10,11,12,14,15,16,13,17,18,19,20,21,22,23,24] [m' 3 0,q' 4 (.eq .ptr true (.s 3) (.c (.pointer none))),m' 5 4,xI 6 5 0,y' 7 5 (.gw (.s 6)),
 y' 8 5 (.dZ 3 (.s 7)),y' 9 5 (.load false 1 (.s 8)),y' 10 5 (.int .gtr (.s 9) (i 2048)),p' 11 5 10,m' 12 11,xI 13 12 0,y' 14 12 (.gw (.s 13)),y' 15 12 (.dZ 3 (.s 14)),xI 17 12 0,y' 18 12 (.gw (.s 17)),
 y' 19 12 (.dZ 1 (.s 18)),y' 16 12 (.load false 1 (.s 15)),y' 20 12 (.load true 2 (.s 19)),⟨y 21 12 (.call 405 [.s 20]),[16]⟩,⟨y 22 12 (.call 401 [.s 21]),[16]⟩,y' 23 12 (.len (.s 22)),y' 24 12 (.int .mul (i 2) (.s 23)),
 y' 25 12 (.int .gtr (.s 16) (.s 24)),p' 26 12 25,m' 2 26]) .ret)⟩
def Afs:SF :=⟨1,14,[.t 2,.t 3],z [q 2 (.mv (.c (.pointer none))),q 3 (.mv ff)] (z [m 5 0,c 6 294 5,m 7 0,c 8 295 7,q 9 (.build [.v (.pointer none),.v (.pointer none),.v (.int .i64 0),.v (.slice none 0 0),.v (.slice none 0 0),
 .v (.slice none 0 0),.v (.bool false),.v (.int .i64 0),.v (.int .i64 0),.v (.bool false),.v (.int .i64 0),.v (.int .i64 0),.v (.slice none 0 0),.v (.slice none 0 0),.v (.slice none 0 0),.v (.bool false),.v (.int .i64 0),
 .v (.int .i64 0),.v (.bool false),.v (.int .i64 0),.v (.slice none 0 0),.v (.int .i64 0),.v (.int .i64 0),.v (.bool false),.v (.bool false)] [(0,1,.s 6),(2,9,.s 8)]),q 10 (.box none 25 (.s 9)),m 4 10] (z [m 11 4,m 12 4,
 c 13 392 12,m 2 11,m 3 13] .ret))⟩
def T3:SF :=⟨1,98,[.t 2],z [q 2 (.mv ff)] (.seq (.seq (.bp [0,1,2,5,6,7,3,8,4,9,10,11,12,13,14,15,18,19,20,21,16,22,17,23,24,25,26,27,28,31,32,33,34,29,35,30,36,37] [m' 3 0,j' 4 3,f' 5 0 4,m' 8 0,j' 9 8,f' 10 2 9,l' 6 1 5,
 t' 11 9 10,⟨c 7 312 6,[7]⟩,c' 12 346 11,w (cc 13 160 7 12),q' 14 (.not (.s 13)),m' 15 14,jF 16 15 0,x' 17 15 (.gw (.s 16)),x' 18 15 (.dZ 0 (.s 17)),jF 21 15 0,x' 22 15 (.gw (.s 21)),x' 23 15 (.dZ 2 (.s 22)),
 x' 24 15 (.dZ 5 (.s 23)),x' 19 15 (.load false 1 (.s 18)),x' 25 15 (.load false 1 (.s 24)),⟨x 20 15 (.call 315 [.s 19]),[21]⟩,x' 26 15 (.int .neq (.s 20) (.s 25)),r' 27 15 26,m' 28 27,jF 29 28 0,
 x' 30 28 (.gw (.s 29)),x' 31 28 (.dZ 0 (.s 30)),jF 34 28 0,x' 35 28 (.gw (.s 34)),x' 36 28 (.dZ 2 (.s 35)),x' 37 28 (.dZ 4 (.s 36)),x' 32 28 (.load false 1 (.s 31)),x' 38 28 (.load false 1 (.s 37)),
 ⟨x 33 28 (.call 314 [.s 32]),[34]⟩,x' 39 28 (.eq .bool true (.s 33) (.s 38)),r' 40 28 39]) (.cond (.s 40) (z [q 2 (.mv ff)] .ret) .skip)) (.seq (.bp [0,1,2,3,4,5,6,7,8,11,12,13,14,9,15,10,16,17,18,19,20,23,24,25,26,21,
 27,22,28,29,30,31,32,33,36,37,38,39,34,40,35,41,42,43,44,45,46,49,50,51,47,52,48,53,54,55,56,57] [m' 41 0,j' 42 41,f' 43 24 42,l' 44 1 43,q' 45 (.not (.s 44)),m' 46 45,jF 47 46 0,x' 48 46 (.gw (.s 47)),
 x' 49 46 (.dZ 1 (.s 48)),jF 52 46 0,x' 53 46 (.gw (.s 52)),x' 54 46 (.dZ 11 (.s 53)),x' 55 46 (.dZ 9 (.s 54)),x' 50 46 (.load false 1 (.s 49)),x' 56 46 (.load true 2 (.s 55)),⟨x 51 46 (.call 380 [.s 50]),[14]⟩,
 x' 57 46 (.call 422 [.s 51,.s 56]),jF 58 46 57,xI 59 58 0,y' 60 58 (.gw (.s 59)),y' 61 58 (.dZ 1 (.s 60)),xI 64 58 0,y' 65 58 (.gw (.s 64)),y' 66 58 (.dZ 11 (.s 65)),y' 67 58 (.dZ 11 (.s 66)),
 y' 62 58 (.load false 1 (.s 61)),y' 68 58 (.load false 1 (.s 67)),⟨y 63 58 (.call 387 [.s 62]),[26]⟩,y' 69 58 (.int .eql (.s 63) (.s 68)),x' 70 46 (.pick (.s 58) (.s 69) ff),jF 71 46 70,xI 72 71 0,
 y' 73 71 (.gw (.s 72)),y' 74 71 (.dZ 1 (.s 73)),xI 77 71 0,y' 78 71 (.gw (.s 77)),y' 79 71 (.dZ 11 (.s 78)),y' 80 71 (.dZ 12 (.s 79)),y' 75 71 (.load false 1 (.s 74)),y' 81 71 (.load false 1 (.s 80)),
 ⟨y 76 71 (.call 395 [.s 75]),[39]⟩,y' 82 71 (.eq .bool false (.s 76) (.s 81)),x' 83 46 (.pick (.s 71) (.s 82) ff),jF 84 46 83,xI 85 84 0,y' 86 84 (.gw (.s 85)),y' 87 84 (.dZ 1 (.s 86)),xI 90 84 0,
 y' 91 84 (.gw (.s 90)),y' 92 84 (.dZ 11 (.s 91)),y' 88 84 (.load false 1 (.s 87)),y' 93 84 (.load true 13 (.s 92)),⟨y 89 84 (.call 388 [.s 88]),[51]⟩,y' 94 84 (.call 423 [.s 93]),
 y' 95 84 (.eq .bool false (.s 89) (.s 94)),x' 96 46 (.pick (.s 84) (.s 95) ff),r' 97 46 96,m' 2 97]) .ret))⟩
def T4:SF :=⟨2,186,[.t 4],z [q 3 (.box (some 0) 44 (.s 1)),q 4 (.mv ff)] (z [m 18 0,m 19 0,j 20 19,f 21 2 20,t 22 9 21,j 23 18,f 24 11 23,f 25 0 24,o 9 25 22] (z [q 5 (.mv tt)] (.seq (z [f 26 0 3,l 27 1 26,
 q 28 (.int .rem (.s 27) (u 8)),m 6 28] (.block 0 (z [m 30 6,q 31 (.int .eql (.s 30) (u 5)),m 29 31] (.cond (.s 29) (.seq (.bp [0,1,2,3,5,6,7,9,4,8,10,11,12,13,14,15,16,17,18] [m' 33 0,m' 34 0,j' 35 34,f' 36 0 35,
 m' 38 0,j' 39 38,f' 40 2 39,f' 42 38 3,l' 37 1 36,t' 41 9 40,t' 43 6 42,q' 44 (.call 296 [.s 37,.s 41,.s 43]),m' 32 44,e' 45 0 32,e' 46 1 32,j' 47 33,f' 48 2 47,o' 9 48 45,m' 5 46]) (z [m 49 5,m 4 49] .ret)) (z [m 51 6,
 q 52 (.int .eql (.s 51) (u 6)),m 50 52] (.cond (.s 50) (.seq (.bp [0,1,2,4,5,7,8,3,6,9,10] [m' 53 0,j' 54 53,f' 55 0 54,f' 57 38 3,f' 58 4 57,f' 60 38 3,f' 61 3 60,l' 56 1 55,l' 59 1 58,l' 62 1 61,
 q' 63 (.call 297 [.s 56,.s 59,.s 62])]) (.seq (.bp [0,1,2,3,5,6,8,9,4,7,10,11,12,13,14] [m' 64 0,m' 65 0,j' 66 65,f' 67 2 66,f' 69 38 3,f' 70 4 69,f' 72 38 3,f' 73 3 72,t' 68 9 67,l' 71 1 70,l' 74 1 73,
 q' 75 (.call 318 [.s 68,.s 71,.s 74]),j' 76 64,f' 77 2 76,o' 9 77 75]) (z [m 78 0,c 79 392 78,m 4 79] .ret))) (z [m 81 0,j 82 81,f 83 24 82,l 84 1 83,q 85 (.not (.s 84)),
 m 80 85] (.cond (.s 80) (z [q 4 (.mv tt)] .ret) (z [m 87 6,q 88 (.int .eql (.s 87) (u 7)),m 86 88] (.cond (.s 86) (.seq (.bp [0,1,2,4,5,6,3,7,8,9,10,11,12,13,14] [m' 90 0,j' 91 90,f' 92 0 91,m' 94 0,j' 95 94,
 f' 96 1 95,l' 93 1 92,l' 97 1 96,⟨c 98 380 97,[6]⟩,w (cc 99 394 93 98),m' 89 99,e' 100 0 89,e' 101 1 89,m' 7 100,m' 8 101]) (.seq (.bp [0,1,2,4,5,6,7,3,8,14,9,10,11,12,13,15,16,17] [m' 103 0,j' 104 103,f' 105 2 104,
 m' 107 0,j' 108 107,f' 109 11 108,f' 110 9 109,t' 106 9 105,t' 111 2 110,q' 9 (.alloc (some 1) O1),w (cc 112 424 106 111),m' 102 112,e' 113 0 102,e' 114 1 102,e' 115 2 102,o' 9 9 113,m' 10 114,m' 11 115]) (z [m 116 0,
 t 117 9 9,j 118 116,f 119 2 118,o 9 119 117] (z [m 120 7,m 121 10,q 122 (.int .eql (.s 120) (.s 121)),m 123 122,ym 124 123 8,ym 125 123 11,y 126 123 (.int .eql (.s 124) (.s 125)),p 127 123 126,
 m 4 127] .ret)))) (z [m 129 6,q 130 (.int .eql (.s 129) (u 4)),m 128 130] (.cond (.s 128) (z [m 131 0,j 132 131,f 133 1 132,l 134 1 133,c 135 382 134,m 12 135] (z [m 137 0,j 138 137,f 139 11 138,t 140 13 139,
 c 141 425 140,m 136 141,e 142 0 136,e 143 1 136,q 13 (.alloc (some 2) O2),o 13 13 142,m 14 143] (.seq (.bp [0,1,3,2,5,6,4,7,8,9,10] [m' 144 0,m' 145 0,f' 147 0 13,t' 146 13 13,j' 149 144,f' 150 11 149,t' 148 9 147,
 ⟨o 13 150 146,[6]⟩,j' 151 145,f' 152 2 151,o' 9 152 148]) (z [m 153 12,m 154 14,q 155 (.int .eql (.s 153) (.s 154)),m 4 155] .ret)))) .skip)))))))))))) (.seq (.bp [0,1,2,4,3,5,6,7,8] [m' 156 0,j' 157 156,f' 158 1 157,
 f' 160 1 3,l' 159 1 158,t' 161 37 160,⟨c 162 383 161,[4]⟩,w (cc 163 386 159 162),m' 15 163]) (.seq (.bp [0,1,2,4,3,5,10,6,7,8,9,11,12] [m' 165 0,j' 166 165,f' 167 11 166,f' 169 1 3,t' 168 13 167,t' 170 37 169,
 q' 16 (.alloc (some 3) O2),w (cc 171 426 168 170),m' 164 171,e' 172 0 164,e' 173 1 164,o' 13 16 172,m' 17 173]) (.seq (.bp [0,1,3,2,5,6,4,7,8,9,10] [m' 174 0,m' 175 0,f' 177 0 16,t' 176 13 16,j' 179 174,f' 180 11 179,
 t' 178 9 177,⟨o 13 180 176,[6]⟩,j' 181 175,f' 182 2 181,o' 9 182 178]) (z [m 183 15,m 184 17,q 185 (.int .eql (.s 183) (.s 184)),m 4 185] .ret)))))))⟩
def T5:SF :=⟨1,51,[.t 2],z [q 2 (.mv ff)] (z [m 8 0,j 9 8,f 10 0 9,l 11 1 10,c 12 379 11,m 7 12,e 13 0 7,e 14 1 7,m 3 13,m 4 14] (z [m 16 0,j 17 16,f 18 2 17,t 19 9 18,c 20 427 19,m 15 20,e 21 0 15,e 22 1 15,
 q 5 (.alloc (some 0) O2),o 13 5 21,m 6 22] (.seq (.bp [0,1,2,3,4,6,8,9,10,11,5,7,12,13,14,15,16,17,18,19,20,21] [m' 23 0,m' 24 0,m' 25 0,m' 26 0,m' 27 3,f' 29 0 5,m' 31 6,q' 32 (.int .eql (.s 31) (i 0)),j' 33 23,
 f' 34 1 33,t' 28 13 5,t' 30 9 29,⟨o 1 34 27,[10,11]⟩,j' 35 24,f' 36 11 35,⟨o 13 36 28,[11]⟩,j' 37 25,f' 38 2 37,o' 9 38 30,j' 39 26,f' 40 24 39,o' 1 40 32]) (z [m 41 4,m 42 6,q 43 (.int .eql (.s 41) (.s 42)),m 44 43,
 ym 45 44 3,y 46 44 (.eq .ptr true (.s 45) (.c (.pointer none))),ym 47 44 6,y 48 44 (.int .eql (.s 47) (i 0)),y 49 44 (.eq .bool false (.s 46) (.s 48)),p 50 44 49,m 2 50] .ret))))⟩
def T6:SF :=⟨2,68,[.t 4,.t 5],z [q 3 (.box (some 0) 2 (.s 1)),q 4 (.mv (i 0)),q 5 (.mv (i 0))] (.seq (z [m 14 0,q 15 (.eq .ptr false (.s 14) (.c (.pointer none)))] (.cond (.s 15) (z [q 4 (.mv (i 0)),
 q 5 (.mv (i 1))] .ret) .skip)) (z [q 16 (.cH (.m .mk) []),m 6 16] (.seq (z [f 17 0 3,l 18 1 17,n 19 18,
 q 20 (.mv (i 0))] (.block 0 (.loop (z [q 21 (.int .lss (.s 20) (.s 19))] (.seq (.cond (.s 21) .skip (.exit 0)) (.seq (.block 1 (z [b 22 36 18 20,t 23 36 22,q 8 (.alloc (some 1) lQ),o 36 8 23] (.bL [m 24 6,f 25 0 8,
 l 26 1 25,c 27 396 26,⟨none,.cH (.m (.bt true)) [.s 24,.s 27,tt],none⟩]))) (.bL [q 28 (.int .add (.s 20) (i 1)),m 20 28]))))))) (z [q 9 (.mv (i 0))] (.seq (z [m 29 0,c 30 312 29,n 31 30,
 q 32 (.mv (i 0))] (.block 2 (.loop (z [q 33 (.int .lss (.s 32) (.s 31))] (.seq (.cond (.s 33) .skip (.exit 2)) (.seq (.block 3 (z [b 34 3 30 32,t 35 3 34,q 11 (.alloc (some 2) [.v (.string ⟨#[]⟩),.v (.bool false),
 .v (.slice none 0 0)]),o 3 11 35] (.seq (z [f 36 1 11,l 37 1 36,m 38 37,x 39 38 (.dZ 0 (.s 11)),x 40 38 (.load false 1 (.s 39)),x 41 38 (.call 203 [.s 40,.c (.string ⟨#[46,115,117,109,112,116,101,114,45,116]⟩)]),
 x 42 38 (.not (.s 41)),r 43 38 42,m 44 43,xm 45 44 6,x 46 44 (.dZ 0 (.s 11)),x 47 44 (.load false 1 (.s 46)),x 48 44 (.cH (.m (.CF true false false [.v (.bool false)])) [.s 45,.s 47]),
 r 49 44 48] (.cond (.s 49) (.exit 3) .skip)) (.seq (z [m 50 0,f 51 0 11,l 52 1 51,cc 53 298 50 52,m 12 53] (z [m 54 12,q 55 (.int .neq (.s 54) (i 0))] (.cond (.s 55) (z [m 56 12,q 4 (.mv (i 0)),
 m 5 56] .ret) .skip))) (.bL [m 57 9,q 58 (.int .add (.s 57) (i 1)),m 9 58]))))) (.bL [q 59 (.int .add (.s 32) (i 1)),m 32 59]))))))) (.seq (z [m 60 9,q 61 (.int .eql (.s 60) (i 0))] (.cond (.s 61) (z [q 4 (.mv (i 0)),
 q 5 (.mv (i 0))] .ret) .skip)) (.seq (z [m 62 0,c 63 304 62,m 13 63] (z [m 64 13,q 65 (.int .neq (.s 64) (i 0))] (.cond (.s 65) (z [m 66 13,q 4 (.mv (i 0)),m 5 66] .ret) .skip))) (z [m 67 9,m 4 67,
 q 5 (.mv (i 0))] .ret))))))))⟩
def T7:SF :=⟨1,11,[.t 2],z [q 2 (.mv ff)] (z [m 3 0,q 4 (.eq .ptr true (.s 3) (.c (.pointer none))),m 5 4,ym 6 5 0,y 7 5 (.gw (.s 6)),y 8 5 (.dZ 4 (.s 7)),y 9 5 (.load false 1 (.s 8)),p 10 5 9,m 2 10] .ret)⟩
def T8:SF :=⟨1,6,[.t 2],z [q 2 (.mv (.c (.string ⟨#[]⟩)))] (z [m 3 0,c 4 428 3,q 5 (.str .add (.c (.string ⟨#[46,115,117,109,112,116,101,114,45,116]⟩)) (.s 4)),m 2 5] .ret)⟩
def T9:SF :=⟨1,25,[.t 2],z [q 2 (.mv (.c (.string ⟨#[]⟩)))] (z [q 3 (.mv (.c (.string ⟨#[]⟩)))] (z [m 5 0,q 6 (.mm true (i 0) (.s 5)),m 4 6] (.seq (.block 0 (.loop (.seq (z [m 7 4,q 8 (.int .gtr (.s 7) (i 0)),m 9 8,xm 10 9 3,
 x 11 9 (.str .eql (.s 10) (.c (.string ⟨#[]⟩))),r 12 9 11] (.cond (.s 12) .skip (.exit 0))) (.block 1 (z [m 13 4,q 14 (.int .rem (.s 13) (i 10)),m 15 4,q 16 (.int .rem (.s 15) (i 10)),q 17 (.int .add (.s 16) (i 1)),
 q 18 (.sI (.c (.string ⟨#[48,49,50,51,52,53,54,55,56,57]⟩)) (some (.s 14)) (some (.s 17))),m 19 3,q 20 (.str .add (.s 18) (.s 19)),m 3 20] (.bL [m 21 4,q 22 (.int .quo (.s 21) (i 10)),m 4 22])))))) (z [m 23 3,
 q 24 (.str .add (.c (.string ⟨#[46,115,117,109,112,116,101,114,45,116]⟩)) (.s 23)),m 2 24] .ret))))⟩
def Ua:SF :=⟨1,8,[.t 2],z [q 2 (.mv (i 0))] (.seq (z [m 3 0,c 4 312 3,q 5 (.call 429 [.s 4,.f 430])] (.cond (.s 5) (z [m 6 0,q 7 (.call 298 [.s 6,.c (.string ⟨#[46,115,117,109,112,116,101,114,45,110,101,119]⟩)]),
 m 2 7] .ret) .skip)) (z [q 2 (.mv (i 0))] .ret))⟩
def Ub:SF :=⟨1,36,[.t 2,.t 3,.t 4],z [q 2 (.mv (.c (.slice none 0 0))),q 3 (.mv (i 0)),q 4 (.mv (i 0))] (z [q 5 (.mv (.c (.slice none 0 0)))] (z [q 6 (.mv (i 0))] (.seq (.block 0 (.loop (.seq (z [m 10 6,m 11 0,n 12 11,
 q 13 (.int .lss (.s 10) (.s 12))] (.cond (.s 13) .skip (.exit 0))) (.block 1 (z [m 15 0,m 16 6,q 17 (.gy 1 (.s 15) (some (.s 16)) none none),c 18 431 17,m 14 18,e 19 0 14,e 20 1 14,e 21 2 14,q 7 (.alloc (some 0) fA),
 o 37 7 19,m 8 20,m 9 21] (.seq (z [m 22 9,q 23 (.int .neq (.s 22) (i 0))] (.cond (.s 23) (z [m 24 5,m 25 6,m 26 9,m 2 24,m 3 25,m 4 26] .ret) .skip)) (z [m 27 5,t 28 37 7,q 29 (.aO 37 [.s 28]),
 q 30 (.app 37 80 (.s 27) (.s 29)),m 5 30] (.bL [m 31 6,m 32 8,q 33 (.int .add (.s 31) (.s 32)),m 6 33])))))))) (z [m 34 5,m 35 6,m 2 34,m 3 35,q 4 (.mv (i 0))] .ret))))⟩
def Uc:SF :=⟨1,31,[.cell 2 true 2,.t 3],z [q 2 (.alloc (some 0) [.v (.slice none 0 0),.v (.int .i64 0)]),q 3 (.mv (i 0))] (z [q 4 (.alloc (some 1) [.v (.slice none 0 0),.v (.int .i64 0)])] (.seq (z [m 9 0,n 10 9,
 q 11 (.mv (i 0))] (.block 0 (.loop (z [q 12 (.int .lss (.s 11) (.s 10))] (.seq (.cond (.s 12) .skip (.exit 0)) (.seq (.block 1 (z [m 13 11,b 14 37 9 11,t 15 37 14,q 6 (.alloc (some 2) fA),m 5 13,
 o 37 6 15] (z [t 17 2 4,t 18 37 6,cc 19 385 17 18,m 16 19,e 20 0 16,e 21 1 16,q 7 (.alloc (some 3) [.v (.slice none 0 0),.v (.int .i64 0)]),o 2 7 20,m 8 21] (.seq (z [m 22 8,
 q 23 (.not (.s 22))] (.cond (.s 23) (z [t 24 2 4,m 25 5,o 2 2 24,m 3 25] .ret) .skip)) (.bL [t 26 2 7,o 2 4 26]))))) (.bL [q 27 (.int .add (.s 11) (i 1)),m 11 27]))))))) (z [t 28 2 4,m 29 0,n 30 29,o 2 2 28,
 m 3 30] .ret)))⟩
def Ud:SF :=⟨1,27,[.t 2],z [q 2 (.mv (.c (.slice none 0 0)))] (z [q 3 (.mv (.c (.slice none 0 0)))] (.seq (z [m 8 0,n 9 8,
 q 10 (.mv (i 0))] (.block 0 (.loop (z [q 11 (.int .lss (.s 10) (.s 9))] (.seq (.cond (.s 11) .skip (.exit 0)) (.seq (.block 1 (z [b 12 37 8 10,t 13 37 12,q 5 (.alloc (some 0) fA),o 37 5 13] (z [t 15 37 5,c 16 432 15,
 m 14 16,e 17 0 14,e 18 1 14,m 6 17,m 7 18] (.seq (z [m 19 7,q 20 (.int .neq (.s 19) (i 0))] (.cond (.s 20) (z [m 21 3,m 2 21] .ret) .skip)) (.bL [m 22 3,m 23 6,q 24 (.app 1 1 (.s 22) (.s 23)),
 m 3 24]))))) (.bL [q 25 (.int .add (.s 10) (i 1)),m 10 25]))))))) (z [m 26 3,m 2 26] .ret)))⟩
def Ue:SF :=⟨1,8,[.t 2],z [q 2 (.mv (.c (.slice none 0 0)))] (.seq (z [m 3 0,q 4 (.nd (.ka false) [.s 3])] (.cond (.s 4) (z [q 2 (.mv (.c (.slice none 0 0)))] .ret) .skip)) (z [q 5 (.aO 36 []),m 6 0,
 q 7 (.app 36 72 (.s 5) (.s 6)),m 2 7] .ret))⟩
def Uf:SF :=⟨1,11,[.t 2],z [q 2 (.mv (i 0))] (.seq (.block 0 (z [m 4 0,q 5 (.eq .ptr false (.s 4) (.c (.pointer none))),m 3 5] (.cond (.s 3) (z [q 2 (.mv (i 1))] .ret) (z [m 7 0,j 8 7,f 9 4 8,l 10 1 9,
 m 6 10] (.cond (.s 6) (z [q 2 (.mv (i 16))] .ret) .skip))))) (z [q 2 (.mv (i 0))] .ret))⟩
def Ug:SF :=⟨1,53,[.t 2],z [q 1 (.box (some 0) 2 (.s 0)),q 2 (.mv (.c (.slice none 0 0)))] (z [q 3 (.mv (.c (.slice none 0 0)))] (z [q 4 (.mv (i 0))] (.seq (z [f 7 0 1,l 8 1 7,n 9 8,
 q 10 (.mv (i 0))] (.block 0 (.loop (z [q 11 (.int .lss (.s 10) (.s 9))] (.seq (.cond (.s 11) .skip (.exit 0)) (.seq (.block 1 (z [b 12 36 8 10,t 13 36 12,q 6 (.alloc (some 1) lQ),o 36 6 13] (z [m 14 3,f 15 0 6,
 l 16 1 15,f 17 1 6,l 18 1 17,f 19 2 6,t 20 32 19,f 21 34 6,l 22 1 21,q 23 (.build fA [(0,1,u 0),(1,1,.s 16),(2,1,.s 18),(3,32,.s 20),(35,1,.s 22)]),q 24 (.aO 37 [.s 23]),q 25 (.app 37 80 (.s 14) (.s 24)),
 m 3 25] (.seq (z [f 26 35 6,l 27 1 26,q 28 (.int .gtr (.s 27) (i 0))] (.cond (.s 28) (.bL [m 29 3,f 30 0 6,l 31 1 30,f 32 35 6,l 33 1 32,q 34 (.build fA [(0,1,u 1),(1,1,.s 31),(36,1,.s 33)]),q 35 (.aO 37 [.s 34]),
 q 36 (.app 37 80 (.s 29) (.s 35)),m 3 36]) .skip)) (.bL [f 37 0 6,l 38 1 37,q 39 (.int .add (.s 38) (i 1)),m 4 39]))))) (.bL [q 40 (.int .add (.s 10) (i 1)),m 10 40]))))))) (.seq (z [m 41 4,f 42 1 1,l 43 1 42,
 q 44 (.int .lss (.s 41) (.s 43))] (.cond (.s 44) (.bL [m 45 3,f 46 1 1,l 47 1 46,q 48 (.int .sub (.s 47) (i 1)),q 49 (.build fA [(0,1,u 4),(1,1,.s 48)]),q 50 (.aO 37 [.s 49]),q 51 (.app 37 80 (.s 45) (.s 50)),
 m 3 51]) .skip)) (z [m 52 3,m 2 52] .ret)))))⟩
def Uh:SF :=⟨1,7,[.t 1],z [q 1 (.mv (i 0))] (z [l 2 1 0,j 3 2,f 4 0 3,l 5 1 4,c 6 398 5,m 1 6] .ret)⟩
def Ui:SF :=⟨1,7,[.t 1],z [q 1 (.mv (i 0))] (z [l 2 1 0,j 3 2,f 4 0 3,l 5 1 4,q 6 (.call 299 [.s 5,.c (.string ⟨#[46,115,117,109,112,116,101,114,45,110,101,119]⟩)]),m 1 6] .ret)⟩
def Uj:SF :=⟨2,9,[.t 2],z [q 2 (.mv (i 0))] (.seq (.bp [0,1,2,3,4,5,6] [l' 3 1 0,j' 4 3,f' 5 0 4,l' 6 1 5,l' 7 1 1,q' 8 (.call 302 [.s 6,.c (.string ⟨#[46,115,117,109,112,116,101,114,45,110,101,119]⟩),.s 7]),m' 2 8]) .ret)⟩
def Uk:SF :=⟨1,7,[.t 1],z [q 1 (.mv (i 0))] (z [l 2 1 0,j 3 2,f 4 0 3,l 5 1 4,q 6 (.call 303 [.s 5,.c (.string ⟨#[46,115,117,109,112,116,101,114,45,110,101,119]⟩)]),m 1 6] .ret)⟩
def Ul:SF :=⟨1,7,[.t 1],z [q 1 (.mv (i 0))] (z [l 2 1 0,j 3 2,f 4 0 3,l 5 1 4,q 6 (.call 309 [.s 5,.c (.string ⟨#[46,115,117,109,112,116,101,114,45,110,101,119]⟩),.c (.string ⟨#[46,115,117,109,112,116,101,114]⟩)]),m 1 6] .ret)⟩
def Um:SF :=⟨1,18,[.t 2],z [q 2 (.mv (i 0))] (.seq (z [m 6 0,n 7 6,q 8 (.mv (i 0))] (.block 0 (.loop (z [q 9 (.int .lss (.s 8) (.s 7))] (.seq (.cond (.s 9) .skip (.exit 0)) (.seq (.block 1 (z [b 10 1 6 8,l 11 1 10,
 m 4 11] (z [m 12 4,q 13 (.er (.s 12) []),m 5 13] (z [m 14 5,q 15 (.int .neq (.s 14) (i 0))] (.cond (.s 15) (z [m 16 5,m 2 16] .ret) .skip))))) (.bL [q 17 (.int .add (.s 8) (i 1)),
 m 8 17]))))))) (z [q 2 (.mv (i 0))] .ret))⟩
def Un:SF :=⟨1,19,[.t 2],z [q 1 (.box (some 0) 37 (.s 0)),q 2 (.mv (i 0))] (.seq (z [f 4 2 1,l 5 1 4,c 6 192 5,m 3 6] (z [m 7 3,q 8 (.int .neq (.s 7) (i 0))] (.cond (.s 8) (z [m 9 3,
 m 2 9] .ret) .skip))) (.seq (.block 0 (z [f 11 2 1,l 12 1 11,c 13 193 12,m 10 13] (.cond (.s 10) (z [q 2 (.mv (i 6))] .ret) (z [f 15 35 1,l 16 1 15,c 17 413 16,q 18 (.not (.s 17)),
 m 14 18] (.cond (.s 14) (z [q 2 (.mv (i 13))] .ret) .skip))))) (z [q 2 (.mv (i 0))] .ret)))⟩
def Uo:SF :=⟨1,9,[.t 2],z [q 2 (.mv ff)] (z [m 3 0,q 4 (.int .geq (.s 3) (i 0)),m 5 4,ym 6 5 0,y 7 5 (.int .leq (.s 6) (i 65536)),p 8 5 7,m 2 8] .ret)⟩
def Up:SF :=⟨1,8,[.cell 2 true 2],z [q 1 (.box (some 0) 2 (.s 0)),q 2 (.alloc (some 1) [.v (.slice none 0 0),.v (.int .i64 0)])] (z [f 3 0 1,l 4 1 3,c 5 402 4,f 6 0 1,o 1 6 5] (z [t 7 2 1,o 2 2 7] .ret))⟩
def Uq:SF :=⟨2,9,[.t 3],z [q 2 (.box (some 0) 36 (.s 0)),q 3 (.mv ff)] (z [f 4 0 2,l 5 1 4,f 6 1 1,l 7 1 6,q 8 (.int .eql (.s 5) (.s 7)),m 3 8] .ret)⟩
def Ur:SF :=⟨2,19,[.t 4],z [q 4 (.mv (i 0))] (.seq (z [m 6 0,n 7 6,q 8 (.mv (i 0))] (.block 0 (.loop (z [q 9 (.int .lss (.s 8) (.s 7))] (.seq (.cond (.s 9) .skip (.exit 0)) (.seq (.block 1 (z [m 10 8,m 5 10] (z [m 11 1,m 12 0,
 m 13 5,b 14 36 12 13,t 15 36 14,q 16 (.er (.s 11) [.s 15])] (.cond (.s 16) (z [m 17 5,m 4 17] .ret) .skip)))) (.bL [q 18 (.int .add (.s 8) (i 1)),m 8 18]))))))) (z [q 4 (.mv (i (-1)))] .ret))⟩
def Us:SF :=⟨2,49,[.cell 4 true 2,.t 5],z [q 2 (.box (some 0) 2 (.s 0)),q 3 (.box (some 1) 37 (.s 1)),q 4 (.alloc (some 2) [.v (.slice none 0 0),.v (.int .i64 0)]),q 5 (.mv ff)] (.seq (z [t 9 2 2,f 10 2 3,l 11 1 10,cc 12 433 9 11,
 m 8 12,e 13 0 8,e 14 1 8,q 6 (.alloc (some 3) lQ),o 36 6 13,m 7 14] (z [m 15 7,m 16 15,x 17 16 (.dZ 1 (.s 3)),x 18 16 (.load false 1 (.s 17)),x 19 16 (.dZ 1 (.s 2)),x 20 16 (.load false 1 (.s 19)),
 x 21 16 (.int .lss (.s 18) (.s 20)),r 22 16 21,m 23 22,x 24 23 (.dZ 0 (.s 2)),x 25 23 (.load false 1 (.s 24)),x 26 23 (.len (.s 25)),x 27 23 (.int .geq (.s 26) (i 64)),r 28 23 27] (.cond (.s 28) (z [t 29 2 2,o 2 4 29,
 q 5 (.mv ff)] .ret) .skip))) (z [f 30 0 2,l 31 1 30,f 32 1 3,l 33 1 32,f 34 2 3,l 35 1 34,f 36 3 3,t 37 32 36,f 38 35 3,l 39 1 38,q 40 (.build lQ [(0,1,.s 33),(1,1,.s 35),(2,32,.s 37),(34,1,.s 39)]),
 q 41 (.aO 36 [.s 40]),q 42 (.app 36 72 (.s 31) (.s 41)),f 43 0 2,o 1 43 42] (z [f 44 1 3,l 45 1 44,q 46 (.int .add (.s 45) (i 1)),f 47 1 2,o 1 47 46] (z [t 48 2 2,o 2 4 48,q 5 (.mv tt)] .ret))))⟩
end Sm
