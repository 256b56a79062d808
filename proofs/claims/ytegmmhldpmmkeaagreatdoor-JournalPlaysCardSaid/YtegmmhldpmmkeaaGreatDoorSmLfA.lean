/-
  SfA
-/
import Derived.Test.YtegmmhldpmmkeaaGreatDoorSmLA
set_option linter.unusedVariables false
set_option maxRecDepth 100000
namespace Sm
open Go
abbrev q(d:Nat)(o:aw):aF:=⟨some d,o,none⟩
abbrev m(d s:Nat):aF:=⟨some d,.mv (.s s),none⟩
abbrev f(d i s:Nat):aF:=⟨some d,.dZ i (.s s),none⟩
abbrev l(d n s:Nat):aF:=⟨some d,.load false n (.s s),none⟩
abbrev t(d n s:Nat):aF:=⟨some d,.load true n (.s s),none⟩
abbrev e(d i s:Nat):aF:=⟨some d,.ext (.s s) i,none⟩
abbrev j(d s:Nat):aF:=⟨some d,.gw (.s s),none⟩
abbrev n(d s:Nat):aF:=⟨some d,.len (.s s),none⟩
abbrev c(d g a:Nat):aF:=⟨some d,.call g [.s a],none⟩
abbrev cc(d g a b:Nat):aF:=⟨some d,.call g [.s a,.s b],none⟩
abbrev o(n a b:Nat):aF:=⟨none,.store n (.s a) (.s b),none⟩
abbrev y(d g:Nat)(o:aw):aF:=⟨some d,o,some (g,true)⟩
abbrev x(d g:Nat)(o:aw):aF:=⟨some d,o,some (g,false)⟩
abbrev xm(d g s:Nat):aF:=⟨some d,.mv (.s s),some (g,false)⟩
abbrev ym(d g s:Nat):aF:=⟨some d,.mv (.s s),some (g,true)⟩
abbrev i(n:Int):bj:=.c (.int .i64 n)
abbrev u(n:Int):bj:=.c (.int .u8 n)
abbrev tt:bj:=.c (.bool true)
abbrev ff:bj:=.c (.bool false)
abbrev w(o:aF):dv:=⟨o,[]⟩
abbrev z(r:List aF)(s:SC):SC:=.seq (.bL r) s
abbrev p(d a b:Nat):aF:=⟨some d,.pick (.s a) (.s b) (.c (.bool false)),none⟩
abbrev r(d a b:Nat):aF:=⟨some d,.pick (.s a) (.c (.bool true)) (.s b),none⟩
abbrev b(d n a k:Nat):aF:=⟨some d,.idx n (.s a) (.s k),none⟩
abbrev m'(d s:Nat):dv:=⟨m d s,[]⟩
abbrev f'(d i s:Nat):dv:=⟨f d i s,[]⟩
abbrev l'(d n s:Nat):dv:=⟨l d n s,[]⟩
abbrev t'(d n s:Nat):dv:=⟨t d n s,[]⟩
abbrev e'(d i s:Nat):dv:=⟨e d i s,[]⟩
abbrev j'(d s:Nat):dv:=⟨j d s,[]⟩
abbrev n'(d s:Nat):dv:=⟨n d s,[]⟩
abbrev c'(d g a:Nat):dv:=⟨c d g a,[]⟩
abbrev q'(d:Nat)(o:aw):dv:=⟨q d o,[]⟩
abbrev x'(d g:Nat)(o:aw):dv:=⟨x d g o,[]⟩
abbrev y'(d g:Nat)(o:aw):dv:=⟨y d g o,[]⟩
abbrev jF(d g s:Nat):dv:=⟨xm d g s,[]⟩
abbrev xI(d g s:Nat):dv:=⟨ym d g s,[]⟩
abbrev o'(n a b:Nat):dv:=⟨o n a b,[]⟩
abbrev p'(d a b:Nat):dv:=⟨p d a b,[]⟩
abbrev r'(d a b:Nat):dv:=⟨r d a b,[]⟩
abbrev b'(d n a k:Nat):dv:=⟨b d n a k,[]⟩
abbrev O1:List HV:=[.v (.int .i64 0),.v (.slice none 0 0),.v (.slice none 0 0),.v (.slice none 0 0),.v (.bool false),.v (.int .i64 0),.v (.int .i64 0),.v (.bool false),.v (.int .i64 0)]
abbrev O2:List HV:=[.v (.int .i64 0),.v (.slice none 0 0),.v (.slice none 0 0),.v (.slice none 0 0),.v (.bool false),.v (.int .i64 0),.v (.int .i64 0),.v (.bool false),.v (.int .i64 0),.v (.slice none 0 0),.v (.int .i64 0),.v (.int .i64 0),.v (.bool false)]
abbrev fA:List HV:=[.v (.int .u8 0),.v (.int .i64 0),.v (.string ⟨#[]⟩),.v (.int .u8 0),.v (.int .u8 0),.v (.int .u8 0),.v (.int .u8 0),.v (.int .u8 0),.v (.int .u8 0),.v (.int .u8 0),.v (.int .u8 0),.v (.int .u8 0),.v (.int .u8 0),.v (.int .u8 0),.v (.int .u8 0),.v (.int .u8 0),.v (.int .u8 0),.v (.int .u8 0),.v (.int .u8 0),.v (.int .u8 0),.v (.int .u8 0),.v (.int .u8 0),.v (.int .u8 0),.v (.int .u8 0),.v (.int .u8 0),.v (.int .u8 0),.v (.int .u8 0),.v (.int .u8 0),.v (.int .u8 0),.v (.int .u8 0),.v (.int .u8 0),.v (.int .u8 0),.v (.int .u8 0),.v (.int .u8 0),.v (.int .u8 0),.v (.int .i64 0),.v (.int .i64 0)]
abbrev lQ:List HV:=[.v (.int .i64 0),.v (.string ⟨#[]⟩),.v (.int .u8 0),.v (.int .u8 0),.v (.int .u8 0),.v (.int .u8 0),.v (.int .u8 0),.v (.int .u8 0),.v (.int .u8 0),.v (.int .u8 0),.v (.int .u8 0),.v (.int .u8 0),.v (.int .u8 0),.v (.int .u8 0),.v (.int .u8 0),.v (.int .u8 0),.v (.int .u8 0),.v (.int .u8 0),.v (.int .u8 0),.v (.int .u8 0),.v (.int .u8 0),.v (.int .u8 0),.v (.int .u8 0),.v (.int .u8 0),.v (.int .u8 0),.v (.int .u8 0),.v (.int .u8 0),.v (.int .u8 0),.v (.int .u8 0),.v (.int .u8 0),.v (.int .u8 0),.v (.int .u8 0),.v (.int .u8 0),.v (.int .u8 0),.v (.int .i64 0),.v (.int .i64 0)]
def AcG:SF :=⟨1,5,[.t 2],z [q 2 (.mv (.c (.slice none 0 0)))] (z [m 3 0,q 4 .dead,m 2 4] .ret)⟩
def Sc:SF :=⟨2,26,[.t 4],z [q 2 (.box (some 0) 3 (.s 0)),q 3 (.box (some 1) 3 (.s 1)),q 4 (.mv ff)] (z [f 5 0 2,l 6 1 5,f 7 0 3,l 8 1 7,q 9 (.str .eql (.s 6) (.s 8)),m 10 9,y 11 10 (.dZ 1 (.s 2)),y 12 10 (.load false 1 (.s 11)),
 y 13 10 (.dZ 1 (.s 3)),y 14 10 (.load false 1 (.s 13)),y 15 10 (.eq .bool false (.s 12) (.s 14)),p 16 10 15,m 17 16,y 18 17 (.dZ 2 (.s 2)),y 19 17 (.load false 1 (.s 18)),y 20 17 (.nd .AY [.s 19]),
 y 21 17 (.dZ 2 (.s 3)),y 22 17 (.load false 1 (.s 21)),y 23 17 (.nd .AY [.s 22]),y 24 17 (.str .eql (.s 20) (.s 23)),p 25 17 24,m 4 25] .ret)⟩
def Sd:SF :=⟨2,27,[.t 4],z [q 4 (.mv ff)] (.seq (z [m 6 0,n 7 6,m 8 1,n 9 8,q 10 (.int .neq (.s 7) (.s 9))] (.cond (.s 10) (z [q 4 (.mv ff)] .ret) .skip)) (.seq (z [q 5 (.mv (i 0))] (.block 0 (.loop (.seq (z [m 11 5,m 12 0,n 13 12,
 q 14 (.int .lss (.s 11) (.s 13))] (.cond (.s 14) .skip (.exit 0))) (.seq (.block 1 (.seq (.bp [0,1,2,4,5,6,3,7,8,9] [m' 17 0,m' 18 5,b' 19 3 17 18,m' 21 1,m' 22 5,b' 23 3 21 22,t' 20 3 19,t' 24 3 23,
 w (cc 25 154 20 24),q' 26 (.not (.s 25))]) (.cond (.s 26) (z [q 4 (.mv ff)] .ret) .skip))) (.bL [m 15 5,q 16 (.int .add (.s 15) (i 1)),m 5 16])))))) (z [q 4 (.mv tt)] .ret)))⟩
def Mw:SF :=⟨2,11,[.t 4],z [q 4 (.mv ff)] (z [m 5 0,c 6 181 5,m 7 1,c 8 181 7,cc 9 182 6 8,q 10 (.int .lss (.s 9) (i 0)),m 4 10] .ret)⟩
def Se:SF :=⟨1,11,[.t 2],z [q 2 (.mv (.c (.string ⟨#[]⟩)))] (z [m 6 0,c 7 183 6,m 5 7,e 8 0 5,e 9 1 5,m 3 8,m 4 9] (z [m 10 3,m 2 10] .ret))⟩
def Sf:SF :=⟨1,10,[.t 2],z [q 2 (.mv (.c (.string ⟨#[]⟩)))] (.seq (z [m 3 0,c 4 187 3,q 5 (.int .lss (.s 4) (i 0))] (.cond (.s 5) (z [q 2 (.mv (.c (.string ⟨#[]⟩)))] .ret) .skip)) (z [m 6 0,m 7 0,c 8 187 7,
 q 9 (.sI (.s 6) none (some (.s 8))),m 2 9] .ret))⟩
def Sg:SF :=⟨2,47,[.t 4],z [q 4 (.mv ff)] (z [m 8 0,c 9 191 8,m 10 1,c 11 191 10,m 5 9,m 6 11] (.seq (z [q 7 (.mv (i 0))] (.block 0 (.loop (.seq (z [m 12 7,m 13 5,n 14 13,q 15 (.int .lss (.s 12) (.s 14)),m 16 15,ym 17 16 7,
 ym 18 16 6,y 19 16 (.len (.s 18)),y 20 16 (.int .lss (.s 17) (.s 19)),p 21 16 20] (.cond (.s 21) .skip (.exit 0))) (.seq (.block 1 (.seq (.bp [0,1,2,4,5,6,3,7,8] [m' 24 5,m' 25 7,b' 26 1 24 25,m' 28 6,m' 29 7,
 b' 30 1 28 29,l' 27 1 26,l' 31 1 30,q' 32 (.str .neq (.s 27) (.s 31))]) (.cond (.s 32) (.seq (.bp [0,1,2,4,5,6,3,7,8,9] [m' 33 5,m' 34 7,b' 35 1 33 34,m' 37 6,m' 38 7,b' 39 1 37 38,l' 36 1 35,l' 40 1 39,
 q' 41 (.str .lss (.s 36) (.s 40)),m' 4 41]) .ret) .skip))) (.bL [m 22 7,q 23 (.int .add (.s 22) (i 1)),m 7 23])))))) (z [m 42 5,n 43 42,m 44 6,n 45 44,q 46 (.int .lss (.s 43) (.s 45)),m 4 46] .ret)))⟩
def Mx:SF :=⟨1,7,[.t 2],z [q 2 (.mv (.c (.slice none 0 0)))] (.seq (z [m 3 0,q 4 (.str .eql (.s 3) (.c (.string ⟨#[]⟩)))] (.cond (.s 4) (z [q 2 (.mv (.c (.slice none 0 0)))] .ret) .skip)) (z [m 5 0,q 6 (.call 195 [.s 5,
 .c (.string ⟨#[47]⟩)]),m 2 6] .ret))⟩
def My:SF :=⟨2,36,[.t 4],z [q 4 (.mv (i 0))] (.seq (z [m 9 0,n 10 9,q 11 (.mv (i 0))] (.block 0 (.loop (z [q 12 (.int .lss (.s 11) (.s 10))] (.seq (.cond (.s 12) .skip (.exit 0)) (.seq (.block 1 (z [m 13 11,b 14 1 9 11,l 15 1 14,
 m 5 13,m 6 15] (.seq (z [m 16 5,m 17 1,n 18 17,q 19 (.int .geq (.s 16) (.s 18))] (.cond (.s 19) (z [q 4 (.mv (i 1))] .ret) .skip)) (z [m 20 1,m 21 5,b 22 1 20 21,l 23 1 22,m 7 23] (z [m 24 6,m 25 7,cc 26 196 24 25,
 m 8 26] (z [m 27 8,q 28 (.int .neq (.s 27) (i 0))] (.cond (.s 28) (z [m 29 8,m 4 29] .ret) .skip))))))) (.bL [q 30 (.int .add (.s 11) (i 1)),m 11 30]))))))) (.seq (z [m 31 0,n 32 31,m 33 1,n 34 33,
 q 35 (.int .lss (.s 32) (.s 34))] (.cond (.s 35) (z [q 4 (.mv (i (-1)))] .ret) .skip)) (z [q 4 (.mv (i 0))] .ret)))⟩
def Sh:SF :=⟨1,15,[.t 2,.t 3],z [q 2 (.mv (.c (.string ⟨#[]⟩))),q 3 (.mv (.c (.string ⟨#[]⟩)))] (z [m 5 0,q 6 (.call 197 [.s 5,.c (.string ⟨#[47]⟩)]),m 4 6] (.seq (.bp [0,1,2,3,4,5,6,7,8,9] [m' 7 0,m' 8 4,
 q' 9 (.mm true (.s 8) (i 0)),q' 10 (.sI (.s 7) none (some (.s 9))),m' 11 0,m' 12 4,q' 13 (.int .add (.s 12) (i 1)),q' 14 (.sI (.s 11) (some (.s 13)) none),m' 2 10,m' 3 14]) .ret))⟩
def Si:SF :=⟨1,8,[.t 2],z [q 2 (.mv (.c (.slice none 0 0)))] (.seq (z [m 3 0,q 4 (.nd (.ka false) [.s 3])] (.cond (.s 4) (z [q 2 (.mv (.c (.slice none 0 0)))] .ret) .skip)) (z [q 5 (.aO 1 []),m 6 0,
 q 7 (.app 1 1 (.s 5) (.s 6)),m 2 7] .ret))⟩
def Sj:SF :=⟨1,16,[.t 2],z [q 2 (.mv (i 0))] (.seq (z [m 4 0,q 5 (.dF (.s 4)),q 6 (.int .sub (.s 5) (i 1)),m 3 6] (.block 0 (.loop (.seq (z [m 7 3,
 q 8 (.int .geq (.s 7) (i 0))] (.cond (.s 8) .skip (.exit 0))) (.seq (.block 1 (z [m 11 0,m 12 3,q 13 (.jr (.s 11) (.s 12)),q 14 (.int .eql (.s 13) (u 47))] (.cond (.s 14) (z [m 15 3,m 2 15] .ret) .skip))) (.bL [m 9 3,
 q 10 (.int .sub (.s 9) (i 1)),m 3 10])))))) (z [q 2 (.mv (i (-1)))] .ret))⟩
def Sk:SF :=⟨2,19,[.t 4],z [q 4 (.mv (i 0))] (.seq (z [m 6 0,n 7 6,q 8 (.mv (i 0))] (.block 0 (.loop (z [q 9 (.int .lss (.s 8) (.s 7))] (.seq (.cond (.s 9) .skip (.exit 0)) (.seq (.block 1 (z [m 10 8,m 5 10] (z [m 11 1,m 12 0,
 m 13 5,b 14 3 12 13,t 15 3 14,q 16 (.er (.s 11) [.s 15])] (.cond (.s 16) (z [m 17 5,m 4 17] .ret) .skip)))) (.bL [q 18 (.int .add (.s 8) (i 1)),m 8 18]))))))) (z [q 4 (.mv (i (-1)))] .ret))⟩
def Sl:SF :=⟨1,34,[.t 2],z [q 2 (.mv (.c (.slice none 0 0)))] (.seq (z [m 6 0,
 q 7 (.str .eql (.s 6) (.c (.string ⟨#[]⟩)))] (.cond (.s 7) (z [q 2 (.mv (.c (.slice none 0 0)))] .ret) .skip)) (z [q 3 (.mv (.c (.slice none 0 0)))] (z [q 4 (.mv (i 0))] (.seq (z [q 5 (.mv (i 0))] (.block 0 (.loop (.seq (z [m 8 5,m 9 0,q 10 (.dF (.s 9)),q 11 (.int .leq (.s 8) (.s 10))] (.cond (.s 11) .skip (.exit 0))) (.seq (.block 1 (z [m 14 5,m 15 0,q 16 (.dF (.s 15)),q 17 (.int .eql (.s 14) (.s 16)),m 18 17,xm 19 18 0,xm 20 18 5,x 21 18 (.jr (.s 19) (.s 20)),x 22 18 (.int .eql (.s 21) (u 47)),r 23 18 22] (.cond (.s 23) (z [m 24 3,m 25 0,m 26 4,m 27 5,q 28 (.sI (.s 25) (some (.s 26)) (some (.s 27))),q 29 (.aO 1 [.s 28]),q 30 (.app 1 16 (.s 24) (.s 29)),m 3 30] (.bL [m 31 5,q 32 (.int .add (.s 31) (i 1)),m 4 32])) .skip))) (.bL [m 12 5,q 13 (.int .add (.s 12) (i 1)),m 5 13])))))) (z [m 33 3,m 2 33] .ret)))))⟩
def Sn:SF :=⟨1,19,[.t 2],z [q 2 (.mv (i 0))] (.seq (z [m 4 0,q 5 (.dF (.s 4)),q 6 (.int .gtr (.s 5) (i 128))] (.cond (.s 6) (z [q 2 (.mv (i 5))] .ret) .skip)) (z [m 7 0,c 8 181 7,m 3 8] (.seq (z [m 9 3,n 10 9,
 q 11 (.int .eql (.s 10) (i 0)),m 12 11,xm 13 12 3,x 14 12 (.call 201 [.s 13,.f 202]),r 15 12 14] (.cond (.s 15) (z [q 2 (.mv (i 6))] .ret) .skip)) (.seq (z [m 16 3,n 17 16,
 q 18 (.int .gtr (.s 17) (i 8))] (.cond (.s 18) (z [q 2 (.mv (i 5))] .ret) .skip)) (z [q 2 (.mv (i 0))] .ret)))))⟩
def Sp:SF :=⟨1,5,[.t 2],z [q 2 (.mv ff)] (z [m 3 0,q 4 (.call 203 [.s 3,.c (.string ⟨#[46,115,117,109,112,116,101,114]⟩)]),m 2 4] .ret)⟩
def Sq:SF :=⟨2,10,[.t 4],z [q 4 (.mv ff)] (z [m 5 0,q 6 (.nd .AY [.s 5]),m 7 1,q 8 (.nd .AY [.s 7]),q 9 (.str .eql (.s 6) (.s 8)),m 4 9] .ret)⟩
def Mz:SF :=⟨2,8,[.t 4],z [q 4 (.mv (.c (.slice none 0 0)))] (z [m 5 0,m 6 1,q 7 (.call 204 [.s 5,.s 6,i 0,i (-1)]),m 4 7] .ret)⟩
def MA:SF :=⟨2,20,[.t 4],z [q 4 (.mv (i 0))] (z [m 7 0,c 8 205 7,m 5 8] (z [m 9 1,c 10 205 9,
 m 6 10] (.seq (z [m 11 5] (.cond (.s 11) (.seq (z [m 12 6] (.cond (.s 12) (z [q 4 (.mv (i 0))] .ret) .skip)) (z [q 4 (.mv (i (-1)))] .ret)) .skip)) (.seq (z [m 13 6] (.cond (.s 13) (z [q 4 (.mv (i 1))] .ret) .skip)) (.seq (z [m 14 0,m 15 1,q 16 (.str .lss (.s 14) (.s 15))] (.cond (.s 16) (z [q 4 (.mv (i (-1)))] .ret) .skip)) (.seq (z [m 17 0,m 18 1,q 19 (.str .gtr (.s 17) (.s 18))] (.cond (.s 19) (z [q 4 (.mv (i 1))] .ret) .skip)) (z [q 4 (.mv (i 0))] .ret)))))))⟩
def Sr:SF :=⟨2,36,[.t 4],z [q 4 (.mv (i 0))] (z [m 6 1,q 7 (.dF (.s 6)),m 5 7] (.seq (.block 0 (z [m 9 5,q 10 (.int .eql (.s 9) (i 0)),m 8 10] (.cond (.s 8) (z [m 11 0,q 12 (.dF (.s 11)),m 4 12] .ret) (z [m 14 5,
 q 15 (.int .eql (.s 14) (i 1)),m 13 15] (.cond (.s 13) (z [m 16 0,m 17 1,q 18 (.jr (.s 17) (i 0)),cc 19 206 16 18,m 4 19] .ret) (z [m 21 5,m 22 0,q 23 (.dF (.s 22)),q 24 (.int .eql (.s 21) (.s 23)),
 m 20 24] (.cond (.s 20) (.seq (z [m 25 1,m 26 0,q 27 (.str .eql (.s 25) (.s 26))] (.cond (.s 27) (z [q 4 (.mv (i 0))] .ret) .skip)) (z [q 4 (.mv (i (-1)))] .ret)) (z [m 29 5,m 30 0,q 31 (.dF (.s 30)),
 q 32 (.int .gtr (.s 29) (.s 31)),m 28 32] (.cond (.s 28) (z [q 4 (.mv (i (-1)))] .ret) .skip))))))))) (z [m 33 0,m 34 1,q 35 .dead,m 4 35] .ret)))⟩
def Ss:SF :=⟨1,30,[.t 2],z [q 2 (.mv (i 0))] (.seq (z [m 5 0,q 6 (.dF (.s 5)),q 7 (.int .gtr (.s 6) (i 128))] (.cond (.s 7) (z [q 2 (.mv (i 5))] .ret) .skip)) (z [m 8 0,c 9 191 8,
 m 3 9] (.seq (z [q 4 (.mv (i 0))] (.block 0 (.loop (.seq (z [m 10 4,m 11 3,n 12 11,q 13 (.int .lss (.s 10) (.s 12))] (.cond (.s 13) .skip (.exit 0))) (.seq (.block 1 (z [m 16 3,m 17 4,b 18 1 16 17,l 19 1 18,c 20 209 19,
 q 21 (.not (.s 20))] (.cond (.s 21) (z [q 2 (.mv (i 6))] .ret) .skip))) (.bL [m 14 4,q 15 (.int .add (.s 14) (i 1)),m 4 15])))))) (.seq (.block 2 (z [m 23 3,n 24 23,q 25 (.int .eql (.s 24) (i 0)),
 m 22 25] (.cond (.s 22) (z [q 2 (.mv (i 6))] .ret) (z [m 27 3,n 28 27,q 29 (.int .gtr (.s 28) (i 8)),m 26 29] (.cond (.s 26) (z [q 2 (.mv (i 5))] .ret) .skip))))) (z [q 2 (.mv (i 0))] .ret)))))⟩
def Su:SF :=⟨1,11,[.t 2],z [q 2 (.mv ff)] (z [m 3 0,q 4 (.dF (.s 3)),q 5 (.int .geq (.s 4) (i 8)),m 6 5,ym 7 6 0,y 8 6 (.sI (.s 7) none (some (i 8))),y 9 6 (.str .eql (.s 8) (.c (.string ⟨#[46,115,117,109,112,116,101,114]⟩))),
 p 10 6 9,m 2 10] .ret)⟩
def Sw:SF :=⟨2,9,[.t 4],z [q 4 (.mv ff)] (z [m 5 0,m 6 1,cc 7 210 5 6,q 8 (.int .geq (.s 7) (i 0)),m 4 8] .ret)⟩
def Sx:SF :=⟨1,6,[.t 2],z [q 2 (.mv ff)] (z [m 3 0,c 4 211 3,q 5 (.not (.s 4)),m 2 5] .ret)⟩
def Sy:SF :=⟨2,8,[.t 4],z [q 4 (.mv ff)] (z [m 5 0,m 6 1,cc 7 212 5 6,m 4 7] .ret)⟩
def MB:SF :=⟨4,66,[.t 8],z [q 8 (.mv (.c (.slice none 0 0)))] (.seq (z [m 12 3,q 13 (.int .eql (.s 12) (i 0))] (.cond (.s 13) (z [q 8 (.mv (.c (.slice none 0 0)))] .ret) .skip)) (.seq (z [m 14 1,
 q 15 (.str .eql (.s 14) (.c (.string ⟨#[]⟩)))] (.cond (.s 15) (z [m 16 0,m 17 3,q 18 .dead,m 8 18] .ret) .skip)) (.seq (z [m 19 3,q 20 (.int .lss (.s 19) (i 0))] (.cond (.s 20) (.bL [m 21 0,m 22 1,cc 23 214 21 22,
 q 24 (.int .add (.s 23) (i 1)),m 3 24]) .skip)) (z [m 25 3,m 26 0,q 27 (.dF (.s 26)),q 28 (.int .add (.s 27) (i 1)),q 29 (.mm false (.s 25) (.s 28)),m 3 29] (z [m 30 3,
 q 31 (.cH (.UI 1 16 [.v (.string ⟨#[]⟩)]) [.s 30,.s 30]),m 9 31] (z [m 32 3,q 33 (.int .sub (.s 32) (i 1)),m 3 33] (z [q 10 (.mv (i 0))] (.seq (.block 0 (.loop (.seq (z [m 34 10,m 35 3,
 q 36 (.int .lss (.s 34) (.s 35))] (.cond (.s 36) .skip (.exit 0))) (.block 1 (z [m 37 0,m 38 1,cc 39 218 37 38,m 11 39] (.seq (z [m 40 11,q 41 (.int .lss (.s 40) (i 0))] (.cond (.s 41) (.exit 0) .skip)) (z [m 42 9,
 m 43 10,m 44 0,m 45 11,m 46 2,q 47 (.int .add (.s 45) (.s 46)),q 48 (.sI (.s 44) none (some (.s 47))),b 49 1 42 43,o 1 49 48] (z [m 50 0,m 51 11,m 52 1,q 53 (.dF (.s 52)),q 54 (.int .add (.s 51) (.s 53)),
 q 55 (.sI (.s 50) (some (.s 54)) none),m 0 55] (.bL [m 56 10,q 57 (.int .add (.s 56) (i 1)),m 10 57]))))))))) (z [m 58 9,m 59 10,m 60 0,b 61 1 58 59,o 1 61 60] (z [m 62 9,m 63 10,q 64 (.int .add (.s 63) (i 1)),
 q 65 (.gy 1 (.s 62) none (some (.s 64)) none),m 8 65] .ret))))))))))⟩
def MC:SF :=⟨1,6,[.t 2],z [q 2 (.mv ff)] (z [m 3 0,m 4 0,q 5 (.str .neq (.s 3) (.s 4)),m 2 5] .ret)⟩
def Sz:SF :=⟨2,19,[.t 4],z [q 4 (.mv (i 0))] (.seq (z [m 6 0,q 7 (.dF (.s 6)),q 8 (.int .sub (.s 7) (i 1)),m 5 8] (.block 0 (.loop (.seq (z [m 9 5,
 q 10 (.int .geq (.s 9) (i 0))] (.cond (.s 10) .skip (.exit 0))) (.seq (.block 1 (z [m 13 0,m 14 5,q 15 (.jr (.s 13) (.s 14)),m 16 1,q 17 (.int .eql (.s 15) (.s 16))] (.cond (.s 17) (z [m 18 5,
 m 4 18] .ret) .skip))) (.bL [m 11 5,q 12 (.int .sub (.s 11) (i 1)),m 5 12])))))) (z [q 4 (.mv (i (-1)))] .ret))⟩
def SA:SF :=⟨1,42,[.t 2],z [q 2 (.mv ff)] (.seq (z [m 4 0,q 5 (.dF (.s 4)),q 6 (.int .lss (.s 5) (i 1)),m 7 6,xm 8 7 0,x 9 7 (.dF (.s 8)),x 10 7 (.int .gtr (.s 9) (i 32)),r 11 7 10,m 12 11,xm 13 12 0,
 x 14 12 (.str .eql (.s 13) (.c (.string ⟨#[46]⟩))),r 15 12 14,m 16 15,xm 17 16 0,x 18 16 (.str .eql (.s 17) (.c (.string ⟨#[46,46]⟩))),
 r 19 16 18] (.cond (.s 19) (z [q 2 (.mv ff)] .ret) .skip)) (.seq (z [q 3 (.mv (i 0))] (.block 0 (.loop (.seq (z [m 20 3,m 21 0,q 22 (.dF (.s 21)),
 q 23 (.int .lss (.s 20) (.s 22))] (.cond (.s 23) .skip (.exit 0))) (.seq (.block 1 (z [m 26 0,m 27 3,q 28 (.jr (.s 26) (.s 27)),q 29 (.int .eql (.s 28) (u 47)),m 30 29,xm 31 30 0,xm 32 30 3,
 x 33 30 (.jr (.s 31) (.s 32)),x 34 30 (.int .lss (.s 33) (u 33)),r 35 30 34,m 36 35,xm 37 36 0,xm 38 36 3,x 39 36 (.jr (.s 37) (.s 38)),x 40 36 (.int .gtr (.s 39) (u 126)),
 r 41 36 40] (.cond (.s 41) (z [q 2 (.mv ff)] .ret) .skip))) (.bL [m 24 3,q 25 (.int .add (.s 24) (i 1)),m 3 25])))))) (z [q 2 (.mv tt)] .ret)))⟩
def SB:SF :=⟨2,19,[.t 4],z [q 4 (.mv (i 0))] (.seq (z [m 6 0,n 7 6,q 8 (.mv (i 0))] (.block 0 (.loop (z [q 9 (.int .lss (.s 8) (.s 7))] (.seq (.cond (.s 9) .skip (.exit 0)) (.seq (.block 1 (z [m 10 8,m 5 10] (z [m 11 1,m 12 0,
 m 13 5,b 14 1 12 13,l 15 1 14,q 16 (.er (.s 11) [.s 15])] (.cond (.s 16) (z [m 17 5,m 4 17] .ret) .skip)))) (.bL [q 18 (.int .add (.s 8) (i 1)),m 8 18]))))))) (z [q 4 (.mv (i (-1)))] .ret))⟩
def SD:SF :=⟨1,39,[.t 2],z [q 2 (.mv ff)] (.seq (z [m 5 0,q 6 (.str .eql (.s 5) (.c (.string ⟨#[]⟩))),m 7 6,xm 8 7 0,x 9 7 (.dF (.s 8)),x 10 7 (.int .gtr (.s 9) (i 32)),r 11 7 10,m 12 11,xm 13 12 0,
 x 14 12 (.str .eql (.s 13) (.c (.string ⟨#[46]⟩))),r 15 12 14,m 16 15,xm 17 16 0,x 18 16 (.str .eql (.s 17) (.c (.string ⟨#[46,46]⟩))),r 19 16 18] (.cond (.s 19) (z [q 2 (.mv ff)] .ret) .skip)) (.seq (z [m 20 0,
 q 21 (.dF (.s 20)),q 22 (.mv (i 0))] (.block 0 (.loop (z [q 23 (.int .lss (.s 22) (.s 21))] (.seq (.cond (.s 23) .skip (.exit 0)) (.seq (.block 1 (z [m 24 22,m 3 24] (z [m 25 0,m 26 3,q 27 (.jr (.s 25) (.s 26)),
 m 4 27] (z [m 28 4,q 29 (.int .eql (.s 28) (u 47)),m 30 29,xm 31 30 4,x 32 30 (.int .leq (.s 31) (u 32)),r 33 30 32,m 34 33,xm 35 34 4,x 36 34 (.int .gtr (.s 35) (u 126)),
 r 37 34 36] (.cond (.s 37) (z [q 2 (.mv ff)] .ret) .skip))))) (.bL [q 38 (.int .add (.s 22) (i 1)),m 22 38]))))))) (z [q 2 (.mv tt)] .ret)))⟩
def SE:SF :=⟨2,18,[.t 4],z [q 4 (.mv ff)] (z [m 5 0,q 6 (.dF (.s 5)),m 7 1,q 8 (.dF (.s 7)),q 9 (.int .geq (.s 6) (.s 8)),m 10 9,ym 11 10 0,ym 12 10 1,y 13 10 (.dF (.s 12)),y 14 10 (.sI (.s 11) none (some (.s 13))),
 ym 15 10 1,y 16 10 (.str .eql (.s 14) (.s 15)),p 17 10 16,m 4 17] .ret)⟩
def MD:SF :=⟨2,34,[.t 4],z [q 4 (.mv (i 0))] (.seq (z [m 7 1,q 8 (.dF (.s 7)),q 9 (.int .eql (.s 8) (i 0))] (.cond (.s 9) (z [m 10 0,q 11 .dead,q 12 (.int .add (.s 11) (i 1)),m 4 12] .ret) .skip)) (.seq (z [m 13 1,
 q 14 (.dF (.s 13)),q 15 (.int .eql (.s 14) (i 1))] (.cond (.s 15) (z [m 16 0,m 17 1,q 18 (.jr (.s 17) (i 0)),q 19 (.nd .J0 [.s 16,.s 18]),
 m 4 19] .ret) .skip)) (z [q 5 (.mv (i 0))] (.block 0 (.loop (.block 1 (z [m 20 0,m 21 1,cc 22 218 20 21,m 6 22] (.seq (z [m 23 6,q 24 (.int .eql (.s 23) (i (-1)))] (.cond (.s 24) (z [m 25 5,
 m 4 25] .ret) .skip)) (z [m 26 5,q 27 (.int .add (.s 26) (i 1)),m 5 27] (.bL [m 28 0,m 29 6,m 30 1,q 31 (.dF (.s 30)),q 32 (.int .add (.s 29) (.s 31)),q 33 (.sI (.s 28) (some (.s 32)) none),m 0 33]))))))))))⟩
def ME:SF :=⟨2,8,[.t 4],z [q 4 (.mv (i 0))] (z [m 5 0,m 6 1,cc 7 219 5 6,m 4 7] .ret)⟩
def MF:SF :=⟨2,143,[.t 4],z [q 4 (.mv (i 0))] (z [m 14 1,q 15 (.dF (.s 14)),m 5 15] (.seq (.block 0 (z [m 17 5,q 18 (.int .eql (.s 17) (i 0)),m 19 18,xm 20 19 1,xm 21 19 0,x 22 19 (.str .eql (.s 20) (.s 21)),r 23 19 22,
 m 16 23] (.cond (.s 16) (z [q 4 (.mv (i 0))] .ret) (z [m 25 5,q 26 (.int .eql (.s 25) (i 1)),m 24 26] (.cond (.s 24) (z [m 27 0,m 28 1,q 29 (.jr (.s 28) (i 0)),cc 30 221 27 29,m 4 30] .ret) (z [m 32 5,m 33 0,
 q 34 (.dF (.s 33)),q 35 (.int .geq (.s 32) (.s 34)),m 31 35] (.cond (.s 31) (z [q 4 (.mv (i (-1)))] .ret) (z [m 37 5,q 38 .dead,q 39 (.int .leq (.s 37) (.s 38)),m 40 39,ym 41 40 0,y 42 40 (.dF (.s 41)),
 y 43 40 (.int .leq (.s 42) (i 64)),p 44 40 43,m 36 44] (.cond (.s 36) (z [m 45 0,m 46 1,q 47 .dead,m 4 47] .ret) .skip))))))))) (z [m 48 1,q 49 (.jr (.s 48) (i 0)),m 6 49] (z [m 50 1,q 51 (.jr (.s 50) (i 1)),
 m 7 51] (z [q 8 (.mv (i 0))] (z [m 52 0,q 53 (.dF (.s 52)),m 54 5,q 55 (.int .sub (.s 53) (.s 54)),q 56 (.int .add (.s 55) (i 1)),m 9 56] (z [q 10 (.mv (i 0))] (.seq (.block 1 (.loop (.seq (z [m 57 8,m 58 9,
 q 59 (.int .lss (.s 57) (.s 58))] (.cond (.s 59) .skip (.exit 1))) (.block 2 (.seq (z [m 60 0,m 61 8,q 62 (.jr (.s 60) (.s 61)),m 63 6,q 64 (.int .neq (.s 62) (.s 63))] (.cond (.s 64) (z [m 65 0,m 66 8,
 q 67 (.int .add (.s 66) (i 1)),m 68 9,q 69 (.sI (.s 65) (some (.s 67)) (some (.s 68))),m 70 6,cc 71 221 69 70,m 11 71] (.seq (z [m 72 11,
 q 73 (.int .lss (.s 72) (i 0))] (.cond (.s 73) (z [q 4 (.mv (i (-1)))] .ret) .skip)) (.bL [m 74 8,m 75 11,q 76 (.int .add (.s 75) (i 1)),q 77 (.int .add (.s 74) (.s 76)),m 8 77]))) .skip)) (.seq (z [m 78 0,m 79 8,
 q 80 (.int .add (.s 79) (i 1)),q 81 (.jr (.s 78) (.s 80)),m 82 7,q 83 (.int .eql (.s 81) (.s 82)),m 84 83,ym 85 84 0,ym 86 84 8,ym 87 84 8,ym 88 84 5,y 89 84 (.int .add (.s 87) (.s 88)),
 y 90 84 (.sI (.s 85) (some (.s 86)) (some (.s 89))),ym 91 84 1,y 92 84 (.str .eql (.s 90) (.s 91)),p 93 84 92] (.cond (.s 93) (z [m 94 8,m 4 94] .ret) .skip)) (z [m 95 8,q 96 (.int .add (.s 95) (i 1)),
 m 8 96] (z [m 97 10,q 98 (.int .add (.s 97) (i 1)),m 10 98] (z [m 99 5,q 100 .dead,q 101 (.int .leq (.s 99) (.s 100)),m 102 101,ym 103 102 10,ym 104 102 8,y 105 102 .dead,y 106 102 (.int .gtr (.s 103) (.s 105)),
 p 107 102 106] (.cond (.s 107) (z [m 108 0,m 109 8,q 110 (.sI (.s 108) (some (.s 109)) none),m 111 1,q 112 .dead,m 12 112] (.seq (z [m 113 12,q 114 (.int .geq (.s 113) (i 0))] (.cond (.s 114) (z [m 115 12,m 116 8,
 q 117 (.int .add (.s 115) (.s 116)),m 4 117] .ret) .skip)) (z [q 4 (.mv (i (-1)))] .ret))) (z [m 118 5,q 119 .dead,q 120 (.int .gtr (.s 118) (.s 119)),m 121 120,ym 122 121 10,ym 123 121 8,
 y 124 121 (.int .shr (.s 123) (.c (.int .u64 4))),y 125 121 (.int .add (i 4) (.s 124)),y 126 121 (.int .geq (.s 122) (.s 125)),p 127 121 126,m 128 127,ym 129 128 8,ym 130 128 9,y 131 128 (.int .lss (.s 129) (.s 130)),
 p 132 128 131] (.cond (.s 132) (z [m 133 0,m 134 8,q 135 (.sI (.s 133) (some (.s 134)) none),m 136 1,q 137 .dead,m 13 137] (.seq (z [m 138 13,
 q 139 (.int .lss (.s 138) (i 0))] (.cond (.s 139) (z [q 4 (.mv (i (-1)))] .ret) .skip)) (z [m 140 8,m 141 13,q 142 (.int .add (.s 140) (.s 141)),m 4 142] .ret))) .skip)))))))))))) (z [q 4 (.mv (i (-1)))] .ret)))))))))⟩
def MG:SF :=⟨2,8,[.t 4],z [q 4 (.mv (i 0))] (z [m 5 0,m 6 1,q 7 (.nd .LU [.s 5,.s 6]),m 4 7] .ret)⟩
def SG:SF :=⟨1,10,[.t 2],z [q 2 (.mv (.c (.pointer none)))] (z [m 3 0,q 4 (.mm false (.s 3) (i 16777216)),q 5 (.mm true (i 0) (.s 4)),q 6 (.cH (.m .mk) []),q 7 (.cH (.m .mk) []),q 8 (.build [.v (.int .i64 0),.v (.map none),
 .v (.map none),.v (.slice none 0 0),.v (.slice none 0 0),.v (.bool false),.v (.int .i64 0),.v (.int .i64 0),.v (.bool false),.v (.int .i64 0)] [(0,1,.s 5),(1,1,.s 6),(2,1,.s 7),(7,1,i (-1)),(9,1,i (-1))]),
 q 9 (.box none 10 (.s 8)),m 2 9] .ret)⟩
def SH:SF :=⟨1,7,[.cell 2 true 9],z [q 2 (.alloc (some 0) O1)] (z [m 3 0,q 4 (.mm false (.s 3) (i 16777216)),q 5 (.mm true (i 0) (.s 4)),q 6 (.build O1 [(0,1,.s 5),(6,1,i (-1)),(8,1,i (-1))]),o 9 2 6] .ret)⟩
def SI:SF :=⟨3,188,[.cell 6 true 9,.t 7],z [q 4 (.box (some 0) 9 (.s 1)),q 5 (.box (some 1) 6 (.s 2)),q 6 (.alloc (some 2) O1),q 7 (.mv ff)] (z [q 8 (.mv (i 0)),q 9 (.mv (i 0))] (.seq (z [f 12 0 5,l 13 1 12,
 q 14 (.int .rem (.s 13) (u 12))] (.block 0 (z [q 28 (.int .eql (.s 14) (u 0)),m 27 28] (.cond (.s 27) (z [m 29 0,f 30 1 5,l 31 1 30,cc 32 299 29 31,m 8 32] (.bL [t 34 9 4,f 35 1 5,l 36 1 35,cc 37 320 34 36,m 33 37,
 e 38 0 33,e 39 1 33,o 9 4 38,m 9 39])) (z [q 41 (.int .eql (.s 14) (u 1)),m 40 41] (.cond (.s 40) (z [q 42 (.aO 1 []),f 43 3 5,l 44 1 43,q 45 (.app 1 1 (.s 42) (.s 44)),m 10 45] (z [m 46 0,f 47 1 5,l 48 1 47,m 49 10,
 q 50 (.call 302 [.s 46,.s 48,.s 49]),m 8 50] (.seq (z [q 11 (.mv (i 0))] (.block 1 (.loop (.seq (z [m 51 11,m 52 10,n 53 52,
 q 54 (.int .lss (.s 51) (.s 53))] (.cond (.s 54) .skip (.exit 1))) (.seq (.block 2 (.bL [m 57 10,m 58 11,b 59 1 57 58,l 60 1 59,q 61 (.int .add (.s 60) (u 1)),b 62 1 57 58,o 1 62 61])) (.bL [m 55 11,
 q 56 (.int .add (.s 55) (i 1)),m 11 56])))))) (.bL [t 64 9 4,f 65 1 5,l 66 1 65,f 67 3 5,l 68 1 67,q 69 (.call 321 [.s 64,.s 66,.s 68]),m 63 69,e 70 0 63,e 71 1 63,o 9 4 70,
 m 9 71])))) (z [q 73 (.int .eql (.s 14) (u 2)),m 72 73] (.cond (.s 72) (z [m 74 0,f 75 1 5,l 76 1 75,f 77 4 5,l 78 1 77,q 79 (.call 301 [.s 74,.s 76,.s 78]),m 8 79] (.bL [t 81 9 4,f 82 1 5,l 83 1 82,f 84 4 5,l 85 1 84,
 q 86 (.call 322 [.s 81,.s 83,.s 85]),m 80 86,e 87 0 80,e 88 1 80,o 9 4 87,m 9 88])) (z [q 90 (.int .eql (.s 14) (u 3)),m 89 90] (.cond (.s 89) (z [m 91 0,f 92 1 5,l 93 1 92,cc 94 303 91 93,m 8 94] (.bL [t 96 9 4,
 f 97 1 5,l 98 1 97,cc 99 323 96 98,m 95 99,e 100 0 95,e 101 1 95,o 9 4 100,m 9 101])) (z [q 103 (.int .eql (.s 14) (u 4)),m 102 103] (.cond (.s 102) (z [m 104 0,f 105 1 5,l 106 1 105,cc 107 308 104 106,
 m 8 107] (.bL [t 109 9 4,f 110 1 5,l 111 1 110,cc 112 324 109 111,m 108 112,e 113 0 108,e 114 1 108,o 9 4 113,m 9 114])) (z [q 116 (.int .eql (.s 14) (u 5)),m 115 116] (.cond (.s 115) (z [m 117 0,f 118 1 5,l 119 1 118,
 cc 120 298 117 119,m 8 120] (.bL [t 122 9 4,f 123 1 5,l 124 1 123,cc 125 325 122 124,m 121 125,e 126 0 121,e 127 1 121,o 9 4 126,m 9 127])) (z [q 129 (.int .eql (.s 14) (u 6)),m 128 129] (.cond (.s 128) (z [m 130 0,
 f 131 1 5,l 132 1 131,f 133 2 5,l 134 1 133,q 135 (.call 309 [.s 130,.s 132,.s 134]),m 8 135] (.bL [t 137 9 4,f 138 1 5,l 139 1 138,f 140 2 5,l 141 1 140,q 142 (.call 326 [.s 137,.s 139,.s 141]),m 136 142,e 143 0 136,
 e 144 1 136,o 9 4 143,m 9 144])) (z [q 146 (.int .eql (.s 14) (u 7)),m 145 146] (.cond (.s 145) (z [m 147 0,c 148 304 147,m 8 148] (.bL [t 150 9 4,c 151 327 150,m 149 151,e 152 0 149,e 153 1 149,o 9 4 152,
 m 9 153])) (z [q 155 (.int .eql (.s 14) (u 8)),m 154 155] (.cond (.s 154) (z [m 156 0,f 157 4 5,l 158 1 157,f 159 5 5,l 160 1 159,q 161 (.call 310 [.s 156,.s 158,.s 160]),m 8 161] (.bL [t 163 9 4,f 164 4 5,l 165 1 164,
 f 166 5 5,l 167 1 166,q 168 (.call 328 [.s 163,.s 165,.s 167]),m 162 168,e 169 0 162,e 170 1 162,o 9 4 169,m 9 170])) (z [q 172 (.int .eql (.s 14) (u 9)),m 171 172] (.cond (.s 171) (z [m 173 0,f 174 4 5,l 175 1 174,
 cc 176 311 173 175,m 8 176] (.bL [t 178 9 4,f 179 4 5,l 180 1 179,cc 181 319 178 180,m 177 181,e 182 0 177,e 183 1 177,o 9 4 182,m 9 183])) (z [m 15 0,f 16 4 5,l 17 1 16,f 18 3 5,l 19 1 18,q 20 (.call 297 [.s 15,.s 17,
 .s 19])] (.bL [t 21 9 4,f 22 4 5,l 23 1 22,f 24 3 5,l 25 1 24,q 26 (.call 318 [.s 21,.s 23,.s 25]),o 9 4 26])))))))))))))))))))))))) (z [t 184 9 4,m 185 8,m 186 9,q 187 (.int .eql (.s 185) (.s 186)),o 9 6 184,
 m 7 187] .ret)))⟩
def SJ:SF :=⟨3,136,[],.seq (z [m 13 0,q 14 (.eq .ptr false (.s 13) (.c (.pointer none)))] (.cond (.s 14) .ret .skip)) (z [m 15 0,m 16 0,j 17 16,f 18 1 17,l 19 1 18,c 20 329 19,j 21 15,f 22 2 21,o 1 22 20] (.seq (.seq (.bp [0,1,2,
 4,5,6,7,14,3,8,9,10,11,12,13] [m' 23 0,j' 24 23,f' 25 3 24,m' 27 1,m' 28 0,j' 29 28,f' 30 3 29,q' 37 (.mv (i 0)),l' 26 1 25,l' 31 1 30,n' 32 31,q' 33 (.mm false (.s 27) (.s 32)),q' 34 (.mm true (i 0) (.s 33)),
 q' 35 (.gy 2 (.s 26) none (some (.s 34)) none),n' 36 35]) (.block 0 (.loop (z [q 38 (.int .lss (.s 37) (.s 36))] (.seq (.cond (.s 38) .skip (.exit 0)) (.seq (.block 1 (z [b 39 2 35 37,t 40 2 39,
 q 7 (.alloc (some 0) [.v (.slice none 0 0),.v (.slice none 0 0)]),o 2 7 40] (.bp [0,1,2,3,4,5] [m' 41 0,j' 42 41,f' 43 2 42,l' 44 1 43,t' 45 2 7,w (cc 46 330 44 45)]))) (.bL [q 47 (.int .add (.s 37) (i 1)),
 m 37 47]))))))) (z [m 48 0,m 49 0,m 50 0,j 51 50,f 52 2 51,l 53 1 52,c 54 329 53,j 55 48,f 56 1 55,o 1 56 54,j 57 49,f 58 3 57,⟨none,.store 1 (.s 58) (.c (.slice none 0 0)),none⟩] (.seq (z [m 59 0,c 60 331 59,n 61 60,
 q 62 (.mv (i 0))] (.block 2 (.loop (z [q 63 (.int .lss (.s 62) (.s 61))] (.seq (.cond (.s 63) .skip (.exit 2)) (.seq (.block 3 (z [b 64 1 60 62,l 65 1 64,m 9 65] (z [m 67 0,m 68 9,cc 69 332 67 68,m 66 69,e 70 0 66,
 e 71 1 66,m 10 70,m 11 71] (.seq (z [m 72 11,q 73 (.int .neq (.s 72) (i 0))] (.cond (.s 73) (.exit 3) .skip)) (.seq (.seq (.bp [0,1,2,5,6,7,3,4,8,9,10] [m' 74 10,j' 75 74,f' 76 0 75,m' 79 10,j' 80 79,f' 81 1 80,
 l' 77 1 76,n' 78 77,l' 82 1 81,q' 83 (.int .sub (.s 78) (.s 82)),m' 12 83]) (z [m 84 12,q 85 (.int .gtr (.s 84) (i 0)),m 86 85,ym 87 86 2,y 88 86 (.len (.s 87)),y 89 86 (.int .gtr (.s 88) (i 0)),
 p 90 86 89] (.cond (.s 90) (.seq (.bp [0,1,2,4,5,8,9,3,6,7,10,11,12,13,14] [m' 91 10,j' 92 91,f' 93 1 92,m' 95 2,q' 96 (.idx 1 (.s 95) (i 0)),m' 99 12,q' 100 (.int .add (.s 99) (i 1)),l' 94 1 93,l' 97 1 96,
 q' 98 (.conv .i64 (.s 97)),q' 101 (.int .rem (.s 98) (.s 100)),q' 102 (.int .add (.s 94) (.s 101)),j' 103 91,f' 104 1 103,o' 1 104 102]) (.bL [m 105 2,q 106 (.gy 1 (.s 105) (some (i 1)) none none),
 m 2 106])) .skip))) (.bp [0,1,2,3,5,6,7,9,10,11,4,8,12,13,14,15,16] [m' 107 10,m' 108 10,j' 109 108,f' 110 0 109,m' 112 10,j' 113 112,f' 114 1 113,m' 116 10,j' 117 116,f' 118 1 117,l' 111 1 110,l' 115 1 114,
 l' 119 1 118,q' 120 (.gy 1 (.s 111) none (some (.s 115)) (some (.s 119))),j' 121 107,f' 122 0 121,o' 1 122 120])))))) (.bL [q 123 (.int .add (.s 62) (i 1)),m 62 123]))))))) (.bL [m 124 0,m 125 0,m 126 0,m 127 0,
 j 128 124,f 129 5 128,⟨none,.store 1 (.s 129) ff,none⟩,j 130 125,f 131 8 130,⟨none,.store 1 (.s 131) ff,none⟩,j 132 126,f 133 7 132,⟨none,.store 1 (.s 133) (i (-1)),none⟩,j 134 127,f 135 9 134,⟨none,
 .store 1 (.s 135) (i (-1)),none⟩])))))⟩
def SK:SF :=⟨2,43,[.t 4],z [q 2 (.box none 1 (.s 0)),q 3 (.box none 1 (.s 1)),q 4 (.mv (i 0))] (.seq (z [l 9 1 2,l 10 1 3,q 11 (.aO 1 [.s 10]),cc 12 333 9 11,m 5 12] (z [m 13 5,
 q 14 (.int .neq (.s 13) (i 0))] (.cond (.s 14) (z [m 15 5,m 4 15] .ret) .skip))) (.seq (.seq (.bp [0,1,2,3,4,9,5,6,7,8,10,11] [l' 17 1 2,j' 18 17,f' 19 2 18,l' 20 1 19,l' 21 1 3,q' 6 (.alloc (some 2) [.v (.bool false),
 .v (.int .i64 0)]),q' 22 (.cH (.m (.CF true true true [.v (.bool false),.v (.int .i64 0)])) [.s 20,.s 21]),m' 16 22,e' 23 0 16,e' 24 1 16,o' 2 6 23,m' 7 24]) (z [m 25 7,
 q 26 (.not (.s 25))] (.cond (.s 26) (z [q 4 (.mv (i 8))] .ret) .skip))) (.seq (z [l 27 1 2,j 28 27,f 29 2 28,l 30 1 29,q 31 (.cH (.m .PY) [.s 30])] (.block 0 (.loop (z [q 32 (.cH (.m .UB) [.s 31]),
 e 33 0 32] (.seq (.cond (.s 33) .skip (.exit 0)) (.block 1 (z [q 34 (.cH (.m .UD) [.s 31]),e 35 0 34,m 8 35] (.seq (.bp [0,2,1,3] [m' 36 8,l' 38 1 3,⟨c 37 164 36,[1]⟩,
 q' 39 (.str .eql (.s 37) (.s 38))]) (.cond (.s 39) (z [q 4 (.mv (i 10))] .ret) .skip))))))))) (z [l 40 1 2,q 41 (.iD 334 [.s 2,.s 3]),cc 42 335 40 41,m 4 42] .ret))))⟩
def SL:SF :=⟨2,8,[.t 4],z [q 4 (.mv (i 0))] (z [m 5 0,m 6 1,q 7 (.call 336 [.s 5,.s 6,ff]),m 4 7] .ret)⟩
def SM:SF :=⟨2,28,[.t 4,.t 5],z [q 4 (.mv (.c (.slice none 0 0))),q 5 (.mv (i 0))] (.seq (z [m 9 0,q 10 (.call 333 [.s 9,.c (.slice none 0 0)]),m 6 10] (z [m 11 6,q 12 (.int .neq (.s 11) (i 0))] (.cond (.s 12) (z [m 13 6,
 q 4 (.mv (.c (.slice none 0 0))),m 5 13] .ret) .skip))) (z [m 15 0,m 16 1,cc 17 332 15 16,m 14 17,e 18 0 14,e 19 1 14,m 7 18,m 8 19] (.seq (z [m 20 8,q 21 (.int .neq (.s 20) (i 0))] (.cond (.s 21) (z [m 22 8,
 q 4 (.mv (.c (.slice none 0 0))),m 5 22] .ret) .skip)) (z [m 23 7,j 24 23,f 25 0 24,l 26 1 25,c 27 186 26,m 4 27,q 5 (.mv (i 0))] .ret))))⟩
def SO:SF :=⟨3,12,[.t 6],z [q 5 (.box none 1 (.s 2)),q 6 (.mv (i 0))] (z [m 7 0,m 8 1,q 9 (.iD 337 [.s 5]),q 10 (.iD 338 [.s 5]),q 11 (.call 339 [.s 7,.s 8,.s 9,.s 10]),m 6 11] .ret)⟩
def SP:SF :=⟨3,12,[.t 6],z [q 3 (.box none 1 (.s 0)),q 5 (.box none 1 (.s 2)),q 6 (.mv (i 0))] (z [l 7 1 3,m 8 1,q 9 (.iD 340 [.s 5,.s 3]),q 10 (.iD 341 [.s 5]),q 11 (.call 339 [.s 7,.s 8,.s 9,.s 10]),m 6 11] .ret)⟩
def SQ:SF :=⟨2,8,[.t 4],z [q 4 (.mv (i 0))] (z [m 5 0,m 6 1,q 7 (.call 339 [.s 5,.s 6,.f 342,.f 343]),m 4 7] .ret)⟩
def SR:SF :=⟨1,12,[.t 2],z [q 1 (.box none 1 (.s 0)),q 2 (.mv (i 0))] (.seq (z [l 4 1 1,q 5 (.call 333 [.s 4,.c (.slice none 0 0)]),m 3 5] (z [m 6 3,q 7 (.int .neq (.s 6) (i 0))] (.cond (.s 7) (z [m 8 3,
 m 2 8] .ret) .skip))) (z [l 9 1 1,q 10 (.iD 344 [.s 1]),cc 11 335 9 10,m 2 11] .ret))⟩
def Afq:SF :=⟨2,8,[.t 4],z [q 4 (.mv (i 0))] (z [m 5 0,m 6 1,q 7 (.call 336 [.s 5,.s 6,tt]),m 4 7] .ret)⟩
def SU:SF :=⟨3,60,[.t 6],z [q 3 (.box none 1 (.s 0)),q 4 (.box none 1 (.s 1)),q 5 (.box none 1 (.s 2)),q 6 (.mv (i 0))] (.seq (z [l 14 1 3,l 15 1 4,l 16 1 5,q 17 (.aO 1 [.s 15,.s 16]),cc 18 333 14 17,m 7 18] (z [m 19 7,
 q 20 (.int .neq (.s 19) (i 0))] (.cond (.s 20) (z [m 21 7,m 6 21] .ret) .skip))) (.seq (z [l 23 1 3,l 24 1 4,cc 25 332 23 24,m 22 25,e 26 0 22,e 27 1 22,m 8 26,m 9 27] (z [m 28 9,
 q 29 (.int .neq (.s 28) (i 0))] (.cond (.s 29) (z [m 30 9,m 6 30] .ret) .skip))) (.seq (z [l 31 1 3,l 32 1 5,cc 33 350 31 32,m 10 33] (z [m 34 10,q 35 (.int .neq (.s 34) (i 0))] (.cond (.s 35) (z [m 36 10,
 m 6 36] .ret) .skip))) (.seq (.seq (.bp [0,1,2,3,4,9,5,6,7,8,10,11] [l' 38 1 3,j' 39 38,f' 40 2 39,l' 41 1 40,l' 42 1 5,q' 11 (.alloc (some 3) [.v (.bool false),.v (.int .i64 0)]),
 q' 43 (.cH (.m (.CF true true true [.v (.bool false),.v (.int .i64 0)])) [.s 41,.s 42]),m' 37 43,e' 44 0 37,e' 45 1 37,o' 2 11 44,m' 12 45]) (z [m 46 12,m 47 46,y 48 47 (.dZ 0 (.s 11)),y 49 47 (.load false 1 (.s 48)),
 p 50 47 49] (.cond (.s 50) (z [q 6 (.mv (i 9))] .ret) .skip))) (.seq (.bp [0,1,2,3,4,5,6,7] [l' 51 1 3,j' 52 51,f' 53 2 52,l' 54 1 53,l' 55 1 4,q' 56 (.ba true false true [.v (.bool false),
 .v (.int .i64 0)] (.s 54) (.s 55)),q' 13 (.alloc none [.v (.bool false),.v (.int .i64 0)]),o' 2 13 56]) (z [l 57 1 3,q 58 (.iD 351 [.s 3,.s 4,.s 5,.s 13]),cc 59 335 57 58,m 6 59] .ret))))))⟩
def SV:SF :=⟨3,23,[.t 6],z [q 6 (.mv (i 0))] (.seq (z [m 8 0,q 9 (.call 333 [.s 8,.c (.slice none 0 0)]),m 7 9] (z [m 10 7,q 11 (.int .neq (.s 10) (i 0))] (.cond (.s 11) (z [m 12 7,m 6 12] .ret) .skip))) (.seq (z [m 13 1,
 q 14 (.int .lss (.s 13) (i 0))] (.cond (.s 14) (z [q 6 (.mv (i 2))] .ret) .skip)) (z [m 15 0,m 16 0,m 17 1,m 18 2,j 19 15,f 20 7 19,o 1 20 17,j 21 16,f 22 8 21,o 1 22 18] (z [q 6 (.mv (i 0))] .ret))))⟩
def SX:SF :=⟨2,17,[.t 4],z [q 4 (.mv (i 0))] (.seq (z [m 6 0,q 7 (.call 333 [.s 6,.c (.slice none 0 0)]),m 5 7] (z [m 8 5,q 9 (.int .neq (.s 8) (i 0))] (.cond (.s 9) (z [m 10 5,m 4 10] .ret) .skip))) (.seq (z [m 11 1,
 q 12 (.int .lss (.s 11) (i 0))] (.cond (.s 12) (z [q 4 (.mv (i 2))] .ret) .skip)) (z [m 13 0,m 14 1,j 15 13,f 16 9 15,o 1 16 14] (z [q 4 (.mv (i 0))] .ret))))⟩
def SY:SF :=⟨1,48,[.t 2],z [q 2 (.mv (.c (.slice none 0 0)))] (.seq (z [m 9 0,q 10 (.call 333 [.s 9,.c (.slice none 0 0)]),
 q 11 (.int .neq (.s 10) (i 0))] (.cond (.s 11) (z [q 2 (.mv (.c (.slice none 0 0)))] .ret) .skip)) (z [q 3 (.mv (.c (.slice none 0 0)))] (.seq (z [m 12 0,c 13 331 12,n 14 13,
 q 15 (.mv (i 0))] (.block 0 (.loop (z [q 16 (.int .lss (.s 15) (.s 14))] (.seq (.cond (.s 16) .skip (.exit 0)) (.seq (.block 1 (z [b 17 1 13 15,l 18 1 17,m 5 18] (z [m 19 5,m 20 0,j 21 20,f 22 2 21,l 23 1 22,m 24 5,
 q 25 (.cH (.m (.CF true false true [.v (.bool false),.v (.int .i64 0)])) [.s 23,.s 24]),q 26 (.field false 0 1 (.s 25)),q 27 (.build [.v (.string ⟨#[]⟩),.v (.bool false),.v (.slice none 0 0)] [(0,1,.s 19),(1,1,
 .s 26)]),q 6 (.alloc (some 0) [.v (.string ⟨#[]⟩),.v (.bool false),.v (.slice none 0 0)]),o 3 6 27] (.seq (z [m 29 0,m 30 5,cc 31 332 29 30,m 28 31,e 32 0 28,e 33 1 28,m 7 32,m 8 33] (z [m 34 8,
 q 35 (.int .eql (.s 34) (i 0))] (.cond (.s 35) (.bL [m 36 7,j 37 36,f 38 0 37,l 39 1 38,c 40 186 39,f 41 2 6,o 1 41 40]) .skip))) (.bL [m 42 3,t 43 3 6,q 44 (.aO 3 [.s 43]),q 45 (.app 3 48 (.s 42) (.s 44)),
 m 3 45]))))) (.bL [q 46 (.int .add (.s 15) (i 1)),m 15 46]))))))) (z [m 47 3,m 2 47] .ret))))⟩
def SZ:SF :=⟨1,33,[.t 2],z [q 2 (.mv (i 0))] (.seq (z [m 6 0,q 7 (.eq .ptr false (.s 6) (.c (.pointer none)))] (.cond (.s 7) (z [q 2 (.mv (i 0))] .ret) .skip)) (z [q 3 (.mv (i 0))] (.seq (z [m 8 0,j 9 8,f 10 2 9,l 11 1 10,
 q 12 (.cH (.m .PY) [.s 11])] (.block 0 (.loop (z [q 13 (.cH (.m .UB) [.s 12]),e 14 0 13] (.seq (.cond (.s 14) .skip (.exit 0)) (.block 1 (z [q 15 (.cH (.m .UD) [.s 12]),e 16 1 15,
 q 5 (.alloc (some 0) [.v (.bool false),.v (.int .i64 0)]),o 2 5 16] (z [f 17 0 5,l 18 1 17,q 19 (.not (.s 18))] (.cond (.s 19) (.bp [0,1,2,3,5,4,6,7,8,9,10,11,12] [m' 20 3,m' 21 0,j' 22 21,f' 23 4 22,f' 25 1 5,
 l' 24 1 23,l' 26 1 25,b' 27 2 24 26,f' 28 0 27,l' 29 1 28,n' 30 29,q' 31 (.int .add (.s 20) (.s 30)),m' 3 31]) .skip))))))))) (z [m 32 3,m 2 32] .ret))))⟩
def S0:SF :=⟨1,11,[.t 2],z [q 2 (.mv ff)] (z [m 3 0,q 4 (.eq .ptr true (.s 3) (.c (.pointer none))),m 5 4,ym 6 5 0,y 7 5 (.gw (.s 6)),y 8 5 (.dZ 5 (.s 7)),y 9 5 (.load false 1 (.s 8)),p 10 5 9,m 2 10] .ret)⟩
def S1:SF :=⟨1,9,[.t 2],z [q 2 (.mv (i 0))] (.seq (z [m 3 0,q 4 (.eq .ptr false (.s 3) (.c (.pointer none)))] (.cond (.s 4) (z [q 2 (.mv (i 0))] .ret) .skip)) (z [m 5 0,j 6 5,f 7 6 6,l 8 1 7,m 2 8] .ret))⟩
def S2:SF :=⟨3,99,[.cell 6 true 9],z [q 3 (.box (some 0) 9 (.s 0)),q 6 (.alloc (some 1) O1)] (z [f 11 2 3,l 12 1 11,m 13 1,f 14 2 3,l 15 1 14,n 16 15,q 17 (.mm false (.s 13) (.s 16)),q 18 (.mm true (i 0) (.s 17)),
 q 19 (.gy 2 (.s 12) none (some (.s 18)) none),f 20 2 3,o 1 20 19] (z [t 21 9 3,c 22 352 21,f 23 1 3,o 1 23 22,f 24 2 3,⟨none,.store 1 (.s 24) (.c (.slice none 0 0)),none⟩] (z [q 25 (.aO 2 []),f 26 3 3,l 27 1 26,
 q 28 (.app 2 24 (.s 25) (.s 27)),f 29 3 3,o 1 29 28] (.seq (z [q 7 (.mv (i 0))] (.block 0 (.loop (.seq (z [m 30 7,f 31 1 3,l 32 1 31,n 33 32,
 q 34 (.int .lss (.s 30) (.s 33))] (.cond (.s 34) .skip (.exit 0))) (.seq (.block 1 (.seq (z [f 37 1 3,l 38 1 37,m 39 7,b 40 3 38 39,f 41 1 40,l 42 1 41] (.cond (.s 42) (.exit 1) .skip)) (.seq (.bp [0,2,4,1,3,5,6,7,8,9,
 10,11] [f' 43 3 3,f' 45 1 3,m' 47 7,l' 44 1 43,l' 46 1 45,b' 48 3 46 47,f' 49 2 48,l' 50 1 49,b' 51 2 44 50,t' 52 2 51,q' 8 (.alloc (some 2) [.v (.string ⟨#[]⟩),.v (.int .i64 0)]),o' 2 8 52]) (z [f 53 0 8,l 54 1 53,
 q 55 (.dF (.s 54)),f 56 1 8,l 57 1 56,q 58 (.int .sub (.s 55) (.s 57)),m 9 58] (z [f 59 1 8,l 60 1 59,m 10 60] (.seq (z [m 61 9,q 62 (.int .gtr (.s 61) (i 0)),m 63 62,ym 64 63 2,y 65 63 (.len (.s 64)),
 y 66 63 (.int .gtr (.s 65) (i 0)),p 67 63 66] (.cond (.s 67) (z [m 68 10,m 69 2,q 70 (.idx 1 (.s 69) (i 0)),l 71 1 70,q 72 (.conv .i64 (.s 71)),m 73 9,q 74 (.int .add (.s 73) (i 1)),q 75 (.int .rem (.s 72) (.s 74)),
 q 76 (.int .add (.s 68) (.s 75)),m 10 76] (.bL [m 77 2,q 78 (.gy 1 (.s 77) (some (i 1)) none none),m 2 78])) .skip)) (.bp [0,2,4,8,10,12,1,3,5,6,7,9,11,13,14,15] [f' 79 3 3,f' 81 1 3,m' 83 7,f' 87 0 8,m' 89 10,
 m' 91 10,l' 80 1 79,l' 82 1 81,b' 84 3 82 83,f' 85 2 84,l' 86 1 85,l' 88 1 87,q' 90 (.sI (.s 88) none (some (.s 89))),q' 92 (.build [.v (.string ⟨#[]⟩),.v (.int .i64 0)] [(0,1,.s 90),(1,1,.s 91)]),b' 93 2 80 86,
 o' 2 93 92]))))))) (.bL [m 35 7,q 36 (.int .add (.s 35) (i 1)),m 7 36])))))) (z [f 94 4 3,⟨none,.store 1 (.s 94) ff,none⟩,f 95 6 3,⟨none,.store 1 (.s 95) (i (-1)),none⟩,f 96 8 3,⟨none,.store 1 (.s 96) (i (-1)),none⟩,
 f 97 7 3,⟨none,.store 1 (.s 97) ff,none⟩] (z [t 98 9 3,o 9 6 98] .ret))))))⟩
def S3:SF :=⟨2,17,[.cell 4 true 9,.t 5],z [q 2 (.box (some 0) 9 (.s 0)),q 4 (.alloc (some 1) O1),q 5 (.mv (i 0))] (.seq (.block 0 (z [f 7 4 2,l 8 1 7,m 6 8] (.cond (.s 6) (z [t 9 9 2,o 9 4 9,q 5 (.mv (i 11))] .ret) (z [m 11 1,
 q 12 (.int .lss (.s 11) (i 0)),m 10 12] (.cond (.s 10) (z [t 13 9 2,o 9 4 13,q 5 (.mv (i 2))] .ret) .skip))))) (z [m 14 1,f 15 8 2,o 1 15 14] (z [t 16 9 2,o 9 4 16,q 5 (.mv (i 0))] .ret)))⟩
def S4:SF :=⟨2,11,[.cell 4 true 9,.t 5],z [q 2 (.box (some 0) 9 (.s 0)),q 4 (.alloc (some 1) O1),q 5 (.mv (i 0))] (z [t 6 9 2,m 7 1,q 8 (.call 353 [.s 6,.s 7,ff]),e 9 0 8,e 10 1 8,o 9 4 9,m 5 10] .ret)⟩
def S5:SF :=⟨3,61,[.cell 6 true 9,.t 7],z [q 3 (.box (some 0) 9 (.s 0)),q 6 (.alloc (some 1) O1),q 7 (.mv (i 0))] (z [t 11 9 3,m 12 1,cc 13 354 11 12,m 8 13] (.seq (z [m 14 8,
 q 15 (.int .neq (.s 14) (i 0))] (.cond (.s 15) (z [t 16 9 3,m 17 8,o 9 6 16,m 7 17] .ret) .skip)) (z [t 19 9 3,m 20 1,cc 21 355 19 20,m 18 21,e 22 0 18,e 23 1 18,q 9 (.alloc (some 2) [.v (.string ⟨#[]⟩),.v (.bool false),
 .v (.int .i64 0)]),o 3 9 22,m 8 23] (.seq (.block 0 (z [m 25 8,q 26 (.int .neq (.s 25) (i 0)),m 24 26] (.cond (.s 24) (z [t 27 9 3,m 28 8,o 9 6 27,m 7 28] .ret) (.seq (.bp [0,1,2,3,4,5,6,7,8] [m' 30 2,n' 31 30,
 f' 32 0 3,l' 33 1 32,t' 34 9 3,⟨c 35 347 34,[3]⟩,q' 36 (.int .sub (.s 33) (.s 35)),q' 37 (.int .gtr (.s 31) (.s 36)),m' 29 37]) (.cond (.s 29) (z [t 38 9 3,o 9 6 38,q 7 (.mv (i 10))] .ret) .skip))))) (z [f 39 3 3,
 l 40 1 39,f 41 2 9,l 42 1 41,b 43 2 40 42,t 44 2 43,q 10 (.alloc (some 3) [.v (.string ⟨#[]⟩),.v (.int .i64 0)]),o 2 10 44] (.seq (.bp [2,4,6,9,0,1,3,5,10,7,8,11,12,13,14,15,16,17] [f' 47 2 9,f' 49 0 10,m' 51 2,
 f' 54 1 10,t' 45 9 3,t' 46 9 3,l' 48 1 47,l' 50 1 49,l' 55 1 54,q' 52 (.nd .AY [.s 51]),q' 53 (.str .add (.s 50) (.s 52)),q' 56 (.build [.v (.string ⟨#[]⟩),.v (.int .i64 0)] [(0,1,.s 53),(1,1,.s 55)]),
 ⟨q 57 (.call 356 [.s 46,.s 48,.s 56]),[4]⟩,w (cc 58 357 45 57),e' 59 0 58,e' 60 1 58,o' 9 6 59,m' 7 60]) .ret))))))⟩
def S6:SF :=⟨3,68,[.cell 6 true 9,.t 7],z [q 3 (.box (some 0) 9 (.s 0)),q 6 (.alloc (some 1) O1),q 7 (.mv (i 0))] (z [t 11 9 3,m 12 1,cc 13 354 11 12,m 8 13] (.seq (z [m 14 8,
 q 15 (.int .neq (.s 14) (i 0))] (.cond (.s 15) (z [t 16 9 3,m 17 8,o 9 6 16,m 7 17] .ret) .skip)) (z [t 19 9 3,m 20 1,cc 21 355 19 20,m 18 21,e 22 0 18,e 23 1 18,q 9 (.alloc (some 2) [.v (.string ⟨#[]⟩),.v (.bool false),
 .v (.int .i64 0)]),o 3 9 22,m 8 23] (.seq (.block 0 (z [m 25 8,q 26 (.int .neq (.s 25) (i 0)),m 24 26] (.cond (.s 24) (z [t 27 9 3,m 28 8,o 9 6 27,m 7 28] .ret) (z [m 30 2,q 31 (.int .lss (.s 30) (i 0)),m 32 31,
 xm 33 32 2,x 34 32 (.dZ 3 (.s 3)),x 35 32 (.load false 1 (.s 34)),x 36 32 (.dZ 2 (.s 9)),x 37 32 (.load false 1 (.s 36)),x 38 32 (.idx 2 (.s 35) (.s 37)),x 39 32 (.dZ 0 (.s 38)),x 40 32 (.load false 1 (.s 39)),
 x 41 32 (.dF (.s 40)),x 42 32 (.int .gtr (.s 33) (.s 41)),r 43 32 42,m 29 43] (.cond (.s 29) (z [t 44 9 3,o 9 6 44,q 7 (.mv (i 13))] .ret) .skip))))) (z [f 45 3 3,l 46 1 45,f 47 2 9,l 48 1 47,b 49 2 46 48,t 50 2 49,
 q 10 (.alloc (some 3) [.v (.string ⟨#[]⟩),.v (.int .i64 0)]),o 2 10 50] (.seq (.bp [2,4,6,8,9,0,1,3,5,7,10,11,12,13,14,15,16,17,18] [f' 53 2 9,f' 55 0 10,m' 57 2,m' 59 2,f' 60 1 10,t' 51 9 3,t' 52 9 3,l' 54 1 53,
 l' 56 1 55,q' 58 (.sI (.s 56) none (some (.s 57))),l' 61 1 60,q' 62 (.mm false (.s 59) (.s 61)),q' 63 (.build [.v (.string ⟨#[]⟩),.v (.int .i64 0)] [(0,1,.s 58),(1,1,.s 62)]),⟨q 64 (.call 356 [.s 52,.s 54,.s 63]),[5]⟩,
 w (cc 65 357 51 64),e' 66 0 65,e' 67 1 65,o' 9 6 66,m' 7 67]) .ret))))))⟩
def S7:SF :=⟨2,46,[.cell 4 true 9,.t 5],z [q 2 (.box (some 0) 9 (.s 0)),q 4 (.alloc (some 1) O1),q 5 (.mv (i 0))] (z [t 9 9 2,m 10 1,cc 11 354 9 10,m 6 11] (.seq (z [m 12 6,
 q 13 (.int .neq (.s 12) (i 0))] (.cond (.s 13) (z [t 14 9 2,m 15 6,o 9 4 14,m 5 15] .ret) .skip)) (z [t 17 9 2,m 18 1,cc 19 355 17 18,m 16 19,e 20 0 16,e 21 1 16,q 7 (.alloc (some 2) [.v (.string ⟨#[]⟩),.v (.bool false),
 .v (.int .i64 0)]),o 3 7 20,m 6 21] (.seq (z [m 22 6,q 23 (.int .neq (.s 22) (i 0))] (.cond (.s 23) (z [t 24 9 2,m 25 6,o 9 4 24,m 5 25] .ret) .skip)) (z [f 26 3 2,l 27 1 26,f 28 2 7,l 29 1 28,b 30 2 27 29,t 31 2 30,
 q 8 (.alloc (some 3) [.v (.string ⟨#[]⟩),.v (.int .i64 0)]),o 2 8 31] (.seq (.bp [2,4,6,0,1,3,5,7,8,9,10,11,12,13,14,15] [f' 34 2 7,f' 36 0 8,f' 38 0 8,t' 32 9 2,t' 33 9 2,l' 35 1 34,l' 37 1 36,l' 39 1 38,
 q' 40 (.dF (.s 39)),q' 41 (.build [.v (.string ⟨#[]⟩),.v (.int .i64 0)] [(0,1,.s 37),(1,1,.s 40)]),⟨q 42 (.call 356 [.s 33,.s 35,.s 41]),[3]⟩,w (cc 43 357 32 42),e' 44 0 43,e' 45 1 43,o' 9 4 44,m' 5 45]) .ret))))))⟩
def S8:SF :=⟨2,11,[.cell 4 true 9,.t 5],z [q 2 (.box (some 0) 9 (.s 0)),q 4 (.alloc (some 1) O1),q 5 (.mv (i 0))] (z [t 6 9 2,m 7 1,q 8 (.call 353 [.s 6,.s 7,tt]),e 9 0 8,e 10 1 8,o 9 4 9,m 5 10] .ret)⟩
end Sm
