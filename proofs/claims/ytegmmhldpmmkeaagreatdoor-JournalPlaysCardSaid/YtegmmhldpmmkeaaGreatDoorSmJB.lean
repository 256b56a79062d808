/-
  J9,J10,J11,J12,J13
-/
import Derived.Test.YtegmmhldpmmkeaaGreatDoorSmJA
set_option linter.unusedVariables false
set_option linter.unusedSimpArgs false
set_option maxRecDepth 10000
set_option maxHeartbeats 2000000
namespace Sm
open Go
def pG(r:Rd):HV:=.ag [.sl .no 1 (r.b.map U),I r.e]
theorem lE:∀r:Rd,pG r = .ag [.sl .no 1 (r.b.map U),I r.e]:=fun _=>rfl
theorem B9{S':aJ}{sl:List (Nat×EV)}{bx:List (Nat×List HV)}{H:ab}{K:Env→ab→Prop}{os:List aF}{d sz:Nat}{x:bj}{lo hi:Option bj}{es:List HV}{l h:Nat}
   (hx:(M sl bx).hv x=some (.sl .no sz es)) (h1:iE (M sl bx) 0 lo=some (l:Int)) (h2:iE (M sl bx) es.length hi=some (h:Int)) (hlh:l≤h) (VI:h≤es.length)
   (hk:aj S' os (M ((d,.h (.sl .no sz ((es.drop l).take (h - l))))::sl) bx) H K) :
   aj S' (⟨some d,.gy sz x lo hi none,none⟩::os) (M sl bx) H K:=
 aG rfl (by simp only[aw.ev,hx,h1,h2];rw[if_pos ⟨trivial,by omega,by omega,by omega⟩]) (by have:=hk;simpa using this)
attribute [local irreducible] aH aj aX bk aA aL bn DK RK JK BR G3 bh Spec Tok Fr CV
theorem jE(L:ai code)(r:Rd)(e:Int):aU L 494 [pG r,I e] (pG ⟨r.b,e⟩):=by
 intro H K hk;refine ah L Gj rfl ?_;refine J_ lE ?_;exact aa (hk H (Fr.refl _ _))
theorem nz(L:ai code)(r:Rd)(m:Int)(hl:r.b.length≤1048576):aU L 486 [pG r,I m] (.tu [pG (r.num m).1,I (r.num m).2]):=by
 intro H K hk;unfold Rd.num at hk;refine ah L Gk rfl ?_;refine J_ lE ?_;cases c1:(r.e != 0)
 case true =>
   rw[if_pos (by simpa using c1)] at hk
   refine J_ lE ?_;exact aa (hk H (Fr.refl _ _))
 have h0:r.e=0:=by simpa using c1
 rw[if_neg (by simpa using h0)] at hk
 refine K_ lE ?_;refine pc L .no r.b hl H _ fun X f=>?_;have hb:=jm r.b;have hle:=cM r.b;have hL:bC r.b m=if (ar r.b).2.2=0∧m < (ar r.b).1 then (0,0,5) else ar r.b:=rfl
 generalize hs:ar r.b=s at *;obtain⟨n,used,e⟩:=s;simp only at hb hle hL ⊢;refine J_ lE ?_;cases c2:(e != 0)
 case true =>
   have h1:e≠0:=by simpa using c2
   rw[if_neg (fun h=>h1 h.1)] at hL;rw[hL,if_pos h1] at hk;refine K_ lE ?_;refine jE L r e X _ fun Y f2=>?_;refine J_ lE ?_;exact aa (hk Y (f.trans f2))
 have h1:e=0:=by simpa using c2
 subst h1;have HX:=hle rfl;refine J_ lE ?_;cases c3:decide (m < n)
 case true =>
   rw[if_pos ⟨rfl,of_decide_eq_true c3⟩] at hL;rw[hL,if_pos (by decide)] at hk
   refine K_ lE ?_;refine jE L r 5 X _ fun Y f2=>?_;refine J_ lE ?_;exact aa (hk Y (f.trans f2))
 rw[if_neg (fun h=>of_decide_eq_false c3 h.2)] at hL;rw[hL,if_neg (by simp)] at hk
 refine J_ lE ?_;apply B9 (l:=used.toNat) (h:=r.b.length);rfl;(focus (show some used=some _;rw[Int.toNat_of_nonneg hb.2.2.1]));(focus (show some _=some _;simp));(focus omega);(focus simp);rw[show ((r.b.map U).drop used.toNat).take (r.b.length - used.toNat)=(r.b.drop used.toNat).map U by rw[List.take_of_length_le (by simp),List.map_drop]]
 refine J_ lE ?_;exact aa (hk X f)
theorem qg(L:ai code)(r:Rd)(n:Int)(hl:r.b.length≤1048576):aU L 488 [pG r,I n] (.tu [pG (r.raw n).1,S (r.raw n).2]):=by
 intro H K hk;unfold Rd.raw at hk;refine ah L Gl rfl ?_;refine J_ lE ?_;cases c1:(r.e != 0)
 case true =>
   rw[if_pos (by simpa using c1)] at hk
   refine J_ lE ?_;exact aa (hk H (Fr.refl _ _))
 have h0:r.e=0:=by simpa using c1
 rw[if_neg (by simpa using h0)] at hk
 refine J_ lE ?_;cases c2:decide (n < 0)
 case true =>
   rw[if_pos (of_decide_eq_true c2)] at hk;refine K_ lE ?_;refine jE L r 2 H _ fun Y f2=>?_;refine J_ lE ?_;exact aa (hk Y f2)
 have JA:0≤n:=by have:=of_decide_eq_false c2;omega
 rw[if_neg (by omega)] at hk
 refine J_ lE ?_;cases c3:decide ((r.b.length:Int) < n)
 case true =>
   rw[if_pos (of_decide_eq_true c3)] at hk;refine K_ lE ?_;refine jE L r 3 H _ fun Y f2=>?_;refine J_ lE ?_;exact aa (hk Y f2)
 have Va:n≤(r.b.length:Int):=by have:=of_decide_eq_false c3;omega
 rw[if_neg (by omega)] at hk
 obtain⟨m,rfl⟩:∃m:Nat,n=m:=⟨n.toNat,by omega⟩
 rw[Int.toNat_natCast] at hk;refine J_ lE ?_;apply B9 (l:=m) (h:=r.b.length);rfl;rfl;(focus (show some _=some _;simp));(focus omega);(focus simp);rw[show ((r.b.map U).drop m).take (r.b.length - m)=(r.b.drop m).map U by rw[List.take_of_length_le (by simp),List.map_drop]]
 refine J_ lE ?_;apply B9 (l:=0) (h:=m);rfl;rfl;rfl;(focus omega);(focus (simp;omega));rw[show ((r.b.map U).drop 0).take (m - 0)=(r.b.take m).map U by rw[List.drop_zero,Nat.sub_zero,List.map_take]]
 refine J_ lE ?_;refine zm rfl ?_;refine J_ lE ?_;exact aa (hk H (Fr.refl _ _))
theorem BI(L:ai code)(r:Rd)(m:Int)(hl:r.b.length≤1048576):aU L 487 [pG r,I m] (.tu [pG (r.text m).1,S (r.text m).2]):=by
 intro H K hk;have hlen:(r.num m).1.b.length≤1048576:=by
   unfold Rd.num
   repeat (first | (simp only[List.length_drop];omega) | exact hl | split)
 refine ah L Gm rfl ?_;refine K_ lE ?_;refine nz L r m hl H _ fun X f=>?_;refine K_ lE ?_;refine qg L (r.num m).1 (r.num m).2 hlen X _ fun Y f2=>?_;have key:r.text m=if ((r.num m).1.raw (r.num m).2).1.e≠0 then (⟨r.b,((r.num m).1.raw (r.num m).2).1.e⟩,[]) else ((r.num m).1.raw (r.num m).2):=by
   have hb:=Aep r.b m;have hle:=tZ r.b m;have zX:r.num m=if r.e≠0 then (r,0) else if (bC r.b m).2.2≠0 then (⟨r.b,(bC r.b m).2.2⟩,0) else (⟨r.b.drop (bC r.b m).2.1.toNat,0⟩,(bC r.b m).1):=rfl
   have No:r.text m=if r.e≠0 then (r,[]) else if mN r.b m≠0 then (⟨r.b,mN r.b m⟩,[]) else Rd.raw ⟨r.b.drop (bC r.b m).2.1.toNat,0⟩ (bC r.b m).1:=rfl
   have hE:mN r.b m=if (bC r.b m).2.2=0∧(r.b.length:Int) - (bC r.b m).2.1 < (bC r.b m).1 then 3 else (bC r.b m).2.2:=rfl
   by_cases h0:r.e=0
   · rw[if_neg (fun h=>h h0)] at zX No;generalize hs:bC r.b m=s at *;obtain⟨n,used,e⟩:=s;simp only at hb hle zX No hE
     by_cases h1:e=0
     · subst h1;have HX:=hle rfl;rw[if_neg (fun h=>h rfl)] at zX;rw[zX]
       by_cases h2:(r.b.length:Int) - used < n
       · rw[if_pos ⟨rfl,h2⟩] at hE;rw[hE,if_pos (by decide)] at No
         have h3:Rd.raw ⟨r.b.drop used.toNat,0⟩ n=(⟨r.b.drop used.toNat,3⟩,[]):=by
           unfold Rd.raw;rw[if_neg (fun h=>h rfl),if_neg (by omega),if_pos (by simp only[List.length_drop];omega)]
         rw[No,h3,if_pos (by simp)]
       · rw[if_neg (fun h=>h2 h.2)] at hE;rw[hE,if_neg (fun h=>h rfl)] at No;have h3:(Rd.raw ⟨r.b.drop used.toNat,0⟩ n).1.e=0:=by
           unfold Rd.raw;rw[if_neg (fun h=>h rfl),if_neg (by omega),if_neg (by simp only[List.length_drop];omega)]
         rw[No,if_neg (fun h=>h h3)]
     · rw[if_pos h1] at zX;rw[if_neg (fun h=>h1 h.1)] at hE;rw[hE,if_pos h1] at No;have h3:Rd.raw ⟨r.b,e⟩ 0=(⟨r.b,e⟩,[]):=by unfold Rd.raw;rw[if_pos h1]
       rw[zX,No,h3,if_pos h1]
   · rw[if_pos h0] at zX No;have h3:r.raw 0=(r,[]):=by unfold Rd.raw;rw[if_pos h0]
     rw[zX,No,h3,if_pos h0]
 rw[key] at hk;generalize (r.num m).1.raw (r.num m).2=y at *;obtain⟨y1,y2⟩:=y;simp only at hk ⊢;refine J_ lE ?_;cases c1:(y1.e != 0)
 case true =>
   rw[if_pos (by simpa using c1)] at hk
   refine K_ lE ?_;refine jE L r y1.e Y _ fun Z f3=>?_;refine J_ lE ?_;exact aa (hk Z (f.trans (f2.trans f3)))
 rw[if_neg (by simpa using c1)] at hk
 refine J_ lE ?_;exact aa (hk Y (f.trans f2))
theorem BH(L:ai code)(r:Rd)(hl:r.b.length≤1048576):aU L 485 [pG r] (.tu [pG r.byte.1,U r.byte.2]):=by
 intro H K hk;have ja:∀Y,Fr [] H Y→K (.tu [pG (r.raw 1).1,U ((r.raw 1).2.headD 0)]) Y:=hk;clear hk;have hz:(r.raw 1).1.e=0→(r.raw 1).2≠[]:=by
   unfold Rd.raw;split;{rename_i h;exact fun h2=>absurd h2 h};split;{rename_i h;omega};split;{intro h;cases h};{rename_i h1 h2 h3;intro _ h4;have h5:=congrArg List.length h4;rw[List.length_take,List.length_nil,show (1:Int).toNat=1 from rfl] at h5;omega}
 have F7:(r.raw 1).1.e≠0→(r.raw 1).2=[]:=by
   unfold Rd.raw;split;{exact fun _=>rfl};split;{exact fun _=>rfl};split;{exact fun _=>rfl};{exact fun h=>absurd rfl h}
 refine ah L Gn rfl ?_;refine K_ lE ?_;refine qg L r 1 hl H _ fun X f=>?_;generalize r.raw 1=y at *;obtain⟨y1,y2⟩:=y;simp only at ja hz F7 ⊢;refine J_ lE ?_;cases c1:(y1.e != 0)
 case true =>
   rw[F7 (by simpa using c1)] at ja
   have h5:K (.tu [pG y1,U 0]) X:=ja X f;refine J_ lE ?_;exact aa h5
 have h0:y1.e=0:=by simpa using c1
 cases y2 with
 | nil=>exact absurd rfl (hz h0)
 | cons c cs =>
   have h5:K (.tu [pG y1,U c]) X:=ja X f;refine J_ lE ?_;exact aa h5
theorem BJ(L:ai code)(r:Rd):aU L 489 [pG r] (I r.done):=by
 intro H K hk;unfold Rd.done at hk;refine ah L Gp rfl ?_;refine J_ lE ?_;cases c1:(r.e==0)
 case false =>
   rw[if_pos (by simpa using c1)] at hk
   refine J_ lE ?_;exact aa (hk H (Fr.refl _ _))
 have h0:r.e=0:=by simpa using c1
 rw[if_neg (by simpa using h0)] at hk
 refine J_ lE ?_;cases c2:decide (0 < (r.b.length:Int))
 case true =>
   rw[if_pos (by have:=of_decide_eq_true c2;omega)] at hk
   refine J_ lE ?_;exact aa (hk H (Fr.refl _ _))
 rw[if_neg (by have:=of_decide_eq_false c2;omega)] at hk
 refine J_ lE ?_;rw[h0];exact aa (hk H (Fr.refl _ _))
end Sm
namespace Sm
open Go
abbrev Is(c:Nat):HV:=.v (.int .u32 (c:Int))
theorem tq(c:Nat):gh c=(c / 2) ^^^ (if c % 2=1 then 3988292384 else 0):=by
 unfold gh;split;{rfl};{rw[Nat.xor_zero]}
theorem K7(x y:Nat):(x ^^^ y) / 2=x / 2 ^^^ y / 2:=by
 have:=Nat.shiftRight_xor_distrib (a:=x) (b:=y) (i:=1);simpa[Nat.shiftRight_succ] using this
theorem K8(x y:Nat):(x ^^^ y) % 2=(x % 2+y % 2) % 2:=by
 have h:((x ^^^ y) % 2=1)↔¬((x % 2=1)↔(y % 2=1)):=Nat.xor_mod_two_eq_one;have h1:x % 2=0∨x % 2=1:=by omega
 have h2:y % 2=0∨y % 2=1:=by omega
 have h3:(x ^^^ y) % 2=0∨(x ^^^ y) % 2=1:=by omega
 rcases h1 with h1 | h1<;>rcases h2 with h2 | h2<;>rcases h3 with h3 | h3<;>rw[h1,h2,h3] at h<;>rw[h1,h2,h3]<;>first | rfl | (exfalso;revert h;decide)
theorem nk(x y:Nat):gh (x ^^^ y)=gh x ^^^ gh y:=by
 rw[tq,tq,tq,K7,K8];have hx:x % 2=0∨x % 2=1:=by omega
 have hy:y % 2=0∨y % 2=1:=by omega
 generalize 3988292384=k;rcases hx with hx | hx<;>rcases hy with hy | hy<;>rw[hx,hy]<;>simp only[Nat.zero_add,Nat.add_zero,Nat.zero_mod,Nat.reduceAdd,Nat.reduceMod,if_true,if_false,Nat.zero_ne_one,Nat.xor_zero,reduceIte]
 · ac_rfl
 · ac_rfl
 · rw[show x / 2 ^^^ k ^^^ (y / 2 ^^^ k)=x / 2 ^^^ y / 2 ^^^ (k ^^^ k) by ac_rfl,Nat.xor_self,Nat.xor_zero]
theorem nq(m:Nat):gh (2*m)=m:=by unfold gh;rw[if_neg (by omega)];omega
def ll(c:Nat):Nat:=gh (gh (gh (gh c)))
theorem Ep(c:Nat):ll c=ll (c % 16) ^^^ c / 16:=by
 have h1:c=(c % 16) ^^^ (2*(2*(2*(2*(c / 16))))):=by
   have h2:(c % 16) ^^^ (2 ^ 4*(c / 16))=c:=by
     have e1:((c % 16) ^^^ (2 ^ 4*(c / 16))) / 2 ^ 4=c / 16:=by
       rw[←Nat.shiftRight_eq_div_pow,Nat.shiftRight_xor_distrib,Nat.shiftRight_eq_div_pow,Nat.shiftRight_eq_div_pow,Nat.mul_div_cancel_left _ (by decide),show c % 16 / 2 ^ 4=0 by omega,Nat.zero_xor]
     have e2:((c % 16) ^^^ (2 ^ 4*(c / 16))) % 2 ^ 4=c % 16:=by
       rw[Nat.xor_mod_two_pow,Nat.mul_mod_right,Nat.xor_zero];omega
     have:=Nat.div_add_mod ((c % 16) ^^^ (2 ^ 4*(c / 16))) (2 ^ 4);rw[e1,e2] at this;omega
   have h3:2*(2*(2*(2*(c / 16))))=2 ^ 4*(c / 16):=by omega
   rw[h3,h2]
 conv=>lhs;rw[h1]
 unfold ll;rw[nk,nk,nk,nk,nq,nq,nq,nq]
def AaR(c:Nat)(b:UInt8):Nat:=ll (ll (c ^^^ b.toNat))
def iJ:Nat→List UInt8→Nat
 | c,[]=>c
 | c,b::l=>iJ (AaR c b) l
theorem tv:∀(l r:List UInt8) (c:Nat),iJ c (l++r)=iJ (iJ c l) r
 | [],_,_=>rfl
 | b::l,r,c=>by rw[List.cons_append,iJ,tv l r,iJ]
theorem mB{c:Nat}(h:c < 4294967296):gh c < 4294967296:=by
 unfold gh;split;{exact Nat.xor_lt_two_pow (n:=32) (by omega) (by omega)};{omega}
theorem oS{c:Nat}(h:c < 4294967296):ll c < 4294967296:=mB (mB (mB (mB h)))
theorem Of{c:Nat}(h:c < 4294967296)(b:UInt8):AaR c b < 4294967296:=oS (oS (Nat.xor_lt_two_pow (n:=32) h (by have:=b.toNat_lt;omega)))
theorem oT:∀(l:List UInt8) {c:Nat},c < 4294967296→iJ c l < 4294967296
 | [],_,h=>h
 | b::l,_,h=>oT l (Of h b)
theorem vD(a b:Nat)(ha:a < 4294967296)(hb:b < 4294967296):IntKind.u32.wrap ((BitVec.ofInt IntKind.u32.bits (a:Int) ^^^ BitVec.ofInt IntKind.u32.bits (b:Int)).toNat:Int)=((a ^^^ b:Nat):Int):=by
 rw[show IntKind.u32.bits=32 from rfl,BitVec.ofInt_natCast,BitVec.ofInt_natCast,BitVec.toNat_xor,BitVec.toNat_ofNat,BitVec.toNat_ofNat,Nat.mod_eq_of_lt (by omega),Nat.mod_eq_of_lt (by omega)]
 have:=Nat.xor_lt_two_pow (n:=32) ha hb;exact IntWalk.u32_in _ ⟨by omega,by omega⟩
theorem zd(a:Nat)(ha:a < 4294967296):IntKind.u32.wrap ((BitVec.ofInt IntKind.u32.bits (a:Int) &&& BitVec.ofInt IntKind.u32.bits 15).toNat:Int)=((a % 16:Nat):Int):=by
 rw[show IntKind.u32.bits=32 from rfl,BitVec.ofInt_natCast,BitVec.toNat_and,BitVec.toNat_ofNat,Nat.mod_eq_of_lt (by omega),show (BitVec.ofInt 32 15).toNat=2 ^ 4 - 1 by decide,Nat.and_two_pow_sub_one_eq_mod]
 exact IntWalk.u32_in _ ⟨by omega,by omega⟩
theorem Er(a:Nat):(a:Int).fdiv (2 ^ min (Int.toNat 4) IntKind.u32.bits)=((a / 16:Nat):Int):=by
 have:(2:Int) ^ min (Int.toNat 4) IntKind.u32.bits=16:=by decide
 rw[this,Int.fdiv_eq_ediv_of_nonneg _ (by omega)];omega
theorem K9(a:Nat)(ha:a < 4294967296):IntKind.u32.wrap ((BitVec.ofInt IntKind.u32.bits (if IntKind.u32.signed=true then -1 else IntKind.u32.max) ^^^ BitVec.ofInt IntKind.u32.bits (a:Int)).toNat:Int)=((4294967295 ^^^ a:Nat):Int):=vD 4294967295 a (by omega) ha
theorem Es(i:Nat)(h:i < 16):(CP 0)[i]? = some (Is (ll i)):=by
 have:i=0∨i=1∨i=2∨i=3∨i=4∨i=5∨i=6∨i=7∨i=8∨i=9∨i=10∨i=11∨i=12∨i=13∨i=14∨i=15:=by omega
 rcases this with rfl | rfl | rfl | rfl | rfl | rfl | rfl | rfl | rfl | rfl | rfl | rfl | rfl | rfl | rfl | rfl<;>rfl
theorem Et{S':aJ}{sl:List (Nat×EV)}{bx:List (Nat×List HV)}{H:ab}{K:Env→ab→Prop}{os:List aF}{d l sz:Nat}{x i:bj}{cs:List HV}{k:IntKind}{n:Nat}
   (hx:(M sl bx).fg x=some (.h (.rp cs))) (hi:(M sl bx).hv i=some (.v (.int k (n:Int)))) (hn:n < l) (hc:n*sz≤cs.length) (h:aj S' os (M ((d,.h (.rp (cs.drop (n*sz))))::sl) bx) H K) :
   aj S' (⟨some d,.sH l sz x i,none⟩::os) (M sl bx) H K:=
 aG rfl (by simp only[aw.ev,hx,hi];rw[if_pos ⟨by omega,by omega,by simpa using hc⟩,Int.toNat_natCast]) h
theorem ze{S':aJ}{sl:List (Nat×EV)}{bx:List (Nat×List HV)}{H:ab}{K:Env→ab→Prop}{os:List aF}{d:Nat}{x:bj}{cs:List HV}{v:HV}
   (hx:(M sl bx).fg x=some (.h (.rp cs))) (h0:cs[0]? = some v) (h:aj S' os (M ((d,.h v)::sl) bx) H K) :
   aj S' (⟨some d,.load false 1 x,none⟩::os) (M sl bx) H K:=by
 cases cs with
 | nil=>cases h0
 | cons a cs =>
   simp only[List.getElem?_cons_zero,Option.some.injEq] at h0;subst h0;refine aG rfl ?_ h;simp only[aw.ev,hx];rfl
attribute [local irreducible] aH aj aX bk aA aL bn DK RK JK BR G3 bh Spec Tok Fr CV
theorem It(L:ai code)(tk:Tk)(c:Nat)(hc:c < 4294967296)(l:List UInt8)(hl:l.length≤1048576):aU L 474 [Is c,.sl tk 1 (l.map U)] (Is (4294967295 ^^^ iJ (4294967295 ^^^ c) l)):=by
 intro H K hk;have A5:4294967295 ^^^ c < 4294967296:=Nat.xor_lt_two_pow (n:=32) (by omega) hc
 refine ah L Eu rfl ?_;refine H_ ?_;rw[K9 c hc];refine aV (ak L) (fun(q:Nat)=>[(0,.h (Is (iJ (4294967295 ^^^ c) (l.take q)))),(9,.h (.sl tk 1 (l.map U))),(10,.h (I l.length)),(11,.h (I q))]) (fun _=>[]) (fun q X=>X=H∧q≤l.length) (fun q=>l.length - q) 0 ?_ ⟨rfl,by omega⟩ ?_
 · have e5:iJ (4294967295 ^^^ c) (l.take 0)=4294967295 ^^^ c:=by rw[List.take_zero];rfl
   (refine bw ?_ ?_ ?_<;>(repeat refine bE e5 ?_)<;>exact bA)
 rintro q X ⟨rfl,hq⟩;have bN:iJ (4294967295 ^^^ c) (l.take q) < 4294967296:=oT _ A5;refine H_ ?_;(refine ct T_ ?_ ?_<;>intro h)
 · have ni:q < l.length:=by have:=of_decide_eq_true h;omega
   have hb:=l[q].toNat_lt;have xY:iJ (4294967295 ^^^ c) (l.take q) ^^^ l[q].toNat < 4294967296:=Nat.xor_lt_two_pow (n:=32) bN (by omega)
   have hw:IntKind.u32.wrap (l[q].toNat:Int)=(l[q].toNat:Int):=IntWalk.u32_in _ ⟨by omega,by omega⟩
   refine H_ ?_;rw[hw,vD _ _ bN (by omega),zd _ xY]
   generalize hx:iJ (4294967295 ^^^ c) (l.take q) ^^^ l[q].toNat=x at *;have h16:ll (x % 16) < 4294967296:=oS (by omega)
   have hx4:ll x < 4294967296:=oS xY;have e1:=vD (ll (x % 16)) (x / 16) h16 (by omega)
   rw[←Ep] at e1;have Adw:ll (ll x % 16) < 4294967296:=oS (by omega)
   have e2:=vD (ll (ll x % 16)) (ll x / 16) Adw (by omega)
   rw[←Ep] at e2;apply Et;rfl;rfl;(focus omega);(focus (show _≤16;omega));refine H_ ?_;apply ze;rfl;(focus (rw[List.getElem?_drop];exact Es _ (by omega)))
   refine H_ ?_;rw[Er,Nat.mul_one,Nat.add_zero,e1,zd _ hx4];apply Et;rfl;rfl;(focus omega);(focus (show _≤16;omega));refine H_ ?_;apply ze;rfl;(focus (rw[List.getElem?_drop];exact Es _ (by omega)))
   refine H_ ?_;rw[Er,Nat.mul_one,Nat.add_zero,e2];have e9:iJ (4294967295 ^^^ c) (l.take (q+1))=ll (ll x):=by
     rw[List.take_succ_eq_append_getElem ni,tv,←hx];rfl
   refine dG (q+1) (by omega) ⟨rfl,ni⟩ ?_
   (refine bw ?_ ?_ ?_<;>(repeat refine bE e9 ?_)<;>exact bA)
 · have kF:q=l.length:=by have:=of_decide_eq_false h;omega
   subst kF;refine H_ ?_;rw[List.take_length] at bN ⊢;rw[K9 _ bN];exact aa (hk _ (Fr.refl _ _))
end Sm
namespace Sm
open Go
def Og:Nat→Nat→Nat
 | 0,c=>c
 | k+1,c=>gh (Og k c)
theorem La:∀(k:Nat) {c:Nat},c < 4294967296→Og k c < 4294967296
 | 0,_,h=>h
 | k+1,_,h=>mB (La k h)
attribute [local irreducible] aH aj aX bk aA aL bn DK RK JK BR G3 bh Spec Tok Fr CV
theorem Lb(L:ai code)(tk:Tk)(c:Nat)(hc:c < 4294967296)(l:List UInt8)(hl:l.length≤1048576):aU L 492 [Is c,.sl tk 1 (l.map U)] (Is (iJ c l)):=by
 intro H K hk;refine ah L Ev rfl ?_;refine H_ ?_;refine aV (ak L) (fun(q:Nat)=>[(0,.h (Is (iJ c (l.take q)))),(1,.h (.sl tk 1 (l.map U))),(5,.h (I q))]) (fun _=>[]) (fun q X=>X=H∧q≤l.length) (fun q=>l.length - q) 0 ?_ ⟨rfl,by omega⟩ ?_
 · have e5:iJ c (l.take 0)=c:=by rw[List.take_zero];rfl
   (refine bw ?_ ?_ ?_<;>(repeat refine bE e5 ?_)<;>exact bA)
 rintro q X ⟨rfl,hq⟩;have bN:iJ c (l.take q) < 4294967296:=oT _ hc;refine H_ ?_;(refine ct T_ ?_ ?_<;>intro h)
 · have ni:q < l.length:=by have:=of_decide_eq_true h;omega
   have hb:=l[q].toNat_lt;have xY:iJ c (l.take q) ^^^ l[q].toNat < 4294967296:=Nat.xor_lt_two_pow (n:=32) bN (by omega)
   have hw:IntKind.u32.wrap (l[q].toNat:Int)=(l[q].toNat:Int):=IntWalk.u32_in _ ⟨by omega,by omega⟩
   refine H_ ?_;rw[hw,vD _ _ bN (by omega)]
   generalize hx:iJ c (l.take q) ^^^ l[q].toNat=x at *;refine aV (ak L) (fun(k:Nat)=>[(0,.h (Is (Og k x))),(1,.h (.sl tk 1 (l.map U))),(5,.h (I q)),(6,.h (I k))]) (fun _=>[]) (fun k Y=>Y=X∧k≤8) (fun k=>8 - k) 0 ?_ ⟨rfl,by omega⟩ ?_
   · have e5:Og 0 x=x:=rfl;(refine bw ?_ ?_ ?_<;>(repeat refine bE e5 ?_)<;>exact bA)
   rintro k Y ⟨rfl,r8⟩;have hit:=La k xY;generalize hy:Og k x=y at *;refine H_ ?_;(refine ct T_ ?_ ?_<;>intro h2)
   · have ja:k < 8:=by have:=of_decide_eq_true h2;omega
     have hm:(y:Int).tmod 2=((y % 2:Nat):Int):=by rw[Int.tmod_eq_emod_of_nonneg (by omega)];omega
     have hd:IntKind.u32.wrap ((y:Int).tdiv 2)=((y / 2:Nat):Int):=by
       rw[show (y:Int).tdiv 2=((y / 2:Nat):Int) by rw[Int.tdiv_eq_ediv_of_nonneg (by omega)];omega]
       exact IntWalk.u32_in _ ⟨by omega,by omega⟩
     refine H_ ?_;rw[hm];cases c1:(((y % 2:Nat):Int)==1)
     case true =>
       have h1:y % 2=1:=by have:=eq_of_beq c1;omega
       have e6:y / 2 ^^^ 3988292384=Og (k+1) x:=by rw[Og,hy,gh,if_pos h1]
       have e7:=vD (y / 2) 3988292384 (by omega) (by omega)
       rw[e6] at e7;refine H_ ?_;rw[hd];have e8:(BitVec.ofInt IntKind.u32.bits 3988292384)=BitVec.ofInt IntKind.u32.bits ((3988292384:Nat):Int):=rfl;rw[e8,e7];refine dG (k+1) (by omega) ⟨rfl,ja⟩ ?_
       exact E_
     have h1:¬y % 2=1:=fun h=>by rw[h] at c1;cases c1
     have e6:y / 2=Og (k+1) x:=by rw[Og,hy,gh,if_neg h1]
     rw[e6] at hd;refine H_ ?_;rw[hd];refine dG (k+1) (by omega) ⟨rfl,ja⟩ ?_
     exact E_
   · have hke:k=8:=by have:=of_decide_eq_false h2;omega
     subst hke;have e9:iJ c (l.take (q+1))=y:=by
       rw[List.take_succ_eq_append_getElem ni,tv,←hy];show ll (ll (iJ c (l.take q) ^^^ l[q].toNat))=_;rw[hx];rfl
     refine H_ ?_;refine dG (q+1) (by omega) ⟨rfl,ni⟩ ?_
     (refine bw ?_ ?_ ?_<;>(repeat refine bE e9 ?_)<;>exact bA)
 · have kF:q=l.length:=by have:=of_decide_eq_false h;omega
   subst kF;rw[List.take_length];refine H_ ?_;exact aa (hk _ (Fr.refl _ _))
theorem zf(L:ai code)(tk:Tk)(l:List UInt8)(hl:l.length≤1048576):aU L 481 [.sl tk 1 (l.map U)] (Is (4294967295 ^^^ iJ 4294967295 l)):=by
 intro H K hk;refine ah L Ew rfl ?_;refine D_ ?_;refine Lb L tk 4294967295 (by omega) l hl H _ fun X f=>?_
 refine H_ ?_;rw[K9 _ (oT l (by omega))]
 exact aa (hk X f)
theorem Ex(L:ai code)(tk:Tk)(l:List UInt8)(hl:l.length≤1048576):aU L 456 [.sl tk 1 (l.map U)] (Is (4294967295 ^^^ iJ 4294967295 l)):=by
 intro H K hk;refine ah L Ey rfl ?_;refine D_ ?_;refine It L tk 0 (by omega) l hl H _ fun X f=>?_
 refine H_ ?_;exact aa (hk X f)
end Sm
namespace Sm
open Go
def rS(c i:Nat):UInt8:=UInt8.ofNat (c / 256 ^ i % 256)
def By(c:Nat):List UInt8:=[rS c 0,rS c 1,rS c 2,rS c 3]
theorem mC(m:Nat):IntKind.u8.wrap ((m:Nat):Int)=((UInt8.ofNat (m % 256)).toNat:Int):=by rw[IntKind.wrap_u8];simp
theorem tw(c k:Nat)(hk:k=0∨k=8∨k=16∨k=24):(c:Int).fdiv (2 ^ min (k:Int).toNat IntKind.u32.bits)=((c / 2 ^ k:Nat):Int):=by
 have e1:min (k:Int).toNat IntKind.u32.bits=k:=by show min (k:Int).toNat 32=k;omega
 rw[e1,show (2:Int) ^ k=((2 ^ k:Nat):Int) by rw[Int.natCast_pow];rfl,Int.fdiv_eq_ediv_of_nonneg _ (Int.natCast_nonneg _),Int.natCast_ediv]
attribute [local irreducible] aH aj aX bk aA aL bn DK RK JK BR G3 bh Spec Tok Fr CV
theorem qW(L:ai code)(c:Nat)(hc:c < 4294967296):aU L 482 [Is c] (.sl .full 1 ((By c).map U)):=by
 intro H K hk;have ja:K (.sl .full 1 [.v (.int .u8 ((rS c 0).toNat:Int)),.v (.int .u8 ((rS c 1).toNat:Int)),.v (.int .u8 ((rS c 2).toNat:Int)),.v (.int .u8 ((rS c 3).toNat:Int))]) H:=hk H (Fr.refl _ _);have b0:IntKind.u8.wrap (c:Int)=((rS c 0).toNat:Int):=by rw[mC];simp[rS]
 have b1:IntKind.u8.wrap ((c:Int).fdiv (2 ^ min (Int.toNat 8) IntKind.u32.bits))=((rS c 1).toNat:Int):=by have:=tw c 8 (by omega);rw[show (Int.toNat 8)=((8:Nat):Int).toNat from rfl,this,mC];rfl
 have b2:IntKind.u8.wrap ((c:Int).fdiv (2 ^ min (Int.toNat 16) IntKind.u32.bits))=((rS c 2).toNat:Int):=by have:=tw c 16 (by omega);rw[show (Int.toNat 16)=((16:Nat):Int).toNat from rfl,this,mC];rfl
 have b3:IntKind.u8.wrap ((c:Int).fdiv (2 ^ min (Int.toNat 24) IntKind.u32.bits))=((rS c 3).toNat:Int):=by have:=tw c 24 (by omega);rw[show (Int.toNat 24)=((24:Nat):Int).toNat from rfl,this,mC];rfl
 refine ah L Ez rfl ?_;refine H_ ?_;rw[b0,b1,b2,b3];exact aa ja
theorem tx(L:ai code)(c:Nat)(hc:c < 4294967296):aU L 457 [Is c] (.sl .full 1 ((By c).map U)):=by
 intro H K hk;refine Spec.dB ?_;refine ah L EC rfl ?_;refine H_ ?_;refine Lc rfl ⟨by omega,by omega,by omega⟩ rfl fun b X hb hX fX=>?_
 rw[Ld] at hX;have hX0:X b=some (.obj (((By c).take 0).map U++List.replicate (4 - 0) (U 0))):=hX;refine H_ ?_;refine aV (ak L) (fun(q:Nat)=>[(0,.h (Is c)),(3,.h (.v (.slice (some ⟨b,0,none⟩) 4 4))),(7,.h (I 4)),(8,.h (I q))]) (fun _=>[]) (fun q Y=>Y b=some (.obj (((By c).take q).map U++List.replicate (4 - q) (U 0)))∧Fr [] H Y∧q≤4) (fun q=>4 - q) 0 ?_ ⟨hX0,fX,by omega⟩ ?_
 · exact E_
 rintro q Y ⟨hY,fY,hq⟩;obtain rfl | rfl | rfl | rfl | rfl:q=0∨q=1∨q=2∨q=3∨q=4:=by omega
 · have e1:IntKind.u8.wrap ((c:Int).fdiv (2 ^ min (8*((0:Nat):Int)).toNat IntKind.u32.bits))=((rS c 0).toNat:Int):=by have:=tw c 0 (by omega);rw[show (8*((0:Nat):Int)).toNat=((0:Nat):Int).toNat from rfl,this,mC];simp[rS]
   have rT:Y b=some (.obj ([]++U 0::List.replicate 3 (U 0))):=hY;refine H_ ?_;rw[e1];apply bU;rfl;rfl;rfl;rfl;(focus exact rT);(focus (simp));intro Z hZ fZ;rw[show (0+((0:Nat):Int).toNat*1)=0 from rfl] at hZ;simp only[HV.cells] at hZ;rw[jA (by simp)] at hZ
   refine H_ ?_;refine dG 1 (by omega) ⟨hZ,fY.own hb fZ,by omega⟩ ?_
   exact E_
 · have e1:IntKind.u8.wrap ((c:Int).fdiv (2 ^ min (8*((1:Nat):Int)).toNat IntKind.u32.bits))=((rS c 1).toNat:Int):=by have:=tw c 8 (by omega);rw[show (8*((1:Nat):Int)).toNat=((8:Nat):Int).toNat from rfl,this,mC];rfl
   have rT:Y b=some (.obj ([U (rS c 0)]++U 0::List.replicate 2 (U 0))):=hY;refine H_ ?_;rw[e1];apply bU;rfl;rfl;rfl;rfl;(focus exact rT);(focus (simp));intro Z hZ fZ;rw[show (0+((1:Nat):Int).toNat*1)=1 from rfl] at hZ;simp only[HV.cells] at hZ;rw[jA (by simp)] at hZ
   refine H_ ?_;refine dG 2 (by omega) ⟨hZ,fY.own hb fZ,by omega⟩ ?_
   exact E_
 · have e1:IntKind.u8.wrap ((c:Int).fdiv (2 ^ min (8*((2:Nat):Int)).toNat IntKind.u32.bits))=((rS c 2).toNat:Int):=by have:=tw c 16 (by omega);rw[show (8*((2:Nat):Int)).toNat=((16:Nat):Int).toNat from rfl,this,mC];rfl
   have rT:Y b=some (.obj ([U (rS c 0),U (rS c 1)]++U 0::List.replicate 1 (U 0))):=hY;refine H_ ?_;rw[e1];apply bU;rfl;rfl;rfl;rfl;(focus exact rT);(focus (simp));intro Z hZ fZ;rw[show (0+((2:Nat):Int).toNat*1)=2 from rfl] at hZ;simp only[HV.cells] at hZ;rw[jA (by simp)] at hZ
   refine H_ ?_;refine dG 3 (by omega) ⟨hZ,fY.own hb fZ,by omega⟩ ?_
   exact E_
 · have e1:IntKind.u8.wrap ((c:Int).fdiv (2 ^ min (8*((3:Nat):Int)).toNat IntKind.u32.bits))=((rS c 3).toNat:Int):=by have:=tw c 24 (by omega);rw[show (8*((3:Nat):Int)).toNat=((24:Nat):Int).toNat from rfl,this,mC];rfl
   have rT:Y b=some (.obj ([U (rS c 0),U (rS c 1),U (rS c 2)]++U 0::List.replicate 0 (U 0))):=hY;refine H_ ?_;rw[e1];apply bU;rfl;rfl;rfl;rfl;(focus exact rT);(focus (simp));intro Z hZ fZ;rw[show (0+((3:Nat):Int).toNat*1)=3 from rfl] at hZ;simp only[HV.cells] at hZ;rw[jA (by simp)] at hZ
   refine H_ ?_;refine dG 4 (by omega) ⟨hZ,fY.own hb fZ,by omega⟩ ?_
   exact E_
 · have rT:Y b=some (.obj ((By c).map U)):=by rw[hY];rfl
   refine H_ ?_;refine aa (.inr (.inr ⟨b,_,.sl .full 1 ((By c).map U),rT,FW.bytes (l:=By c) (show 4≤maxLen by decide),hk _ (fY.dB hb)⟩))
end Sm
