/-
  D33,D34,D35,D36,D37,D38
-/
import Derived.Test.YtegmmhldpmmkeaaGreatDoorSmDE
import Derived.Test.YtegmmhldpmmkeaaGreatDoorSmTC
import Derived.Test.YtegmmhldpmmkeaaGreatDoorSmLI
set_option linter.unusedVariables false
set_option linter.unusedSimpArgs false
set_option maxRecDepth 10000
set_option maxHeartbeats 2000000
namespace Sm
open Go
theorem CB.vw{H:ab}{v:HV}{l:List UInt8}(h:CB H v l):VW H v (.sl .no 1 (l.map U)):=by
 rcases h with⟨rfl,rfl⟩ | ⟨rfl,rfl⟩ | ⟨a,c,zs,rfl,h1,h2,h3,h4⟩;{exact VW.of (an.dO 1)};{exact VW.of (an.drop _ _ _)}
 · refine VW.fw h1 (FW.slice (sz:=1) (es:=l.map U) ?_ ?_ (by simp) h2 h3 ?_ ?_)
   · rw[oh,List.take_append_of_le_length (by simp),List.take_of_length_le (by simp)]
   · simp
   · rw[List.all_eq_true];intro x hx;obtain⟨y,_,rfl⟩:=List.mem_map.mp hx;rfl
   · intro x hx;obtain⟨y,_,rfl⟩:=List.mem_map.mp hx;rfl
theorem EB.vw{H X:ab}{im:List Eo}(h:EB H X im):VW X (.sl .no 3 (im.map iH)) (.sl .no 3 ((im.map Eo.e).map dX)):=by
 rw[List.map_map];refine VW.sl (yn.map fun x hx=>?_) ?_ ?_;{exact VW.ag (xs:=cO x) (ys:=[S x.e.path,B x.e.dir,.sl .no 1 (x.e.data.map U)]) ⟨VW.refl _ _,VW.refl _ _,(h x hx).1.vw,T_⟩ rfl};{rw[List.all_eq_true];intro y hy;obtain⟨x,_,rfl⟩:=List.mem_map.mp hy;rfl};{intro y hy;obtain⟨x,_,rfl⟩:=List.mem_map.mp hy;rfl}
def YB(X:ab)(v:HV):Prop:=v = .v (.slice none 0 0)∨v = .sl .full 1 []∨∃a n c cs,v = .v (.slice (some ⟨a,0,none⟩) n c)∧X a=some (.obj cs)∧n≤cs.length∧n≤maxLen∧∀k,k < n→∃y,cs[k]? = some (U y)
theorem YB.set{X Y:ab}{v:HV}{a i:Nat}{cs:List HV}{y:UInt8}(h:YB X v)(ha:X a=some (.obj cs))(hy:Y a=some (.obj (cs.set i (U y))))(hf:Fr [a] X Y):YB Y v:=by
 rcases h with h | h | ⟨b,n,c,ds,rfl,h1,h2,h3,h4⟩;{exact .inl h};{exact .inr (.inl h)}
 · by_cases AO:b=a
   · subst AO;rw[ha] at h1;cases h1;refine .inr (.inr ⟨b,n,c,_,rfl,hy,by simpa using h2,h3,fun k hk=>?_⟩)
     rw[List.getElem?_set];split;{exact⟨y,by rw[if_pos (by omega)]⟩};{exact h4 k hk}
   · exact .inr (.inr ⟨b,n,c,ds,rfl,hf.get (by simpa using AO) h1,h2,h3,h4⟩)
attribute [local irreducible] aH aj aX bk aA aL bn DK RK JK BR G3 bh Spec Tok Fr CV GA YB
end Sm
namespace Sm
open Go
structure DS (H X:ab) (b:Nat) (h:Hd) (d:Dk):Prop where
 kd:KD X b h d
 fr:Fr [] H X
 nw:∀a∈h.bs b,H a=none
theorem DS.step{H X Y:ab}{b:Nat}{h h':Hd}{d d':Dk}(s:DS H X b h d)(k:KD Y b h' d')(o:Own X Y (h.bs b) (h'.bs b)):DS H Y b h' d':=
 ⟨k,Fr.sQ fun a r _ hr=>o.get (fun hm=>by rw[s.nw a hm] at hr;cases hr) (s.fr.get (by simp) hr),fun a ha=>(o.nw a ha).elim (s.nw a) fun h0=>s.fr.bM h0⟩
theorem KD.own{X Y:ab}{b:Nat}{h:Hd}{d:Dk}{cs bI:List Nat}(k:KD X b h d)(o:Own X Y cs bI)(hb:∀a∈h.bs b,a∉cs):KD Y b h d∧∀a∈h.bs b,a∉bI:=
 ⟨k.fr o.fr hb,fun a ha=>by obtain⟨r,hr⟩:=k.held a ha;exact o.apart (hb a ha) hr⟩
def w1:Dk:=((eD 100).put [116] false).1
def w2:Dk:=(w1.append [116] [97,98]).1
def w3:Dk:=(w2.sync [116]).1
def w4:Dk:=(w3.rename [116] [97]).1
def w5:Dk:=w4.ky 1 []
def g1:Dk:=w4.aM.1
def g2:Dk:=g1.ky 0 []
def w6:Dk:=(w5.put [120,47,121] false).1
theorem a1:((eD 100).put [116] false).2=0:=by decide
theorem a2:(w1.append [116] [97,98]).2=0:=by decide
theorem a3:(w2.sync [116]).2=0:=by decide
theorem a4:(w3.rename [116] [97]).2=0:=by decide
theorem a5:w5.read [116]=([97,98],0):=by decide
theorem a6:g2.read [97]=([97,98],0):=by decide
theorem a7:(w5.put [120,47,121] false).2=8:=by decide
theorem a8:w6.list.length=1:=by decide
attribute [local irreducible] aH aj aX bk aA aL bn DK RK JK BR G3 bh Spec Tok Fr CV GA YB w1 w2 w3 w4 w5 w6 g1 g2
end Sm
namespace Sm
open Go
def okA(l:List Ak):Prop:=∀a∈l,a.n≤9223372036854775807
theorem AeI{α:Type}(f:α→Nat):∀{l:List α} {a:α},a∈l→f a≤(l.map f).sum
 | b::l,a,h=>by
   rcases List.mem_cons.mp h with rfl | h;{simp};{have:=AeI f h;simp;omega}
theorem okA.take{l:List Ak}(h:okA l)(i:Nat):okA (l.take i):=fun a ha=>h a (List.mem_of_mem_take ha)
attribute [local irreducible] aH aj aX bk aA aL bn DK RK JK BR G3 bh Spec Tok Fr CV GA YB w1 w2 w3 w4 w5 w6 g1 g2
end Sm
namespace Sm
open Go
attribute [local irreducible] aH aj aX bk aA aL bn DK RK JK BR G3 bh Spec Tok Fr CV GA YB w1 w2 w3 w4 w5 w6 g1 g2
end Sm
namespace Sm
open Go
structure Sv (d e:Dk):Prop where
 su:e.sure=d.sure
 lo:e.loose=d.loose
 f:e.f=d.f
 dn:e.down=d.down
 op:d.ops≤e.ops
theorem Sv.refl(d:Dk):Sv d d:=⟨rfl,rfl,rfl,rfl,Nat.le_refl _⟩
theorem Sv.list{d e:Dk}(h:Sv d e):e.list=d.list:=by
 rw[rM,rM,h.dn,h.f];show (if d.down=true then [] else (br e.sure e.loose).map _)=_
 rw[h.su,h.lo];rfl
def EA(X:ab)(b:Nat)(h:Hd)(l:List Eo):Prop:=∀x∈l,CB X x.v x.e.data∧∀a∈eI x.v,a∉h.bs b
theorem EA.of{H X:ab}{b:Nat}{h:Hd}{d:Dk}{l:List Eo}(he:EB H X l)(k:KD H b h d):EA X b h l:=fun x hx=>⟨(he x hx).1,fun a ha hm=>by
 obtain⟨r,hr⟩:=k.held a hm;rw[(he x hx).2 a ha] at hr;cases hr⟩
theorem EA.own{X Y:ab}{b:Nat}{h h':Hd}{l:List Eo}(he:EA X b h l)(o:Own X Y (h.bs b) (h'.bs b)):EA Y b h' l:=fun x hx=>⟨(he x hx).1.own o (he x hx).2,(he x hx).1.apart o (he x hx).2⟩
attribute [local irreducible] aH aj aX bk aA aL bn DK RK JK BR G3 bh Spec Tok Fr CV GA YB w1 w2 w3 w4 w5 w6 g1 g2
end Sm
namespace Sm
open Go
end Sm
