/-
  D33,D34,D35,D36,D37,D38
-/
import Derived.Test.YtegmmhldpmmkeaaGreatDoorSmDE
import Derived.Test.YtegmmhldpmmkeaaGreatDoorSmTC
import Derived.Test.YtegmmhldpmmkeaaGreatDoorSmLI
set_option linter.unusedVariables false
set_option linter.unusedSimpArgs false
set_option maxRecDepth 10000
set_option maxHeartbeats 2000000
namespace Sm
open Go
theorem CB.vw{H:ab}{v:HV}{l:List UInt8}(h:CB H v l):VW H v (.sl .no 1 (l.map U)):=by
 rcases h with⟨rfl,rfl⟩ | ⟨rfl,rfl⟩ | ⟨a,c,zs,rfl,h1,h2,h3,h4⟩
 · exact VW.of (an.dO 1)
 · exact VW.of (an.drop _ _ _)
 · refine VW.fw h1 (FW.slice (sz:=1) (es:=l.map U) ?_ ?_ (by simp) h2 h3 ?_ ?_)
   · rw[oh,List.take_append_of_le_length (by simp),List.take_of_length_le (by simp)]
   · simp
   · rw[List.all_eq_true];intro x hx;obtain⟨y,_,rfl⟩:=List.mem_map.mp hx;rfl
   · intro x hx;obtain⟨y,_,rfl⟩:=List.mem_map.mp hx;rfl
theorem EB.vw{H X:ab}{im:List Eo}(h:EB H X im):VW X (.sl .no 3 (im.map iH)) (.sl .no 3 ((im.map Eo.e).map dX)):=by
 rw[List.map_map];refine VW.sl (yn.map fun x hx=>?_) ?_ ?_
 · exact VW.ag (xs:=cO x) (ys:=[S x.e.path,B x.e.dir,.sl .no 1 (x.e.data.map U)]) ⟨VW.refl _ _,VW.refl _ _,(h x hx).1.vw,T_⟩ rfl
 · rw[List.all_eq_true];intro y hy;obtain⟨x,_,rfl⟩:=List.mem_map.mp hy;rfl
 · intro y hy;obtain⟨x,_,rfl⟩:=List.mem_map.mp hy;rfl
def YB(X:ab)(v:HV):Prop:=v = .v (.slice none 0 0)∨v = .sl .full 1 []∨∃a n c cs,v = .v (.slice (some ⟨a,0,none⟩) n c)∧X a=some (.obj cs)∧n≤cs.length∧n≤maxLen∧∀k,k < n→∃y,cs[k]? = some (U y)
attribute [local irreducible] aH aj aX bk aA aL bn DK RK JK BR G3 bh Spec Tok Fr CV GA YB
end Sm
namespace Sm
open Go
structure DS (H X:ab) (b:Nat) (h:Hd) (d:Dk):Prop where
 kd:KD X b h d
 fr:Fr [] H X
 nw:∀a∈h.bs b,H a=none
def w1:Dk:=((eD 100).put [116] false).1
def w2:Dk:=(w1.append [116] [97,98]).1
def w3:Dk:=(w2.sync [116]).1
def w4:Dk:=(w3.rename [116] [97]).1
def w5:Dk:=w4.ky 1 []
def g1:Dk:=w4.aM.1
def g2:Dk:=g1.ky 0 []
def w6:Dk:=(w5.put [120,47,121] false).1
theorem a1:((eD 100).put [116] false).2=0:=by decide
theorem a2:(w1.append [116] [97,98]).2=0:=by decide
theorem a3:(w2.sync [116]).2=0:=by decide
theorem a4:(w3.rename [116] [97]).2=0:=by decide
theorem a5:w5.read [116]=([97,98],0):=by decide
theorem a6:g2.read [97]=([97,98],0):=by decide
theorem a7:(w5.put [120,47,121] false).2=8:=by decide
theorem a8:w6.list.length=1:=by decide
attribute [local irreducible] aH aj aX bk aA aL bn DK RK JK BR G3 bh Spec Tok Fr CV GA YB w1 w2 w3 w4 w5 w6 g1 g2
end Sm
namespace Sm
open Go
def okA(l:List Ak):Prop:=∀a∈l,a.n≤9223372036854775807
theorem Vc{d:Dk}{n m:Nat}(h:d.WF n m)(a:Ak)(ha:a.n≤9223372036854775807):∀j,(D6 d a j).1.WF (n+1) (m+a.b.length)
 | 0=>(pV h _ _).mono (Nat.le_refl _) (Nat.le_add_right _ _)
 | 1=>jk h _ _
 | 2=>(Kw h _ _).mono (Nat.le_refl _) (Nat.le_add_right _ _)
 | 3=>(kZ h _).mono (Nat.le_refl _) (Nat.le_add_right _ _)
 | 4=>(pV h _ _).mono (Nat.le_refl _) (Nat.le_add_right _ _)
 | 5=>(pW h _).mono (Nat.le_refl _) (Nat.le_add_right _ _)
 | 6=>(vm h _ _).mono (Nat.le_refl _) (Nat.le_add_right _ _)
 | 7=>(fp h).mono (Nat.le_refl _) (Nat.le_add_right _ _)
 | 8=>(NP h _ ha _).mono (Nat.le_succ _) (Nat.le_add_right _ _)
 | 9=>(Kx h _ ha).mono (Nat.le_succ _) (Nat.le_add_right _ _)
 | _+10=>(s6 h _ _).mono (Nat.le_succ _) (Nat.le_add_right _ _)
theorem Bs{d:Dk}{n m:Nat}(h:d.WF n m)(a:Ak)(ha:a.n≤9223372036854775807):(Ng d a).1.WF (n+1) (m+a.b.length):=Vc h a ha _
attribute [local irreducible] aH aj aX bk aA aL bn DK RK JK BR G3 bh Spec Tok Fr CV GA YB w1 w2 w3 w4 w5 w6 g1 g2
end Sm
namespace Sm
open Go
attribute [local irreducible] aH aj aX bk aA aL bn DK RK JK BR G3 bh Spec Tok Fr CV GA YB w1 w2 w3 w4 w5 w6 g1 g2
end Sm
namespace Sm
open Go
structure Sv (d e:Dk):Prop where
 su:e.sure=d.sure
 lo:e.loose=d.loose
 f:e.f=d.f
 dn:e.down=d.down
 op:d.ops≤e.ops
def EA(X:ab)(b:Nat)(h:Hd)(l:List Eo):Prop:=∀x∈l,CB X x.v x.e.data∧∀a∈eI x.v,a∉h.bs b
attribute [local irreducible] aH aj aX bk aA aL bn DK RK JK BR G3 bh Spec Tok Fr CV GA YB w1 w2 w3 w4 w5 w6 g1 g2
end Sm
namespace Sm
open Go
end Sm
