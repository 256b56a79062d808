/-
  F,G
-/
import Derived.Test.YtegmmhldpmmkeaaGreatDoorSmLA
import Derived.WalkLawsBesides
set_option linter.unusedVariables false
set_option linter.unusedSimpArgs false
set_option linter.unnecessarySimpa false
namespace Sm
open Go
theorem jd{P:Program}{w:World}(k:IntKind)(n:Int)(y:Nat)(code:BoundsCode)(h0:0≤n)(h1:n≤y) :
   (Instr.sliceBound (.int k n) y code).run P w = .ok n.toNat w:=by
 simp[Instr.sliceBound,asIntOf,h0,h1]
section
variable {P:Program} {D:List (Nat×List HV)} {ν:Nat→Option Nat} {w0:World} {K0:Nat→Nat} {H0:ab} {N:Nat} {e:Env} {H:ab} {a:Act} {w:World} {K μ:Nat→Nat} {o:Oper}
def Calm(P:Program)(ν:Nat→Option Nat)(K:Nat→Nat)(μ:Nat→Nat)(e:Env)(a:Act)(w:World)(o:Oper)(x:EV):Prop:=
 ∃u,(execOp a.eval o).run P w = .ok (.value u) w∧bO ν K w μ x u∧x.live e
theorem Qp(ao:St D ν w0 K0 H0 N e H a w K μ){x y}(ho:o.op = .move x∨o.op = .assign x)(hk:au ν x y=true){z}(hz:e.fg y=some z):Calm P ν K μ e a w o z:=by
 obtain⟨h1,h2⟩:=bY ao hk hz;rcases ho with ho | ho<;>exact⟨a.eval x,by simp[execOp,ho],h1,h2⟩
theorem N1(ao:St D ν w0 K0 H0 N e H a w K μ){c x y c' x' y'}(ho:o.op = .pick c x y)(hc:au ν c c'=true)(hx:au ν x x'=true)(hy:au ν y y'=true)
   {z} (hz:(aw.pick c' x' y').ev e H=some z):Calm P ν K μ e a w o z:=by
 simp only[aw.ev] at hz;split at hz
 · rename_i t ht;have h1:=aq ao hc ht;simp only[rep] at h1;cases t
   · obtain⟨h2,h3⟩:=bY ao hy (by simpa using hz)
     exact⟨a.eval y,by simp[execOp,ho,h1,asBool],h2,h3⟩
   · obtain⟨h2,h3⟩:=bY ao hx (by simpa using hz)
     exact⟨a.eval x,by simp[execOp,ho,h1,asBool],h2,h3⟩
 · cases hz
theorem Il{op:BinOp}{t:TypeId}{k k':IntKind}{m n:Int}{r:HV}(h:ic op k m k' n=some r) :
   ∃u,(binOp op t (.int k m) (.int k' n)).run P w = .ok u w∧r = .v u:=by
 cases op<;>simp only[ic] at h<;>split at h<;>first | (cases h;done) | skip
 all_goals
   rename_i hc;simp only[Option.some.injEq] at h;subst h;refine⟨_,?_,rfl⟩
 all_goals first
   | (subst hc;simp[binOp,Op.intArith,Op.intCmp,Op.intBits];done)
   | (obtain⟨rfl,h0⟩:=hc;simp[binOp,Op.intDiv,h0];done)
   | (have h0:¬n < 0:=by omega
      simp[binOp,Op.shift,h0];done)
theorem Vj(ao:St D ν w0 K0 H0 N e H a w K μ){op t x y yt x' y'}(ho:o.op = .binOp op t x y yt)(hx:au ν x x'=true)(hy:au ν y y'=true)
   {z} (hz:(aw.int op x' y').ev e H=some z):Calm P ν K μ e a w o z:=by
 simp only[aw.ev] at hz;split at hz
 · rename_i k m k' n h1 h2;have e1:=aq ao hx h1;have e2:=aq ao hy h2;simp only[rep] at e1 e2;cases hi:ic op k m k' n with
   | none=>simp[hi] at hz
   | some r =>
     simp only[hi,Option.map_some,Option.some.injEq] at hz;subst hz;obtain⟨u,hu,rfl⟩:=Il (P:=P) (w:=w) (t:=t) hi;refine⟨u,?_,by simp[bO,rep],T_⟩
     simp[execOp,ho,e1,e2,eqGuard_at_int,hu]
 · cases hz
theorem Vk(ao:St D ν w0 K0 H0 N e H a w K μ){op t x y yt x' y'}(ho:o.op = .binOp op t x y yt)(hx:au ν x x'=true)(hy:au ν y y'=true)
   {z} (hz:(aw.str op x' y').ev e H=some z):Calm P ν K μ e a w o z:=by
 simp only[aw.ev] at hz;split at hz
 · rename_i m n h1 h2;have e1:=aq ao hx h1;have e2:=aq ao hy h2;simp only[rep] at e1 e2;cases hi:qJ op m n with
   | none=>simp[hi] at hz
   | some r =>
     simp only[hi,Option.map_some,Option.some.injEq] at hz;subst hz;have key:∃u,(binOp op t (.string m) (.string n)).run P w = .ok u w∧r = .v u:=by
       cases op<;>simp only[qJ] at hi<;>first
         | (cases hi;done)
         | (split at hi
            · rename_i hle;simp only[Option.some.injEq] at hi;subst hi;have Adp:¬((m.size+n.size:Nat):Int) > IntKind.i64.max:=by simp only[IntKind.max_i64];omega
              refine⟨_,?_,rfl⟩;simp only[binOp,Op.stringOp,if_neg Adp,Sem.run_pure]
            · cases hi)
         | (simp only[Option.some.injEq] at hi;subst hi;exact⟨_,by simp only[binOp,Op.stringOp,Sem.run_pure],rfl⟩)
     obtain⟨u,hu,rfl⟩:=key;refine⟨u,?_,by simp[bO,rep],T_⟩
     simp[execOp,ho,e1,e2,eqGuard_at_string,hu]
 · cases hz
theorem Vl(ao:St D ν w0 K0 H0 N e H a w K μ){t x x'}(ho:o.op = .unOp .not t x)(hx:au ν x x'=true)
   {z} (hz:(aw.not x').ev e H=some z):Calm P ν K μ e a w o z:=by
 simp only[aw.ev] at hz;split at hz;{rename_i b h1;have e1:=aq ao hx h1;simp only[rep] at e1;simp only[Option.some.injEq] at hz;subst hz;exact⟨.bool !b,by simp[execOp,ho,e1,Op.unary],by simp[bO,rep],T_⟩};{cases hz}
theorem Vm(ao:St D ν w0 K0 H0 N e H a w K μ){t x x'}(ho:o.op = .unOp .neg t x)(hx:au ν x x'=true)
   {z} (hz:(aw.neg x').ev e H=some z):Calm P ν K μ e a w o z:=by
 simp only[aw.ev] at hz;split at hz;{rename_i k n h1;have e1:=aq ao hx h1;simp only[rep] at e1;simp only[Option.some.injEq] at hz;subst hz;exact⟨_,by simp[execOp,ho,e1,Op.unary,Op.intArith];rfl,by simp[bO,rep],T_⟩};{cases hz}
theorem Vn(ao:St D ν w0 K0 H0 N e H a w K μ){t x x'}(ho:o.op = .unOp .xor t x)(hx:au ν x x'=true)
   {z} (hz:(aw.P5 x').ev e H=some z):Calm P ν K μ e a w o z:=by
 simp only[aw.ev] at hz;split at hz;{rename_i k n h1;have e1:=aq ao hx h1;simp only[rep] at e1;simp only[ic,if_true,Option.map_some,Option.some.injEq] at hz;subst hz;exact⟨_,by simp[execOp,ho,e1,Op.unary,Op.intBits];rfl,by simp[bO,rep],T_⟩};{cases hz}
theorem N2(ao:St D ν w0 K0 H0 N e H a w K μ){src dst k x x'}(ho:o.op = .convert src dst x)(hs:(P.underlying src).isSome=true)(hd:wH P dst=some k)(hx:au ν x x'=true)
   {z} (hz:(aw.conv k x').ev e H=some z):Calm P ν K μ e a w o z:=by
 simp only[aw.ev] at hz;split at hz
 · rename_i k' n h1;have e1:=aq ao hx h1;simp only[rep] at e1;simp only[Option.some.injEq] at hz;subst hz;obtain⟨d,U'⟩:=Option.isSome_iff_exists.1 hs;refine⟨.int k (k.wrap n),?_,by simp[bO,rep],T_⟩
   simp[execOp,ho,e1,convert,run_underlying U',run_underlying (yq hd),Conv.intToInt]
 · cases hz
theorem Vo(ao:St D ν w0 K0 H0 N e H a w K μ){src dst x x'}(ho:o.op = .convert src dst x)(hs:(P.underlying src).isSome=true)(hd:isStr P dst=true)(hx:au ν x x'=true)
   {z} (hz:(aw.sG x').ev e H=some z):Calm P ν K μ e a w o z:=by
 simp only[aw.ev] at hz;split at hz
 · rename_i s h1;have e1:=aq ao hx h1;simp only[rep] at e1;simp only[Option.some.injEq] at hz;subst hz;obtain⟨d,U'⟩:=Option.isSome_iff_exists.1 hs;refine⟨.string s,?_,by simp[bO,rep],T_⟩
   simp[execOp,ho,e1,convert,run_underlying U',run_underlying (fi hd)]
 · cases hz
theorem Ej(ao:St D ν w0 K0 H0 N e H a w K μ){T x agg n x'}(ho:o.op = .load T x)(hn:cX P T=some n)(ha:dJ P T=some agg)(h1:(agg||decide (n=1))=true)(hx:au ν x x'=true)
   {z} (hz:(aw.load agg n x').ev e H=some z):Calm P ν K μ e a w o z:=by
 simp only[aw.ev] at hz;have fin:∀{b o' off cs us z'},aC ν K w cs us→cs.all HV.one=true→cU w b o' us→cP agg n off cs=some z'→a.eval x = .pointer (some ⟨b,o'+off,none⟩)→z = .h z'→Calm P ν K μ e a w o z:=by
   intro b o' off cs us z' hr gu hc hl Im hz';obtain⟨u,JU,CJ⟩:=yO hn ha h1 hr gu hc hl;subst hz';exact⟨u,by simp[execOp,ho,Im,JU],CJ,T_⟩
 split at hz
 · rename_i b off cH;have e1:=(bY ao hx cH).1;simp only[bO,rep] at e1;split at hz
   · rename_i cs hH;obtain⟨us,T',g1,g2,g3,g4⟩:=ao.hs.res b _ hH;cases hl:cP agg n off cs with
     | none=>simp[hl] at hz
     | some z' =>
       simp only[hl,Option.map_some,Option.some.injEq] at hz;exact fin g3 g4 (bl (bQ g1) _) hl (by simpa using e1) hz.symm
   · cases hz
 · rename_i cs cH;have e1:=(bY ao hx cH).1;simp only[bO,rep] at e1;obtain⟨b,off,us,g1,g2,g3,g4,g5⟩:=e1;cases hl:cP agg n 0 cs with
   | none=>simp[hl] at hz
   | some z' =>
     simp only[hl,Option.map_some,Option.some.injEq] at hz;exact fin g3 g2 g5 hl (by simpa using g1) hz.symm
 · rename_i k off cH;have e1:=(bY ao hx cH).1;simp only[bO] at e1;split at hz
   · rename_i cs hb;obtain⟨_,_,us,T',g1,g2,g3,g4⟩:=ao.box k cs hb;cases hl:cP agg n off cs with
     | none=>simp[hl] at hz
     | some z' =>
       simp only[hl,Option.map_some,Option.some.injEq] at hz;exact fin g3 g4 (bQ g1) hl (by simpa using e1) hz.symm
   · cases hz
 · cases hz
theorem N3(ao:St D ν w0 K0 H0 N e H a w K μ){x x'}(ho:o.op = .nilCheck x)(hx:au ν x x'=true)
   {z} (hz:(aw.gw x').ev e H=some z):Calm P ν K μ e a w o z:=by
 simp only[aw.ev] at hz;split at hz;{rename_i ad cH;have e1:=(bY ao hx cH).1;simp only[bO,rep] at e1;simp only[Option.some.injEq] at hz;subst hz;exact⟨_,by simp[execOp,ho,e1];rfl,by simp[bO,rep],T_⟩};{rename_i cs cH;have e1:=(bY ao hx cH).1;have e2:=e1;simp only[bO,rep] at e1;obtain⟨b,off,us,g1,g2,g3,g4,g5⟩:=e1;simp only[Option.some.injEq] at hz;subst hz;exact⟨a.eval x,by simp[execOp,ho,g1],e2,T_⟩};{rename_i k off cH;have e1:=bY ao hx cH;simp only[Option.some.injEq] at hz;subst hz;have e2:=e1.1;simp only[bO] at e2;exact⟨a.eval x,by simp[execOp,ho,e2],e1.1,e1.2⟩};{rename_i g cq cH;have e1:=bY ao hx cH;simp only[Option.some.injEq] at hz;subst hz;have e2:=e1.1;simp only[bO,rep] at e2;obtain⟨n,us,g1,g2,g3⟩:=e2;exact⟨a.eval x,by simp[execOp,ho,g2],e1.1,T_⟩};{rename_i g r cH;have e1:=bY ao hx cH;simp only[Option.some.injEq] at hz;subst hz;have e2:=e1.1;simp only[bO,rep] at e2;obtain⟨n,u',g1,g2,g3⟩:=e2;exact⟨a.eval x,by simp[execOp,ho,g2],e1.1,T_⟩};{cases hz}
theorem uP{P:Program}{w:World}{fd:Field}{n:Nat}(hn:cX P fd.type=some (n+1))(ad:Addr):(fieldPlace ad fd).run P w = .ok (ad.add fd.offset) w:=by
 simp[fieldPlace,run_sizeOf hn]
theorem Vp(ao:St D ν w0 K0 H0 N e H a w K μ){T x f off n fd x'}(ho:o.op = .fieldAddr T x f)(hf:jO P T f=some fd)(yP:fd.offset=off)(hn:cX P fd.type=some (n+1))(hx:au ν x x'=true)
   {z} (hz:(aw.dZ off x').ev e H=some z):Calm P ν K μ e a w o z:=by
 obtain⟨fs,hu,AR⟩:=j6 hf;have run:∀ad:Addr,a.eval x = .pointer (some ad)→(execOp a.eval o).run P w = .ok (.value (.pointer (some (ad.add off)))) w:=by
   intro ad Mg;simp[execOp,ho,Mg,Instr.fieldAt,run_underlying hu,AR,Instr.sureAddr,uP hn,yP]
 simp only[aw.ev] at hz;split at hz;{rename_i b o' cH;have e1:=(bY ao hx cH).1;simp only[bO,rep] at e1;simp only[Option.some.injEq] at hz;subst hz;exact⟨_,run _ e1,by simp[bO,rep,cZ],T_⟩}
 · rename_i cs cH;have e1:=(bY ao hx cH).1;simp only[bO,rep] at e1;obtain⟨b,o',us,g1,g2,g3,g4,g5⟩:=e1;split at hz
   · rename_i hle;simp only[Option.some.injEq] at hz;subst hz;have hlen:=aK g3;refine⟨_,run _ g1,?_,T_⟩;simp only[bO,rep,cZ];refine⟨b,o'+off,us.drop off,rfl,?_,cC off g3,by rw[List.length_drop];omega,dL g5 off⟩
     rw[List.all_eq_true] at g2 ⊢;exact fun y hy=>g2 y (List.mem_of_mem_drop hy)
   · cases hz
 · rename_i k o' cH;have e1:=bY ao hx cH;have e2:=e1.1;simp only[bO] at e2;simp only[Option.some.injEq] at hz;subst hz;exact⟨_,run _ e2,by simp[bO,cZ],e1.2⟩
 · cases hz
theorem yg{T:TypeId}{n:Nat}{agg:Bool}(hn:cX P T=some n)(ha:dJ P T=some agg)(h1:(agg||decide (n=1))=true){off:Nat}{cs:List HV}{us:List Value}(hr:aC ν K w cs us)(gu:cs.all HV.one=true)
   {x:HV} (hx:cP agg n off cs=some x):∃u,(part T us.toArray off).run P w = .ok u w∧rep ν K w x u:=by
 unfold cP at hx;split at hx
 case isFalse=>cases hx
 case isTrue hle =>
   have hlen:=aK hr;have yM:=cB n (cC off hr);unfold ZB at hx;cases agg with
   | true =>
     simp only[if_true,Option.some.injEq] at hx;subst hx;refine⟨.agg (us.toArray.extract off (off+n)),?_,⟨_,?_,?_,yM⟩⟩;{simp[part,jh ha,run_sizeOf hn]};{simp[List.take_drop]};{rw[List.all_eq_true] at gu ⊢;exact fun z hz=>gu z (List.mem_of_mem_drop (List.mem_of_mem_take hz))}
   | false =>
     simp at h1;subst h1;simp only[Bool.false_eq_true,if_false] at hx;split at hx
     · rename_i g hg;simp only[Option.some.injEq] at hx;subst hx;rw[hg] at yM;obtain⟨v,vs,h3,h4,h5⟩:=yM;have h6:us[off]? = some v:=by
         have h7:((us.drop off).take 1)[0]? = some v:=by rw[h3];rfl
         simpa[List.getElem?_take,List.getElem?_drop] using h7
       refine⟨v,?_,h4⟩;simp[part,jh ha,h6]
     · cases hx
theorem KI(ao:St D ν w0 K0 H0 N e H a w K μ){T x f off n agg fd x'}(ho:o.op = .field T x f)(hf:jO P T f=some fd)(yP:fd.offset=off)(hn:cX P fd.type=some n)(ha:dJ P fd.type=some agg)
   (h1:(agg||decide (n=1))=true) (hx:au ν x x'=true) {z} (hz:(aw.field agg off n x').ev e H=some z):Calm P ν K μ e a w o z:=by
 obtain⟨fs,hu,AR⟩:=j6 hf;simp only[aw.ev] at hz;split at hz
 · rename_i cs cH;have e1:=aq ao hx cH;simp only[rep] at e1;obtain⟨us,g1,g2,g3⟩:=e1;cases hl:cP agg n off cs with
   | none=>simp[hl] at hz
   | some z' =>
     simp only[hl,Option.map_some,Option.some.injEq] at hz;subst hz;obtain⟨u,JU,CJ⟩:=yg (P:=P) hn ha h1 g3 g2 hl;refine⟨u,?_,CJ,T_⟩;subst yP;simp[execOp,ho,g1,Instr.field,run_underlying hu,AR,asAgg,JU]
 · cases hz
theorem Vq(ao:St D ν w0 K0 H0 N e H a w K μ){T x i sz el x' i'}(ho:o.op = .indexAddr T x i)(hT:Sm.elemOf P T=some el)(da:cX P el=some sz)(hx:au ν x x'=true)(hi:au ν i i'=true)
   {z} (hz:(aw.idx sz x' i').ev e H=some z):Calm P ν K μ e a w o z:=by
 have hu:=cw hT;have run:∀(b off len cap:Nat) (k:IntKind) (n:Int),a.eval x = .slice (some ⟨b,off,none⟩) len cap→a.eval i = .int k n→0≤n→n < len →
     (execOp a.eval o).run P w = .ok (.value (.pointer (some ⟨b,off+n.toNat*sz,none⟩))) w:=by
   intro b off len cap k n h1 h2 h3 h4;simp[execOp,ho,h1,h2,Instr.indexAt,asIntOf,run_underlying hu,h3,h4,run_sizeOf da,cZ]
 simp only[aw.ev] at hz;split at hz
 · rename_i tk iB es k n h1 h2;have e1:=aq ao hx h1;have e2:=aq ao hi h2;simp only[rep] at e1 e2;obtain⟨A,cap,aR,g1,g2,g3,g4,g5,g6,g7,g8⟩:=e1;split at hz
   · rename_i hc;obtain⟨rfl,JA⟩:=hc;cases hh:es[n.toNat]? with
     | none=>simp[hh] at hz
     | some h' =>
       simp only[hh,Option.map_some,Option.some.injEq] at hz;subst hz;have bN:n.toNat < es.length:=(List.getElem?_eq_some_iff.1 hh).1;rcases g8 with g8 | ⟨b,off,hA,hK,dW⟩;{subst g8;simp at bN}
       · subst hA;obtain⟨u,u1,u2,u3,u4⟩:=yN g7 g5 g6 hh;obtain⟨c1,c2⟩:=jl u2 u1;have Adq:=cF u2 u1;have CO:=g6 h' (List.mem_of_getElem? hh);refine⟨_,run b off es.length cap k n g1 e2 JA (by omega),?_,T_⟩
         simp only[bO,rep];refine⟨b,off+n.toNat*iB,u.cells.toList,rfl,c2,c1,?_,?_⟩;{rw[Array.length_toList,Adq,CO];have:(n.toNat+1)*iB≤es.length*iB:=Nat.mul_le_mul_right _ bN;rw[Nat.add_mul] at this;omega}
         · intro j y hy;have:=dW _ _ (u4 j y hy)
           rwa [Nat.add_assoc]
   · cases hz
 · rename_i b off l c k n h1 h2;have e1:=aq ao hx h1;have e2:=aq ao hi h2;simp only[rep] at e1 e2;split at hz;{rename_i hc;simp only[Option.some.injEq] at hz;subst hz;exact⟨_,run b off l c k n e1 e2 hc.1 hc.2,by simp[bO,rep],T_⟩};{cases hz}
 · cases hz
theorem N4(ao:St D ν w0 K0 H0 N e H a w K μ){T x i l sz el x' i'}(ho:o.op = .indexAddr T x i)(hT:Sm.nL P T=some (l,el))(da:cX P el=some sz)(hx:au ν x x'=true)(hi:au ν i i'=true)
   {z} (hz:(aw.sH l sz x' i').ev e H=some z):Calm P ν K μ e a w o z:=by
 have hu:=jN hT;have run:∀(b off:Nat) (k:IntKind) (n:Int),a.eval x = .pointer (some ⟨b,off,none⟩)→a.eval i = .int k n→0≤n→n < l →
     (execOp a.eval o).run P w = .ok (.value (.pointer (some ⟨b,off+n.toNat*sz,none⟩))) w:=by
   intro b off k n h1 h2 h3 h4;simp[execOp,ho,h1,h2,Instr.indexAt,asIntOf,run_underlying hu,Instr.sureAddr,h3,h4,run_sizeOf da,cZ]
 simp only[aw.ev] at hz;split at hz;{rename_i b off k n h1 h2;have e1:=(bY ao hx h1).1;have e2:=aq ao hi h2;simp only[bO,rep] at e1 e2;split at hz;{rename_i hc;simp only[Option.some.injEq] at hz;subst hz;exact⟨_,run b off k n e1 e2 hc.1 hc.2,by simp[bO,rep],T_⟩};{cases hz}};{rename_i k' off k n h1 h2;have e1:=bY ao hx h1;have e2:=aq ao hi h2;have e3:=e1.1;simp only[bO,rep] at e3 e2;split at hz;{rename_i hc;simp only[Option.some.injEq] at hz;subst hz;exact⟨_,run _ off k n e3 e2 hc.1 hc.2,by simp[bO],e1.2⟩};{cases hz}}
 · rename_i cs k n h1 h2;have e1:=(bY ao hx h1).1;have e2:=aq ao hi h2;simp only[bO,rep] at e1 e2;obtain⟨b,off,us,g1,g2,g3,g4,g5⟩:=e1;split at hz
   · rename_i hc;simp only[Option.some.injEq] at hz;subst hz;have hlen:=aK g3;refine⟨_,run b off k n g1 e2 hc.1 hc.2.1,?_,T_⟩;simp only[bO,rep];refine⟨b,_,us.drop (n.toNat*sz),rfl,?_,cC _ g3,by rw[List.length_drop];omega,dL g5 _⟩
     rw[List.all_eq_true] at g2 ⊢;exact fun y hy=>g2 y (List.mem_of_mem_drop hy)
   · cases hz
 · cases hz
end
end Sm
namespace Sm
open Go
theorem rr{α:Type}{c:Array α}{x:α}(h:c.toList=[x]):c=#[x]:=Array.toList_inj.1 (by simpa using h)
theorem sw{α:Type}{c:Array α}{x y:α}(h:c.toList=[x,y]):c=#[x,y]:=Array.toList_inj.1 (by simpa using h)
section
variable {P:Program} {D:List (Nat×List HV)} {ν:Nat→Option Nat} {w0:World} {K0:Nat→Nat} {H0:ab} {N:Nat} {e:Env} {H:ab} {a:Act} {w:World} {K μ:Nat→Nat} {o:Oper}
theorem N5(ao:St D ν w0 K0 H0 N e H a w K μ){T x i x' i'}(ho:o.op = .index T x i)(hT:isStr P T=true)(hx:au ν x x'=true)(hi:au ν i i'=true)
   {z} (hz:(aw.jr x' i').ev e H=some z):Calm P ν K μ e a w o z:=by
 have hu:=fi hT;simp only[aw.ev] at hz;split at hz
 · rename_i s k n h1 h2;have e1:=aq ao hx h1;have e2:=aq ao hi h2;simp only[rep] at e1 e2;split at hz
   · rename_i hc;simp only[Option.some.injEq] at hz;subst hz;refine⟨.int .u8 (s[n.toNat]'hc.2).toNat,?_,by simp only[bO,rep],T_⟩
     simp[execOp,ho,e1,e2,Instr.index,asIntOf,run_underlying hu,hc.1,hc.2]
   · cases hz
 · cases hz
theorem Vr(ao:St D ν w0 K0 H0 N e H a w K μ){c x t x'}(ho:o.op = .call c)(hc:c.callee = .builtin .len)(dD:c.args.toList=[x])(ye:c.argTypes.toList=[t])
   (hT:(Sm.elemOf P t).isSome=true) (hx:au ν x x'=true) {z} (hz:(aw.len x').ev e H=some z):Calm P ν K μ e a w o z:=by
 have ha:=rr dD;have ht:=rr ye;obtain⟨el,eB⟩:=Option.isSome_iff_exists.1 hT;have hu:=cw eB;have base:∀A n cap,a.eval x = .slice A n cap→(execOp a.eval o).run P w = .ok (.value (.int .i64 n)) w:=by
   intro A n cap hs;simp[execOp,ho,resolve,hc,ha,ht,invoke,builtin,hs,Builtin.len_,run_underlying hu,goInt]
 simp only[aw.ev] at hz;split at hz;{rename_i tk sz es h1;have e1:=aq ao hx h1;simp only[rep] at e1;obtain⟨A,cap,aR,g1,_⟩:=e1;simp only[Option.some.injEq] at hz;subst hz;exact⟨_,base _ _ _ g1,by simp[bO,rep],T_⟩};{rename_i A n cap h1;have e1:=aq ao hx h1;simp only[rep] at e1;simp only[Option.some.injEq] at hz;subst hz;exact⟨_,base _ _ _ e1,by simp[bO,rep],T_⟩};{cases hz}
theorem N6(ao:St D ν w0 K0 H0 N e H a w K μ){c x t x'}(ho:o.op = .call c)(hc:c.callee = .builtin .len)(dD:c.args.toList=[x])(ye:c.argTypes.toList=[t])
   (hT:isStr P t=true) (hx:au ν x x'=true) {z} (hz:(aw.dF x').ev e H=some z):Calm P ν K μ e a w o z:=by
 have ha:=rr dD;have ht:=rr ye;have hu:=fi hT;simp only[aw.ev] at hz;split at hz
 · rename_i s h1;have e1:=aq ao hx h1;simp only[rep] at e1;simp only[Option.some.injEq] at hz;subst hz;refine⟨.int .i64 s.size,?_,by simp[bO,rep],T_⟩
   simp[execOp,ho,resolve,hc,ha,ht,invoke,builtin,e1,Builtin.len_,run_underlying hu,goInt]
 · cases hz
theorem Qq(ao:St D ν w0 K0 H0 N e H a w K μ){c x y x' y'}{mx:Bool}(ho:o.op = .call c)(hc:c.callee = .builtin (if mx then .max else .min))(dD:c.args.toList=[x,y])
   (hx:au ν x x'=true) (hy:au ν y y'=true) {z} (hz:(aw.mm mx x' y').ev e H=some z):Calm P ν K μ e a w o z:=by
 have ha:=sw dD;simp only[aw.ev] at hz;split at hz
 · rename_i k m k' n h1 h2;have e1:=aq ao hx h1;have e2:=aq ao hy h2;simp only[rep] at e1 e2;split at hz
   · simp only[Option.some.injEq] at hz;subst hz;cases mx
     · refine⟨.int k (if n < m then n else m),?_,by simp[bO,rep],T_⟩
       simp[execOp,ho,resolve,hc,ha,invoke,builtin,e1,e2,Builtin.min_,Builtin.min2]
     · refine⟨.int k (if m < n then n else m),?_,by simp[bO,rep],T_⟩
       simp[execOp,ho,resolve,hc,ha,invoke,builtin,e1,e2,Builtin.max_,Builtin.max2]
   · cases hz
 · cases hz
theorem N7(ao:St D ν w0 K0 H0 N e H a w K μ){f first cq g ys}(ho:o.op = .makeFunc (.func f) first cq)(QE:first.isEmpty=true)(hg:pK ν f g)(qT:j0 ν cq.toList ys=true)
   {z} (hz:(aw.iD g ys).ev e H=some z):Calm P ν K μ e a w o z:=by
 have hf:first=#[]:=by simpa using QE
 simp only[aw.ev] at hz;cases hh:e.cJ ys with
 | none=>simp[hh] at hz
 | some hs =>
   simp only[hh,Option.map_some,Option.some.injEq] at hz;subst hz;have h1:=ji ao qT hh;refine⟨.func (.func f) #[] (cq.map a.eval),?_,?_,T_⟩;{simp[execOp,ho,Instr.makeFunc,hf]};{simp only[bO,rep];exact⟨f,cq.toList.map a.eval,hg,by rw[←Array.toList_map,Array.toArray_toList],h1⟩}
theorem Vs(ao:St D ν w0 K0 H0 N e H a w K μ){x i x'}(ho:o.op = .extract x i)(hx:au ν x x'=true)
   {z} (hz:(aw.ext x' i).ev e H=some z):Calm P ν K μ e a w o z:=by
 simp only[aw.ev] at hz;split at hz
 · rename_i vs h1;have e1:=aq ao hx h1;simp only[rep] at e1;obtain⟨us,g1,g2⟩:=e1;cases hi:vs[i]? with
   | none=>simp[hi] at hz
   | some h' =>
     simp only[hi,Option.map_some,Option.some.injEq] at hz;subst hz;obtain⟨u,u1,u2⟩:=ti g2 hi;refine⟨u,?_,u2,T_⟩;simp[execOp,ho,g1,Instr.extract,u1]
 · cases hz
theorem dH(ao:St D ν w0 K0 H0 N e H a w K μ){d:Nat}{lo:Option Operand}{x9:Option bj}(hk:eC ν lo x9=true){l:Int}(hl:iE e d x9=some l) :
   match lo.map a.eval with
   | some (.int _ n)=>n=l
   | none=>l=d
   | _=>False:=by
 cases lo<;>cases x9<;>simp only[eC,Bool.false_eq_true] at hk;{simpa[iE] using hl.symm};{simp only[iE] at hl;split at hl;{rename_i k n h1;have e1:=aq ao hk h1;simp only[rep] at e1;simp only[Option.some.injEq] at hl;subst hl;simp[e1]};{cases hl}}
theorem jS{lo hi:Option Value}{Io:Bool}{len cap:Nat}{l h:Int}(hl:match lo with | some (.int _ n)=>n=l | none=>l=0 | _=>False)
   (hh:match hi with | some (.int _ n)=>n=h | none=>h=len | _=>False) (h0:0≤l) (h1:l≤h) (h2:h≤len) (h3:len≤cap) :
   (Instr.sliceBounds Io len cap lo hi none).run P w = .ok (l.toNat,h.toNat,cap) w:=by
 have hb:∀(k:IntKind) (n:Int) (y:Nat) (code:BoundsCode),0≤n→n≤y→(Instr.sliceBound (.int k n) y code).run P w = .ok n.toNat w:=fun k n y c a b=>jd k n y c a b;unfold Instr.sliceBounds;rcases lo with _ | lo<;>rcases hi with _ | hi;{simp only at hl hh;subst hl;subst hh;simp}
 · cases hi<;>simp only at hh;simp only at hl;subst hl;subst hh;rename_i k n;have lL:=fun c=>hb k n cap c h1 (by omega)
   simp[lL]
 · cases lo<;>simp only at hl;simp only at hh;subst hl;subst hh;rename_i k n;have lL:=fun c=>hb k n len c h0 h1;simp[lL]
 · cases lo<;>simp only at hl;cases hi<;>simp only at hh;subst hl;subst hh;rename_i k n k' n';have lL:=fun c=>hb k' n' cap c (by omega) (by omega)
   have A7:=fun c=>hb k n n'.toNat c h0 (by omega)
   simp[lL,A7]
theorem Vt(ao:St D ν w0 K0 H0 N e H a w K μ){T x lo hi x' x9 fo}(ho:o.op = .slice T x lo hi none)(hT:isStr P T=true)(hx:au ν x x'=true)(Vu:eC ν lo x9=true)(Vv:eC ν hi fo=true)
   {z} (hz:(aw.sI x' x9 fo).ev e H=some z):Calm P ν K μ e a w o z:=by
 have hu:=fi hT;simp only[aw.ev] at hz;split at hz
 · rename_i s h1;have e1:=aq ao hx h1;simp only[rep] at e1;split at hz
   · rename_i l h hl hh;have b1:=dH ao Vu hl;have b2:=dH ao Vv hh;split at hz
     · rename_i hc;simp only[Option.some.injEq] at hz;subst hz;refine⟨.string (s.extract l.toNat h.toNat),?_,by simp[bO,rep],T_⟩
       have:=jS (P:=P) (w:=w) (Io:=false) (cap:=s.size) b1 b2 hc.1 hc.2.1 hc.2.2 (Nat.le_refl _);simp[execOp,ho,e1,Instr.sliceAt,Instr.slice,run_underlying hu,this]
     · cases hz
   · cases hz
 · cases hz
end
end Sm
