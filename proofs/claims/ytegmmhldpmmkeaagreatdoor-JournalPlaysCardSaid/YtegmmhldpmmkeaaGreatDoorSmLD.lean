/-
  K
-/
import Derived.Test.YtegmmhldpmmkeaaGreatDoorSmLC
import Derived.Laws.BytesString
import Derived.Laws.IdiomStrings
import Derived.Laws.Externs
set_option linter.unusedVariables false
set_option linter.unusedSimpArgs false
set_option linter.unnecessarySimpa false
namespace Sm
open Go
section
variable {P:Program} {D:List (Nat×List HV)} {ν:Nat→Option Nat} {w0:World} {K0:Nat→Nat} {H0:ab} {N:Nat} {e:Env} {H:ab} {a:Act} {w:World} {K μ:Nat→Nat} {o:Oper}
def rj(P:Program)(ν:Nat→Option Nat)(K:Nat→Nat)(H:ab)(a:Act)(w:World)(o:Oper)(R:HV→Prop):Prop:=
 ∃u w' K' h,(execOp a.eval o).run P w = .ok (.value u) w'∧Ext (quiet ν) w K H w' K' H∧dS ν w' K' H∧rep ν K' w' h u∧R h
theorem eA{x:bj}{hs:List HV}(hh:e.cJ [x]=some hs):∃z,e.hv x=some z∧hs=[z]:=by
 simp only[Env.cJ] at hh;split at hh;{rename_i z zs h1 h2;simp only[Option.some.injEq] at h2 hh;subst h2 hh;exact⟨z,h1,rfl⟩};{cases hh}
theorem Mk(ao:St D ν w0 K0 H0 N e H a w K μ){ne:Bool}{t x y yt x'}(ho:o.op = .binOp (if ne then .neq else .eql) t x y yt)(hy:A6 y=true)(hk:sM P t .gy=true)(hx:au ν x x'=true){hs}(hh:e.cJ [x']=some hs){R:HV→Prop}(hR:rv (.ka ne) hs H R) :
   rj P ν K H a w o R:=by
 obtain⟨z,hz,rfl⟩:=eA hh;have e1:=aq ao hx hz;have e2:a.eval y = .slice none 0 0:=by
   unfold A6 at hy;split at hy;{rfl};{cases hy}
 simp only[sM] at hk;split at hk
 · rename_i el hu;have fin:∀A n c (r:Bool),a.eval x = .slice A n c→r=A.isNone→(execOp a.eval o).run P w = .ok (.value (.bool (if ne then !r else r))) w:=by
     intro A n c r hA hr;have h1:(Op.equal t (.slice A n c) (.slice none 0 0)).run P w = .ok r w:=by
       subst hr;have h0:∀d,(Op.equalIn (d+1) t (.slice A n c) (.slice none 0 0)).run P w = .ok A.isNone w:=by
         intro d;cases A<;>simp[Op.equalIn,run_underlying hu]
       exact h0 9999
     have g:∀op,eqGuard op t x y (.slice A n c) (.slice none 0 0)=pure ():=fun op=>by cases op<;>rfl
     have b1:binOp .eql t (.slice A n c) (.slice none 0 0)=(do pure (.bool (←Op.equal t (.slice A n c) (.slice none 0 0)))):=rfl
     have b2:binOp .neq t (.slice A n c) (.slice none 0 0)=(do pure (.bool (!(←Op.equal t (.slice A n c) (.slice none 0 0))))):=rfl
     cases ne<;>simp[execOp,ho,hA,e2,g,b1,b2,h1]
   unfold rv at hR;split at hR;{rename_i ne' n c _ hl;simp only[List.cons.injEq,and_true] at hl;subst hl;rename_i eJ;injection eJ with eJ;subst eJ;simp only[rep] at e1;exact⟨_,w,K,.v (.bool (if ne then !true else true)),fin _ _ _ true e1 rfl,Ext.refl _ _ _,ao.hs,by simp[rep],by cases ne<;>exact hR⟩}
   · rename_i ne' tk sz es _ hl;simp only[List.cons.injEq,and_true] at hl;subst hl;rename_i eJ;injection eJ with eJ;subst eJ;simp only[rep] at e1;obtain⟨A,cap,aR,g1,g2,g3,g4,g5,g6,g7,g8⟩:=e1;refine⟨_,w,K,.v (.bool (if ne then !A.isNone else A.isNone)),fin _ _ _ A.isNone g1 rfl,Ext.refl _ _ _,ao.hs,by simp[rep],hR A.isNone fun ha=>?_⟩
     rcases g8 with g8 | ⟨b,off,hA,_⟩;{exact g8};{subst hA;cases ha}
   all_goals first | (rename_i h _;cases h;done) | exact hR.elim
 · cases hk
theorem qE{s:ByteArray}:∀{aR:List Value},aC ν K w (bP s) aR→flat aR=s.data.toList.map fun b => .int .u8 b.toNat:=by
 unfold bP;generalize s.data.toList=l
 induction l with
 | nil=>intro aR h;simp[aC] at h;subst h;rfl
 | cons b l ih =>
   intro aR h;simp only[List.map_cons,aC,gL,rep] at h;obtain⟨u,dr,rfl,rfl,h3⟩:=h;have:=ih (by simpa[gL] using h3)
   simp only[flat,List.flatMap_cons,List.map_cons] at this ⊢;rw[this];rfl
theorem xK{s:ByteArray}:∀{aR:List Value},aC ν K w (bP s) aR→aR=s.data.toList.map fun b => .int .u8 b.toNat:=by
 unfold bP;generalize s.data.toList=l
 induction l with
 | nil=>intro aR h;simp[aC] at h;exact h
 | cons b l ih =>
   intro aR h;simp only[List.map_cons,aC,gL,rep] at h;obtain⟨u,dr,rfl,rfl,h3⟩:=h;have h4:=ih (aR:=dr) (by simpa[gL] using h3)
   rw[List.map_cons,h4]
theorem gW{T:TypeId}(h:gV P T=true):∃e,P.underlying T=some (.slice e)∧P.underlying e=some (.int .u8):=by
 unfold gV at h;split at h;{rename_i e he;split at h;{exact⟨e,he,by assumption⟩};{cases h}};{cases h}
theorem Wf(ao:St D ν w0 K0 H0 N e H a w K μ){src dst x x'}(ho:o.op = .convert src dst x)(h1:gV P src=true)(h2:isStr P dst=true)(hx:au ν x x'=true){hs}(hh:e.cJ [x']=some hs){R:HV→Prop}(hR:rv .AY hs H R):rj P ν K H a w o R:=by
 obtain⟨z,hz,rfl⟩:=eA hh;have e1:=aq ao hx hz;obtain⟨el,u1,u2⟩:=gW h1;have u3:=fi h2;have fin:∀v s,a.eval x=v→(convert src dst v).run P w = .ok (.string s) w→R (.v (.string s))→rj P ν K H a w o R:=by
   intro v s hv hr hR;exact⟨.string s,w,K,.v (.string s),by simp[execOp,ho,hv,hr],Ext.refl _ _ _,ao.hs,by simp[rep],hR⟩
 unfold rv at hR;split at hR
 all_goals first | (rename_i h _;cases h;done) | skip
 · rename_i tk es _ hl;simp only[List.cons.injEq,and_true] at hl;subst hl;obtain⟨s,rfl,hR⟩:=hR;simp only[rep] at e1;obtain⟨A,cap,aR,g1,g2,g3,g4,g5,g6,g7,g8⟩:=e1;have hlen:(bP s).length=s.data.toList.length:=by simp[bP]
   have hs:(⟨s.data.toList.toArray⟩:ByteArray)=s:=by cases s;simp
   rcases g8 with g8 | ⟨b,off,rfl,_,hc⟩
   · have so:s.data.toList=[]:=by have:=congrArg List.length g8;rw[hlen] at this;exact List.length_eq_zero_iff.mp this
     refine fin _ s g1 ?_ hR;rw[run_convert_bytes_string w src dst el A _ cap u1 u2 u3];have Np:s=ByteArray.empty:=by rw[←hs,so];rfl
     cases A with
     | none=>simp[Conv.bytesToString,Np]
     | some ad =>
       have h0:(bP s).length=0:=by rw[hlen,so];rfl
       rw[h0];have:=run_bytesToString (P:=P) w ad 0 cap [] (by
         have:=run_loadCells_list (P:=P) w ad ([]:List Value) (fun j v hj=>by simp at hj)
         simpa using this)
       rw[this,Np];rfl
   · refine fin _ s g1 ?_ hR;rw[hlen];have:=run_convert_bytes_back (P:=P) w src dst el ⟨b,off,none⟩ cap s.data.toList u1 u2 u3 (fun j hj=>by
       rw[cZ];refine hc j _ ?_;rw[qE g7];simp[List.getElem?_eq_getElem hj])
     rw[this,hs]
 · rename_i _ hl;simp only[List.cons.injEq,and_true] at hl;subst hl;simp only[rep] at e1;refine fin _ _ e1 ?_ hR;rw[run_convert_bytes_string w src dst el none 0 0 u1 u2 u3];simp[Conv.bytesToString];rfl
 · rename_i b off n c _ hl;simp only[List.cons.injEq,and_true] at hl;subst hl;split at hR
   · rename_i cs hb;obtain⟨hle,s,PW,hR⟩:=hR;simp only[rep] at e1;obtain⟨us,T,r1,r2,r3,r4⟩:=ao.hs.res b _ hb;have h1:=cB n (cC off r3);rw[PW] at h1;have hlen:(bP s).length=n:=by rw[←PW,List.length_take,List.length_drop];omega
     have Ly:s.data.toList.length=n:=by rw[←hlen];simp[bP]
     have hs:(⟨s.data.toList.toArray⟩:ByteArray)=s:=by cases s;simp
     have hc:=bl (dL (bl (bQ r1) cs.length) off) n;rw[xK h1] at hc;refine fin _ s e1 ?_ hR;have:=run_convert_bytes_back (P:=P) w src dst el ⟨b,off,none⟩ c s.data.toList u1 u2 u3 (fun j hj=>by
       rw[cZ];have h3:=hc j (.int .u8 (s.data.toList[j]).toNat) (by simp[List.getElem?_eq_getElem hj])
       simpa using h3)
     rw[Ly] at this;rw[this,hs]
   · exact hR.elim
 all_goals exact hR.elim
theorem Wg(ao:St D ν w0 K0 H0 N e H a w K μ){src dst x x'}(ho:o.op = .convert src dst x)(h1:isStr P src=true)(h2:gV P dst=true)(hx:au ν x x'=true){hs}(hh:e.cJ [x']=some hs){R:HV→Prop}(hR:rv .ZA hs H R):rj P ν K H a w o R:=by
 obtain⟨z,hz,rfl⟩:=eA hh;have e1:=aq ao hx hz;obtain⟨el,u1,u2⟩:=gW h2;have u3:=fi h1;unfold rv at hR;split at hR
 all_goals first | (rename_i h _;cases h;done) | skip
 · rename_i s _ hl;simp only[List.cons.injEq,and_true] at hl;subst hl;simp only[rep] at e1;have hr:=run_bytes_of_string (P:=P) w src dst el s u3 u1 u2;have hd:dS ν w.drew K H:=ao.hs.draw;obtain⟨x1,x2⟩:=l9 hd (bytesRow s (grownCap w s.size 0 el)) el (bytesRow s (grownCap w s.size 0 el)).size (Nat.le_refl _) ((bytesRow s (grownCap w s.size 0 el)).size,(bytesRow s (grownCap w s.size 0 el)).size+1);have Aba:aC ν (fun b=>if b=w.drew.heap.size then (bytesRow s (grownCap w s.size 0 el)).size else K b) (w.drew.alloc (.cells (bytesRow s (grownCap w s.size 0 el)) el ((bytesRow s (grownCap w s.size 0 el)).size,(bytesRow s (grownCap w s.size 0 el)).size+1))) (bP s) (s.data.toList.map fun b => .int .u8 b.toNat):=by
     unfold bP;generalize s.data.toList=l
     induction l with
     | nil=>simp[aC]
     | cons b l ih =>
       simp only[List.map_cons,aC,gL,rep];exact⟨_,_,rfl,rfl,ih⟩
   have da:(bP s).length=s.size:=by simp only[bP,List.length_map,Array.length_toList];rfl
   have xZ:=grownCap_ge w s.size 0 el;obtain⟨hR1,hR⟩:=hR;have dI:(execOp a.eval o).run P w = .ok (.value (.slice (some ⟨w.heap.size,0,none⟩) s.size (grownCap w s.size 0 el))) (w.drew.alloc (.cells (bytesRow s (grownCap w s.size 0 el)) el ((bytesRow s (grownCap w s.size 0 el)).size,(bytesRow s (grownCap w s.size 0 el)).size+1))):=by
     simp only[execOp,ho,e1,Sem.run_bind,hr,Result.andThen_ok,Sem.run_pure]
   refine⟨_,_,_,.sl .no 1 (bP s),dI,(Ext.draw w K H _ (Nat.le_succ _)).trans x1,x2,?_,hR⟩;simp only[rep];refine⟨some ⟨w.heap.size,0,none⟩,grownCap w s.size 0 el,_,by rw[da],by rw[da];exact xZ,grownCap_le_maxLen w _ 0 el (by simp only[maxLen];omega),T_,?_,?_,Aba,.inr ⟨w.heap.size,0,rfl,?_,?_⟩⟩
   · rw[List.all_eq_true];intro e he;simp only[bP,List.mem_map] at he;obtain⟨b,_,rfl⟩:=he;rfl
   · intro e he;simp only[bP,List.mem_map] at he;obtain⟨b,_,rfl⟩:=he;rfl
   · rw[da];have:w.drew.heap.size=w.heap.size:=rfl;simp[bytesRow,this]
   · intro j v hj;have hc:=bQ (w:=w.drew.alloc (.cells (bytesRow s (grownCap w s.size 0 el)) el ((bytesRow s (grownCap w s.size 0 el)).size,(bytesRow s (grownCap w s.size 0 el)).size+1))) (heap_alloc_new w.drew _);refine hc j v ?_;have gA:flat (s.data.toList.map fun b=>Value.int .u8 b.toNat)=s.data.toList.map fun b=>Value.int .u8 b.toNat:=by
       generalize s.data.toList=l
       induction l with
       | nil=>rfl
       | cons b l ih=>simp only[flat,List.map_cons,List.flatMap_cons] at ih ⊢;rw[ih];rfl
     rw[gA] at hj;simp only[bytesRow,Array.toList_append,Array.toList_map];rw[List.getElem?_append_left (by exact(List.getElem?_eq_some_iff.1 hj).1)]
     exact hj
 all_goals exact hR.elim
theorem Wh(ao:St D ν w0 K0 H0 N e H a w K μ){c x t x'}(ho:o.op = .call c)(hc:c.callee = .builtin .cap)(dD:c.args.toList=[x])(ye:c.argTypes.toList=[t])
   (hT:(Sm.elemOf P t).isSome=true) (hx:au ν x x'=true) {hs} (hh:e.cJ [x']=some hs) {R:HV→Prop} (hR:rv .cap hs H R):rj P ν K H a w o R:=by
 obtain⟨z,hz,rfl⟩:=eA hh;have e1:=aq ao hx hz;have ha:=rr dD;have ht:=rr ye;obtain⟨el,eB⟩:=Option.isSome_iff_exists.1 hT;have hu:=cw eB;have base:∀A n cap,a.eval x = .slice A n cap→(execOp a.eval o).run P w = .ok (.value (.int .i64 cap)) w:=by
   intro A n cap hs;simp[execOp,ho,resolve,hc,ha,ht,invoke,builtin,hs,Builtin.cap_,run_underlying hu,goInt]
 unfold rv at hR;split at hR
 all_goals first | (rename_i h _;cases h;done) | skip
 · rename_i A n cap _ hl;simp only[List.cons.injEq,and_true] at hl;subst hl;simp only[rep] at e1;exact⟨_,w,K,.v (.int .i64 cap),base _ _ _ e1,Ext.refl _ _ _,ao.hs,by simp[rep],hR⟩
 · rename_i tk sz es _ hl;simp only[List.cons.injEq,and_true] at hl;subst hl;simp only[rep] at e1;obtain⟨A,cap,aR,g1,g2,g3,_⟩:=e1;exact⟨_,w,K,.v (.int .i64 cap),base _ _ _ g1,Ext.refl _ _ _,ao.hs,by simp[rep],hR cap g2 g3⟩
 all_goals exact hR.elim
theorem sy{n:Nat}{name origin:String}(h:qH P n name origin=true):∃f,P.funcs[n]? = some f∧f.name=name∧f.origin=origin∧f.body.isNone=true:=by
 unfold qH at h;split at h;{rename_i f hf;simp only[Bool.and_eq_true,decide_eq_true_eq] at h;exact⟨f,hf,h.1.1,h.1.2,h.2⟩};{cases h}
theorem Ml{fn:Func}(hn:fn.name = "internal/bytealg.IndexByteString")(ho:fn.origin = ""):Extern.find fn=some Extern.BytealgIndexByte.indexByte∧Extern.findNext fn=none:=by
 unfold Extern.find Extern.findNext;rw[hn,ho];constructor
 · have h1:Extern.allGenericRows.lookup "internal/bytealg.IndexByteString" = none:=by kernel_rfl
   have h2:Extern.allTypedRows.lookup "internal/bytealg.IndexByteString" = none:=by kernel_rfl
   have h3:Extern.allRows.lookup "internal/bytealg.IndexByteString" = some Extern.BytealgIndexByte.indexByte:=by kernel_rfl
   simp only[h1,h2,h3];rfl
 · have h1:Extern.allNextRows.lookup "internal/bytealg.IndexByteString" = none:=by kernel_rfl
   have h2:Extern.allNextRows.lookup "" = none:=by kernel_rfl
   simp only[h1,h2];rfl
theorem I7{fn:Func}(hn:fn.name = "internal/bytealg.CountString")(ho:fn.origin = ""):Extern.find fn=some Extern.BytealgCount.count∧Extern.findNext fn=none:=by
 unfold Extern.find Extern.findNext;rw[hn,ho];constructor
 · have h1:Extern.allGenericRows.lookup "internal/bytealg.CountString" = none:=by kernel_rfl
   have h2:Extern.allTypedRows.lookup "internal/bytealg.CountString" = none:=by kernel_rfl
   have h3:Extern.allRows.lookup "internal/bytealg.CountString" = some Extern.BytealgCount.count:=by kernel_rfl
   simp only[h1,h2,h3];rfl
 · have h1:Extern.allNextRows.lookup "internal/bytealg.CountString" = none:=by kernel_rfl
   have h2:Extern.allNextRows.lookup "" = none:=by kernel_rfl
   simp only[h1,h2];rfl
theorem iU{x y:bj}{hs:List HV}(hh:e.cJ [x,y]=some hs):∃z1 z2,e.hv x=some z1∧e.hv y=some z2∧hs=[z1,z2]:=by
 simp only[Env.cJ] at hh;split at hh;{rename_i z zs h1 h2;split at h2;{rename_i z' pZ h3 h4;simp only[Option.some.injEq] at h4 h2 hh;subst h4 h2 hh;exact⟨z,z',h1,h3,rfl⟩};{cases h2}};{cases hh}
theorem Wi(ao:St D ν w0 K0 H0 N e H a w K μ){c:Call}{n x y x' y'}(ho:o.op = .call c)(hc:c.callee = .value (.func n))(dD:c.args.toList=[x,y])(hf:qH P n "internal/bytealg.IndexByteString" "" = true)
   (hx:au ν x x'=true) (hy:au ν y y'=true) {hs} (hh:e.cJ [x',y']=some hs) {R:HV→Prop} (hR:rv .LU hs H R):rj P ν K H a w o R:=by
 obtain⟨z1,z2,h1,h2,rfl⟩:=iU hh;have e1:=aq ao hx h1;have e2:=aq ao hy h2;have ha:=sw dD;obtain⟨fn,f1,f2,f3,f4⟩:=sy hf;obtain⟨g1,g2⟩:=Ml f2 f3;unfold rv at hR;split at hR
 all_goals first | (rename_i h _;cases h;done) | skip
 · rename_i s cc _ hl;simp only[List.cons.injEq,and_true] at hl;obtain⟨rfl,rfl⟩:=hl;simp only[rep] at e1 e2;have hr:=run_callFunc_extern (P:=P) f1 (by rw[f2];decide) f4 g2 g1 #[.string s,.int .u8 cc] w
   rw[Lib.run_indexByteString] at hr;have dI:(execOp a.eval o).run P w = .ok (.value (.int .i64 (Lib.indexByte s.data.toList cc.toNat.toUInt8))) w:=by
     simp only[Result.andThen] at hr;have UE:a.eval (.func n) = .func (.func n) #[] #[]:=rfl;simp[execOp,ho,resolve,hc,ha,UE,Deferred.ofValue,invoke,e1,e2,hr]
   exact⟨_,w,K,.v (.int .i64 (Lib.indexByte s.data.toList cc.toNat.toUInt8)),dI,Ext.refl _ _ _,ao.hs,by simp[rep],hR⟩
 all_goals exact hR.elim
theorem OY(ao:St D ν w0 K0 H0 N e H a w K μ){c:Call}{n x y x' y'}(ho:o.op = .call c)(hc:c.callee = .value (.func n))(dD:c.args.toList=[x,y])(hf:qH P n "internal/bytealg.CountString" "" = true)
   (hx:au ν x x'=true) (hy:au ν y y'=true) {hs} (hh:e.cJ [x',y']=some hs) {R:HV→Prop} (hR:rv .J0 hs H R):rj P ν K H a w o R:=by
 obtain⟨z1,z2,h1,h2,rfl⟩:=iU hh;have e1:=aq ao hx h1;have e2:=aq ao hy h2;have ha:=sw dD;obtain⟨fn,f1,f2,f3,f4⟩:=sy hf;obtain⟨g1,g2⟩:=I7 f2 f3;unfold rv at hR;split at hR
 all_goals first | (rename_i h _;cases h;done) | skip
 · rename_i s cc _ hl;simp only[List.cons.injEq,and_true] at hl;obtain⟨rfl,rfl⟩:=hl;simp only[rep] at e1 e2;have hr:=run_callFunc_extern (P:=P) f1 (by rw[f2];decide) f4 g2 g1 #[.string s,.int .u8 cc] w
   rw[Lib.run_countString] at hr;have dI:(execOp a.eval o).run P w = .ok (.value (.int .i64 ((Lib.countByte s.data.toList cc.toNat.toUInt8:Nat):Int))) w:=by
     simp only[Result.andThen] at hr;have UE:a.eval (.func n) = .func (.func n) #[] #[]:=rfl;simp[execOp,ho,resolve,hc,ha,UE,Deferred.ofValue,invoke,e1,e2,hr]
   exact⟨_,w,K,.v (.int .i64 ((Lib.countByte s.data.toList cc.toNat.toUInt8:Nat):Int)),dI,Ext.refl _ _ _,ao.hs,by simp[rep],hR⟩
 all_goals exact hR.elim
theorem VS.of{e1:Env}{H1:ab}(h:e1.le e)(k:H1.sub H):VS e H e1 H1:=fun _ _ _ _ _ _ _ _ ⟨K,μ,ao⟩=>⟨K,μ,(ao.le h).sub k⟩
theorem VS.sub{H1:ab}(k:H1.sub H):VS e H e H1:=fun _ _ _ _ _ _ _ _ ⟨K,μ,ao⟩=>⟨K,μ,ao.sub k⟩
theorem VS.le{e1:Env}(h:e1.le e):VS e H e1 H:=fun _ _ _ _ _ _ _ _ ⟨K,μ,ao⟩=>⟨K,μ,ao.le h⟩
theorem Abb(ao:St D ν w0 K0 H0 N e H a w K μ){f:HZ}{xs:List bj}(hk:J3 P ν o.op f xs=true){Kc:EV→Env→ab→Prop}(hs:(aw.nd f xs).step (Spec P ν) e H Kc)
   {next:Act→World→Prop} {Q} (hK:lM D ν w0 K0 H0 N a o.dst Kc next):o.upon P a next Q ((execOp a.eval o).run P w):=by
 simp only[aw.step] at hs;split at hs
 · rename_i zs hz;have key:rj P ν K H a w o (fun h=>Kc (.h h) e H):=by
     unfold J3 at hk;split at hk;{rename_i ho;split at hk;{rename_i hc ha ht;simp only[Bool.and_eq_true] at hk;exact Wh ao ho hc ha ht hk.1 hk.2 hz hs};{cases hk}};{rename_i ho;split at hk;{rename_i hc ha;simp only[Bool.and_eq_true] at hk;exact Wi ao ho hc ha hk.1.1 hk.1.2 hk.2 hz hs};{cases hk}};{rename_i ho;split at hk;{rename_i hc ha;simp only[Bool.and_eq_true] at hk;exact OY ao ho hc ha hk.1.1 hk.1.2 hk.2 hz hs};{cases hk}};{rename_i ho;simp only[Bool.and_eq_true] at hk;exact Wf ao ho hk.1.1 hk.1.2 hk.2 hz hs};{rename_i ho;simp only[Bool.and_eq_true] at hk;exact Wg ao ho hk.1.1 hk.1.2 hk.2 hz hs};{rename_i ho;simp only[Bool.and_eq_true,decide_eq_true_eq] at hk;obtain⟨⟨⟨k1,k2⟩,k3⟩,k4⟩:=hk;subst k1;exact Mk ao ho k2 k3 k4 hz hs};{cases hk}
   obtain⟨u,w',K',h,h1,h2,h3,h4,h5⟩:=key;rw[h1];apply upon_value;exact hK _ _ _ h5 _ _ _ _ (ao.step h2 h3) h4 T_
 · exact hs.elim
end
end Sm
