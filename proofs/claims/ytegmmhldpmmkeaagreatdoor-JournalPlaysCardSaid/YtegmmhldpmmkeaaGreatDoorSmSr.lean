/-
  Sr
-/
import Derived.Test.YtegmmhldpmmkeaaGreatDoorSmCl
import Derived.Test.YtegmmhldpmmkeaaGreatDoorSmSc
import Derived.Test.YtegmmhldpmmkeaaGreatDoorSmSk
import Derived.Test.YtegmmhldpmmkeaaGreatDoorSmSl
import Derived.Test.YtegmmhldpmmkeaaGreatDoorSmLink
set_option linter.unusedVariables false
set_option maxRecDepth 100000
namespace Sm
open Go Go.Proofs Go.Maps
theorem Jd:rL Tryz.prog 104 where
 non:=AnyF.slices_SortFunc_none { YtegmmhldpmmkeaaGreatDoor.Uu with }
 srt:=fun enc h1 cf hO g cb Ja off cap d w eg YX hH hblk da=>Any.slices_SortFunc YtegmmhldpmmkeaaGreatDoor.Uu enc h1 cf hO g cb Ja off cap d w eg YX hH hblk da
theorem AcH:Qa Tryz.prog 102 154:=⟨_,YtegmmhldpmmkeaaGreatDoor.AcE.t26,fun R w Bm b nn D0 hB hc ho hs=>by
 refine(CallsIn.calls (F:=Fence.wide) (AnyZ.collect_in YtegmmhldpmmkeaaGreatDoor.AcE Fence.wide 3 T_ T_ rfl (Nat.le_refl _) 154 #[.pointer (some ⟨Bm,0,none⟩)] trivial (YtegmmhldpmmkeaaGreatDoor.Ut.f10.enters rfl) (fun ss=>ss.Perm (strKeys D0)) (Maps.size D0)
   (Nat.le_trans hs (by decide)) (Nat.le_trans (Nat.mul_le_mul_right 16 hs) (by decide)) w (AnyZ.keys_gives YtegmmhldpmmkeaaGreatDoor.Ut Fence.wide 1 T_ rfl (Nat.le_refl _) Bm b nn D0 w hB hc ho)) (fun k=>by simp[Fence.room,Fence.wide])).mono ?_
 rintro e w' ⟨v,ss,he,hS,UT,_,hb⟩;exact⟨v,ss,he,hS,UT,hb⟩⟩
def ur:List (Nat×Nat):=[(105,363),(106,163),(157,182),(158,181),(205,196),(206,195),(236,205),(237,204),(258,214),(259,218),(270,219),(273,221)]
def He:Nat→Option Nat:=lk ur
theorem Ph:lI Tryz.prog He Tryz.f105 MH=true:=by kernel_rfl
theorem Pj:lI Tryz.prog He Tryz.f106 Mw=true:=by kernel_rfl
theorem Pk:lI Tryz.prog He Tryz.f157 My=true:=by kernel_rfl
theorem Pm:lI Tryz.prog He Tryz.f158 Mx=true:=by kernel_rfl
theorem Pn:lI Tryz.prog He Tryz.f205 MA=true:=by kernel_rfl
theorem Po:lI Tryz.prog He Tryz.f206 Mz=true:=by kernel_rfl
theorem Pp:lI Tryz.prog He Tryz.f236 MC=true:=by kernel_rfl
theorem Pq:lI Tryz.prog He Tryz.f237 MB=true:=by kernel_rfl
theorem Pr:lI Tryz.prog He Tryz.f258 MD=true:=by kernel_rfl
theorem Ps:lI Tryz.prog He Tryz.f259 ME=true:=by kernel_rfl
theorem Pu:lI Tryz.prog He Tryz.f270 MF=true:=by kernel_rfl
theorem Pv:lI Tryz.prog He Tryz.f273 MG=true:=by kernel_rfl
noncomputable def Hf:ai code where
 P:=Tryz.prog
 ν:=He
 mixed:=by kernel_rfl
 link:=by
   refine fun n g h=>Ci (p:=fun n g=>∃f,Tryz.prog.funcs[n]? = some f∧lI Tryz.prog He f (code g)=true) (l:=ur) ?_ n g h.1;intro q hq;simp only[ur,List.mem_cons,List.not_mem_nil,or_false] at hq;rcases hq with rfl | rfl | rfl | rfl | rfl | rfl | rfl | rfl | rfl | rfl | rfl | rfl;{exact⟨Tryz.f105,Tryz.func105,Ph⟩};{exact⟨Tryz.f106,Tryz.func106,Pj⟩};{exact⟨Tryz.f157,Tryz.func157,Pk⟩};{exact⟨Tryz.f158,Tryz.func158,Pm⟩};{exact⟨Tryz.f205,Tryz.func205,Pn⟩};{exact⟨Tryz.f206,Tryz.func206,Po⟩};{exact⟨Tryz.f236,Tryz.func236,Pp⟩};{exact⟨Tryz.f237,Tryz.func237,Pq⟩};{exact⟨Tryz.f258,Tryz.func258,Pr⟩};{exact⟨Tryz.f259,Tryz.func259,Ps⟩};{exact⟨Tryz.f270,Tryz.func270,Pu⟩};{exact⟨Tryz.f273,Tryz.func273,Pv⟩}
theorem uu{g:Nat}:∀{qD:List (Nat×Nat)} {n:Nat},lk qD n=some g→(n,g)∈qD
 | [],n,h=>by simp[lk] at h
 | p::qD,n,h=>by
   rw[lk] at h;split at h
   · rename_i h1;obtain⟨a,b⟩:=p;simp only[Option.some.injEq] at h h1;subst h
     simp_all
   · exact List.mem_cons_of_mem _ (uu h)
theorem only{g n k:Nat}(hk:(we.all fun p=>!(p.2==g)||p.1==k)=true)(h:linked.ν n=some g):n=k:=by
 have h4:=List.all_eq_true.mp hk _ (uu h);simpa using h4
theorem AcI:Part linked Hf 363 where
 P:=rfl
 q:=fun n h=>by
   have h3:(ur.all fun p=>!(p.2==90))=true:=by decide +kernel
   have h4:=List.all_eq_true.mp h3 _ (uu h);simp at h4
 c:=fun n h=>by
   have h2:n=105:=only (g:=363) (by decide +kernel) h.1
   subst h2;exact⟨rfl,h.2⟩
 t:=fun n j h=>by
   have h3:(ur.all fun p=>decide (p.1 < 1000000))=true:=by decide +kernel
   have h4:=List.all_eq_true.mp h3 _ (uu h);have h5:lS+n < 1000000:=of_decide_eq_true h4;have h6:lS=1000000:=rfl;omega
noncomputable def cl:Cl linked where
 cl:=wF linked (gk:=369) fun nn h1 mm h2=>by
   have e1:nn=102:=only (by decide +kernel) h1
   have e2:mm=154:=only (by decide +kernel) h2
   subst e1 e2;exact AcH
 s1:=fun n h=>by
   have e1:n=104:=only (by decide +kernel) h
   subst e1;exact Jd
 Q:=Hf
 pt:=AcI
end Sm
