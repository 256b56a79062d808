/-
  GJ,GK
-/
import Derived.Test.YtegmmhldpmmkeaaGreatDoorSmTb
import Derived.Test.YtegmmhldpmmkeaaGreatDoorSmIt
import Derived.Test.YtegmmhldpmmkeaaGreatDoorSmSi
import Derived.Test.YtegmmhldpmmkeaaGreatDoorSmJK
import Derived.Test.YtegmmhldpmmkeaaGreatDoorSmTA
import Derived.Test.YtegmmhldpmmkeaaGreatDoorRows
import Derived.Shelf.Strconv.Itoa3
import Derived.LaidMore
import Derived.Lay
import Derived.Test.YtegmmhldpmmkeaaGreatDoorSmJP
set_option linter.unusedVariables false
set_option maxRecDepth 100000
namespace Sm
open Go Go.Proofs Go.RowKit
theorem Vx:Tryz.prog.cellsOf 3=1:=by kernel_rfl
theorem Vy:Tryz.prog.cellsOf 4=1:=by kernel_rfl
theorem KQ:Tryz.prog.cellsOf 5=1:=by kernel_rfl
theorem KR:Tryz.prog.cellsOf 9=1:=by kernel_rfl
theorem AeJ:Tryz.prog.cellsOf 35=32:=by kernel_rfl
theorem AeK:Tryz.prog.cellsOf 37=37:=by kernel_rfl
theorem Ob:Tryz.prog.cellsOf 38=1:=by kernel_rfl
theorem Ek:Tryz.prog.cellsOf 40=6:=by kernel_rfl
theorem AeL:Tryz.prog.cellsOf 42=44:=by kernel_rfl
theorem AaJ:ya Tryz.prog nu 9 (fun a:List UInt8=>a.length≤9223372036854775807) (fun a=>[S a]) 1:=N9 Tryz.underlying9
theorem AaK:ya Tryz.prog nu 38 (fun l:List UInt8=>∀a∈l,True) (fun l=>[.sl .no 1 (l.map U)]) 1:=N' Tryz.underlying38 KQ (KN Tryz.underlying5)
theorem Ae1{s:List UInt8}(h:s.length=32):fq s=s.map U:=by
 have e:fq s=(iS s).map U:=rfl;rw[e,ud h]
theorem AfD:ya Tryz.prog nu 35 (fun s:List UInt8=>s.length=32) (fun s=>fq s) 32:=
 ⟨fun h=>by
   obtain⟨l,hl,_,hr⟩:=Ae0 (ν:=nu) (ok:=fun _:UInt8=>True) (g:=fun a:UInt8=>U a) Tryz.underlying35 KQ AeJ (KN Tryz.underlying5) h;exact⟨l,hl,by rw[Ae1 hl];exact hr⟩,fun _=>rfl,fun _=>rfl⟩
theorem AfE:ya Tryz.prog nu 37 (fun r:Rc=>r.sum.length=32) dE 37:=by
 have h:=Bx (ν:=nu) Tryz.underlying37 (n:=1+(1+(1+(32+(1+(1+0)))))) AeK (kD rfl KQ (KN Tryz.underlying5) (kD rfl Vx (N8 Tryz.underlying3) (kD rfl KR AaJ (kD rfl AeJ AfD (kD rfl Vx (N8 Tryz.underlying3) (kD rfl Vx (N8 Tryz.underlying3) Oa))))));exact h.as _ _ (fun p=>⟨p.1,p.2.1,p.2.2.1,p.2.2.2.1,p.2.2.2.2.1,p.2.2.2.2.2.1⟩) (fun p hp=>hp.2.2.2.1) (fun _=>rfl) (fun _=>rfl) (fun _=>rfl)
instance:Inhabited Ac:=⟨⟨0,zR,default⟩⟩
theorem KS:(YtegmmhldpmmkeaaGreatDoor.Rows.laid_internal_strconv_uint64pow10:DataW Unit)=Lib.tabData .u64 Lib.pow10Tab:=by kernel_rfl
theorem KT:(YtegmmhldpmmkeaaGreatDoor.Rows.laid_sumpter_crc_table:DataW Unit)=Lib.tabData .u32 KU:=by kernel_rfl
theorem AaL{W:World}(h:laidMetH Tryz.prog YtegmmhldpmmkeaaGreatDoor.Rows.journalKeepsRow.laid W):yj nu (iI W) W:=by
 rw[MakeChecks.laidMetH_plain _ _ _ (by kernel_rfl)] at h
 have h2:laidMet Tryz.prog [("math/bits.deBruijn32tab",YtegmmhldpmmkeaaGreatDoor.Rows.laid_math_bits_deBruijn32tab),("math/bits.deBruijn64tab",YtegmmhldpmmkeaaGreatDoor.Rows.laid_math_bits_deBruijn64tab),("internal/strconv.uint64pow10",YtegmmhldpmmkeaaGreatDoor.Rows.laid_internal_strconv_uint64pow10),("unicode/utf8.acceptRanges",YtegmmhldpmmkeaaGreatDoor.Rows.laid_unicode_utf8_acceptRanges),("sumpter/crc.table",YtegmmhldpmmkeaaGreatDoor.Rows.laid_sumpter_crc_table),("unicode/utf8.first",YtegmmhldpmmkeaaGreatDoor.Rows.laid_unicode_utf8_first)] W:=h;have t3:=h2.tail.tail;have t5:=t3.tail.tail;rw[KS] at t3;rw[KT] at t5;exact Oc (Lib.tabIs_of_head (g:=0) (t:=304) (e:=264) (n:=20) (by kernel_rfl) (by kernel_rfl) Tryz.underlying304 Tryz.underlying264 (by kernel_rfl) (by kernel_rfl) t3) (Lib.tabIs_of_head (g:=1) (t:=306) (e:=83) (n:=16) (by kernel_rfl) (by kernel_rfl) Tryz.underlying306 Tryz.underlying83 (by kernel_rfl) (by kernel_rfl) t5)
noncomputable def jc:JC linked where
 cl:=cl
 it:=fun n hn H K hk=>Od linked (fun nn h1=>by
   have e1:nn=88:=only (by decide +kernel) h1
   subst e1;exact fun i hi w ht=>(Any.strconv_Itoa YtegmmhldpmmkeaaGreatDoor.Adr (i:Int) (by omega) (by omega) w ht).mono fun e w' h=>⟨by rw[h.1,Lib.itoa_nonneg],h.2⟩) ⟨0,by kernel_rfl,by decide +kernel⟩ n hn H K hk
end Sm
namespace Sm
open Go Go.Proofs Go.RowKit
theorem Vz:ya Tryz.prog nu 40 (fun a:Ak=>a.n≤9223372036854775807) ZN 6:=by
 have h:=Bx (ν:=nu) Tryz.underlying40 (n:=1+(1+(1+(1+(1+(1+0)))))) Ek (kD rfl KQ (KN Tryz.underlying5) (kD rfl KR AaJ (kD rfl KR AaJ (kD rfl Ob AaK (kD rfl Vx (N8 Tryz.underlying3) (kD rfl Vy (KO Tryz.underlying4) Oa))))));exact h.as _ _ (fun p=>⟨p.1,p.2.1,p.2.2.1,p.2.2.2.1,p.2.2.2.2.1,p.2.2.2.2.2.1⟩) (fun p hp=>hp.2.2.2.2.1.2) (fun _=>rfl) (fun _=>rfl) (fun _=>rfl)
theorem Afu:ya Tryz.prog nu 42 (fun a:Ac=>Afv a∧a.d.n≤9223372036854775807) uc 44:=by
 have h:=Bx (ν:=nu) Tryz.underlying42 (n:=1+(37+(6+0))) AeL (kD rfl KQ (KN Tryz.underlying5) (kD rfl AeK AfE (kD rfl Ek Vz Oa)));exact h.as _ _ (fun p=>⟨p.1,p.2.1,p.2.2.1⟩) (fun p hp=>⟨hp.2.1,hp.2.2.1⟩) (fun _=>rfl) (fun _=>rfl) (fun _=>rfl)
theorem AfN:ya Tryz.prog nu 22 (fun l:List Ac=>∀a∈l,Afv a∧a.d.n≤9223372036854775807) (fun l=>[.sl .no 44 (l.map ZX)]) 1:=KP Tryz.underlying22 AeL (by decide) Afu
theorem AfR:ya Tryz.prog nu 62 (fun a:Int=>0≤a∧a≤65535) (fun a=>[.v (.int .u16 a)]) 1:=
 (Ae8 (k:=.u16) Tryz.underlying62).as _ _ id (fun a hw=>by
   simp only[Lit.wf,Bool.and_eq_true,decide_eq_true_eq] at hw;exact⟨hw.1,hw.2⟩) (fun _=>rfl) (fun _=>rfl) (fun _=>rfl)
end Sm
