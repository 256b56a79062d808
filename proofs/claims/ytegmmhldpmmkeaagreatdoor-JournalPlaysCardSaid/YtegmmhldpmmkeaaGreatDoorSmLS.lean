/-
  So
-/
import Derived.Test.YtegmmhldpmmkeaaGreatDoorSmLH
import Derived.Test.YtegmmhldpmmkeaaGreatDoorSmLI
import Derived.Shelf.SlSortCmp.NoneTotal
set_option linter.unusedVariables false
set_option linter.unusedSimpArgs false
namespace Sm
open Go Go.Proofs Go.Sort
structure AdO (P:Program) (n k:Nat):Prop where
 non:∀(p:Option Addr) (cap:Nat) (fv:Value) (w:World),Calls P n #[.slice p 0 cap,fv] w fun e w'=>e = .returned (.tuple #[])∧w'=w
 srt:∀{α:Type} [Inhabited α] (enc:α→List Value) (_:∀x,(enc x).length=k) (_:∀x,∀v∈enc x,v.oneCell'=true) (cf:α→α→Int) (_:SWO (ltOf cf)) (g:Nat) (cb:Array Value) (Ja off cap:Nat) (d:Array α) (w:World)
   (_:∀args w,(callFunc g args).run P w = .ok (.enter g args) w) (_:CmpLays P g cb enc k cf Ja off d.size w) (_:HoldsK enc k w Ja off d) (_:Ja < w.heap.size) (_:d.size < 4611686018427387904),
   Calls P n #[.slice (some ⟨Ja,off,none⟩) d.size cap,.func (.func g) #[] cb] w fun e w' =>
     e = .returned (.tuple #[])∧∃d' n os,PermIn 0 d.size d d'∧SortedIn (ltOf cf) 0 d.size d'∧w'=sortWorldK enc k w Ja off n d' os
theorem MK{φ:Prop}(hφ:φ){W w':World}{K K':Nat→Nat}{H':ab}(h:Ext φ W K (fun _=>none) w' K' H'):∃q os',w'=Sort.grow (W.drewN q) os':=by
 refine⟨w'.drawn - W.drawn,w'.heap.extract W.heap.size w'.heap.size,?_⟩;have h1:=h.os;have h2:=h.tape;have h3:=h.output;have h4:=h.drawn hφ;have h5:=h.size;have h6:w'.heap=W.heap++w'.heap.extract W.heap.size w'.heap.size:=by
   apply Array.ext_getElem?;intro i
   by_cases hi:i < W.heap.size
   · rw[(h.same i hi rfl).1,Array.getElem?_append_left hi]
   · rw[Array.getElem?_append_right (by omega),Array.getElem?_extract]
     by_cases Oh:i < w'.heap.size
     · rw[if_pos (by omega)];congr 1;omega
     · rw[if_neg (by omega),Array.getElem?_eq_none (by omega)]
 cases w';cases W;simp only[Sort.grow,World.drewN] at *;subst h1 h2 h3;rw[←h6];congr 1;omega
structure Part {code:Nat→SF} (L Q:ai code) (gc:Nat):Prop where
 P:Q.P=L.P
 q:quiet Q.ν
 c:∀n,pK L.ν n gc→pK Q.ν n gc
 t:∀n j,Q.ν (lS+n)≠some (lS+j)
end Sm
