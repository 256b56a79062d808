/-
  D42,D43,D39,D44
-/
import Derived.Test.YtegmmhldpmmkeaaGreatDoorSmDF
set_option linter.unusedVariables false
set_option linter.unusedSimpArgs false
set_option maxHeartbeats 2000000
namespace Sm
open Go
def zz : List UInt8 := [122, 122]
structure Quie (d : Dk) : Prop where
 fa : d.fails = -1
 wr : d.wrong = -1
 dn : d.down = false
structure Zs (d : Dk) (n m t i : Nat) (x : Fl) : Prop where
 wf : d.WF n m
 tr : d.Tr
 cl : Quie d
 rm : d.room = 100000
 tt : tot d.f ≤ t
 nm : ∃ y, getN d.now zz = some y ∧ y.dir = false ∧ y.id = i
 fx : d.f[i]? = some x
end Sm
set_option maxRecDepth 10000
namespace Sm
open Go
def GvK (Q : HV → Heap → Prop) : HV → Heap → Prop := fun r X => Q r X ∨ (∃ r', Weak r r' ∧ Q r' X) ∨ ∃ b cs r', X b = some (.obj cs) ∧ FW b cs r r' ∧ Q r' (X.upd b none)
def GvN (Q : HV → Heap → Prop) : Nat → HV → Heap → Prop
 | 0 => Q
 | n + 1 => GvK (GvN Q n)
theorem Spec.giveN {P : Program} {ν : Nat → Option Nat} {g : Nat} {args : List HV} {H : Heap} {Q : HV → Heap → Prop} : ∀ n, Spec P ν g args H (GvN Q n) → Spec P ν g args H Q
 | 0, h => h
 | n + 1, h => Spec.giveN n (Spec.give h)
theorem FWL.app' {b : Nat} {cs : List HV} : ∀ {x y z u : List HV}, FWL b cs x y → FWL b cs z u → FWL b cs (x ++ z) (y ++ u)
 | [], [], _, _, _, h => h
 | x :: a, y :: b, _, _, h, k => ⟨h.1, FWL.app' h.2 k⟩
 | [], _ :: _, _, _, h, _ => h.elim
 | _ :: _, [], _, _, h, _ => h.elim
theorem gv_list {H : Heap} {Q : HV → Heap → Prop} : ∀ (eos : List Eo) (pre : List HV) (X : Heap), (∀ y ∈ pre, y.el = true ∧ y.ncells = 3) → EB H X eos → ED eos → Fr [] H X →
   (∀ X', Fr [] H X' → Q (.sl .no 3 (pre ++ (eos.map Eo.e).map encE)) X') → GvN Q eos.length (.sl .no 3 (pre ++ eos.map encO)) X
 | [], pre, X, hp, he, hd, hf, hk => hk X hf
 | x :: eos, pre, X, hp, he, hd, hf, hk => by
   have hd2 := List.pairwise_cons.mp hd
   have hx := he x (by simp)
   have he2 : EB H X eos := fun y hy => he y (by simp [hy])
   have hp2 : ∀ y ∈ pre ++ [encE x.e], y.el = true ∧ y.ncells = 3 := fun y hy => by
     rcases List.mem_append.mp hy with hy | hy
     · exact hp y hy
     · rw [List.mem_singleton] at hy; subst hy; exact ⟨rfl, rfl⟩
   have hk2 : ∀ X', Fr [] H X' → Q (.sl .no 3 ((pre ++ [encE x.e]) ++ (eos.map Eo.e).map encE)) X' := fun X' h => by
     rw [List.append_assoc]; exact hk X' h
   have hrest : ∀ y ∈ eos.map encO, y.el = true ∧ y.ncells = 3 := fun y hy => by
     obtain ⟨z, hz, rfl⟩ := List.mem_map.mp hy
     refine ⟨?_, rfl⟩
     have := (he2 z hz).1.one
     show ([S z.e.path, B z.e.dir, z.v].all HV.one) = true
     simp only [List.all_cons, this.1]; rfl
   have hall : ∀ y ∈ pre ++ encE x.e :: eos.map encO, y.el = true ∧ y.ncells = 3 := fun y hy => by
     rcases List.mem_append.mp hy with hy | hy
     · exact hp y hy
     · rcases List.mem_cons.mp hy with rfl | hy
       · exact ⟨rfl, rfl⟩
       · exact hrest y hy
   have happ : pre ++ encE x.e :: eos.map encO = (pre ++ [encE x.e]) ++ eos.map encO := by simp
   show GvK (GvN Q eos.length) _ X
   have weakcase : Weak x.v (.sl .no 1 (x.e.data.map U)) → GvK (GvN Q eos.length) (.sl .no 3 (pre ++ encO x :: eos.map encO)) X := fun hw => by
     refine .inr (.inl ⟨.sl .no 3 (pre ++ encE x.e :: eos.map encO), ?_, ?_⟩)
     · refine Weak.els (WeakL.app (WeakL.refl _) (show WeakL (encO x :: eos.map encO) (encE x.e :: eos.map encO) from ⟨show Weak (.ag [S x.e.path, B x.e.dir, x.v]) (.ag [S x.e.path, B x.e.dir, .sl .no 1 (x.e.data.map U)]) from Weak.ag ⟨Weak.refl _, Weak.refl _, hw, trivial⟩ rfl, WeakL.refl _⟩)) ?_ fun y hy => (hall y hy).2
       rw [List.all_eq_true]; exact fun y hy => (hall y hy).1
     · rw [happ]; exact gv_list eos _ X hp2 he2 hd2.2 hf hk2
   rcases hx.1 with ⟨hv, hl⟩ | ⟨hv, hl⟩ | ⟨a, c, zs, hv, h1, h2, h3, h4⟩
   · rw [List.map_cons]; exact weakcase (by rw [hv, hl]; exact Weak.nil' 1)
   · rw [List.map_cons]; exact weakcase (by rw [hv, hl]; exact Weak.drop _ _ _)
   · have hna := hx.2 a (by rw [hv]; simp [fvb])
     refine .inr (.inr ⟨a, _, .sl .no 3 (pre ++ encE x.e :: eos.map encO), h1, ?_, ?_⟩)
     · refine FW.sl (FWL.app' (FWL.refl _ _ _) (show FWL a _ (encO x :: eos.map encO) (encE x.e :: eos.map encO) from ⟨FW.ag (xs := cO x) (ys := [S x.e.path, B x.e.dir, .sl .no 1 (x.e.data.map U)]) ⟨FW.refl _ _ _, FW.refl _ _ _, ?_, trivial⟩ rfl, FWL.refl _ _ _⟩)) ?_ fun y hy => (hall y hy).2
       · rw [hv]
         refine FW.slice (sz := 1) (es := x.e.data.map U) ?_ ?_ (by simp) h2 h3 ?_ ?_
         · rw [flat_U, List.take_append_of_le_length (by simp), List.take_of_length_le (by simp)]
         · simp
         · rw [List.all_eq_true]; intro y hy; obtain ⟨z, _, rfl⟩ := List.mem_map.mp hy; rfl
         · intro y hy; obtain ⟨z, _, rfl⟩ := List.mem_map.mp hy; rfl
       · rw [List.all_eq_true]; exact fun y hy => (hall y hy).1
     · rw [happ]
       refine gv_list eos _ _ hp2 (fun y hy => ⟨(he2 y hy).1.fr (bs := [a]) (Fr.set (by simp)) fun z hz hm => ?_, (he2 y hy).2⟩) hd2.2 (Fr.give hf hna) hk2
       rw [List.mem_singleton] at hm; subst hm
       exact hd2.1 y hy z (by rw [hv]; simp [fvb]) hz
attribute [local irreducible] csem rsem dsem seqK blockK normK finK DK RK JK BR G3 resK Spec Tok Fr CV GA YB w1 w2 w3 w4 w5 w6 g1 g2
theorem dlistF_spec (L : Linked code) (C : Cl L) (b : Nat) (h : Hd) (d : Dk) (n m : Nat) (hw : d.WF n m) (hn : n < 1048576) (hm : m ≤ 140737488355328) (H : Heap) (hD : KD H b h d) (K) (hk : ∀ X, Fr [] H X → K (.sl .no 3 (d.list.map encE)) X) : Spec L.P L.ν 312 [ptr b] H K := by
 refine Spec.giveN d.list.length ?_
 refine dlist_spec L C b h d n m hw hn hm H hD _ fun eos X hM hE hED hf => ?_
 have hl : d.list.length = eos.length := by rw [← hM, List.length_map]
 rw [hl]
 have := gv_list (Q := K) eos [] X (by simp) hE hED hf (by rw [hM]; exact hk)
 simpa using this
end Sm
namespace Sm
open Go
theorem FW.tu {b : Nat} {cs xs ys : List HV} (h : FWL b cs xs ys) : FW b cs (.tu xs) (.tu ys) := fun ν K w u f hr => by
 simp only [Sm.rep] at hr ⊢
 obtain ⟨us, e, h3⟩ := hr
 exact ⟨us, e, h.rep f h3⟩
structure Zd (d : Dk) : Prop where
 wf : d.WF 52 4000
 tr : d.Tr
 cl : Quie d
 rm : d.room = 100000
 tt : tot d.f ≤ 4000
 zz : (∃ i x, Zs d 52 4000 4000 i x) ∨ getN d.now zz = none
attribute [local irreducible] csem rsem dsem seqK blockK normK finK DK RK JK BR G3 resK Spec Tok Fr CV GA YB w1 w2 w3 w4 w5 w6 g1 g2
theorem dreadF_spec (L : Linked code) (b : Nat) (h : Hd) (d : Dk) (p : List UInt8) (n m : Nat) (hw : d.WF n m) (hm : m ≤ 140737488355328) (H : Heap) (hD : KD H b h d) (K) (hk : ∀ X, Fr [] H X → K (.tu [.sl .no 1 ((d.read p).1.map U), I (d.read p).2]) X) : Spec L.P L.ν 300 [ptr b, S p] H K := by
 refine Spec.give ?_
 refine dread_spec L b h d p n m hw hm H hD _ fun v X hC f hn => ?_
 rcases hC with ⟨rfl, hl⟩ | ⟨rfl, hl⟩ | ⟨a, c, zs, rfl, h1, h2, h3, h4⟩
 · rw [hl] at hk
   exact .inr (.inl ⟨_, Weak.tu (show WeakL [.v (.slice none 0 0), I (d.read p).2] [.sl .no 1 (([] : List UInt8).map U), I (d.read p).2] from ⟨Weak.nil' 1, Weak.refl _, trivial⟩), hk X f⟩)
 · rw [hl] at hk
   exact .inr (.inl ⟨_, Weak.tu (show WeakL [.sl .full 1 [], I (d.read p).2] [.sl .no 1 (([] : List UInt8).map U), I (d.read p).2] from ⟨Weak.drop _ _ _, Weak.refl _, trivial⟩), hk X f⟩)
 · refine .inr (.inr ⟨a, _, .tu [.sl .no 1 ((d.read p).1.map U), I (d.read p).2], h1, FW.tu ⟨FW.slice (sz := 1) (es := (d.read p).1.map U) ?_ ?_ (by simp) h2 h3 ?_ ?_, FW.refl _ _ _, trivial⟩, hk _ (Fr.give f (hn a (by simp [fvb])))⟩)
   · rw [flat_U, List.take_append_of_le_length (by simp), List.take_of_length_le (by simp)]
   · simp
   · rw [List.all_eq_true]; intro y hy; obtain ⟨z, _, rfl⟩ := List.mem_map.mp hy; rfl
   · intro y hy; obtain ⟨z, _, rfl⟩ := List.mem_map.mp hy; rfl
end Sm
