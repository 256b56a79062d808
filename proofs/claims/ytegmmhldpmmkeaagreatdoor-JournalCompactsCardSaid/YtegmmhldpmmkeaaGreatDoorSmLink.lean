/-
  Link
-/
import Derived.Test.YtegmmhldpmmkeaaGreatDoorSmLkB
set_option linter.unusedVariables false
set_option maxRecDepth 100000
namespace Sm
open Go
theorem lk_all {α : Type} {p : Nat → α → Prop} : ∀ {l : List (Nat × α)}, (∀ q ∈ l, p q.1 q.2) → ∀ n a, lk l n = some a → p n a
 | [], _, n, a, h => by simp [lk] at h
 | (k, b) :: l, hp, n, a, h => by
   simp only [lk] at h
   split at h
   · rename_i hk; subst hk; simp only [Option.some.injEq] at h; subst h; exact hp (k, b) (by simp)
   · exact lk_all (fun q hq => hp q (by simp [hq])) n a h
def AllF (p : Nat → Nat → Prop) : List (Nat × Nat) → Prop
 | [] => True
 | q :: l => p q.1 q.2 ∧ AllF p l
theorem allF_cons {p : Nat → Nat → Prop} {a b : Nat} {l : List (Nat × Nat)} (h : p a b) (k : AllF p l) : AllF p ((a, b) :: l) := ⟨h, k⟩
theorem AllF.mem {p : Nat → Nat → Prop} : ∀ {l : List (Nat × Nat)}, AllF p l → ∀ q ∈ l, p q.1 q.2
 | [], _, q, hq => by cases hq
 | r :: l, h, q, hq => by
   rcases List.mem_cons.mp hq with rfl | hq
   · exact h.1
   · exact AllF.mem h.2 q hq
def Lnk (n g : Nat) : Prop := n < gOff → ∃ f, Go.Proofs.Tryz.prog.funcs[n]? = some f ∧ chkF Go.Proofs.Tryz.prog nu f (code g) = true
theorem allNu : AllF Lnk nuTab := by
 unfold nuTab
 refine allF_cons (fun _ => ⟨Go.Proofs.Tryz.f4, Go.Proofs.Tryz.func4, (congrArg (chkF Go.Proofs.Tryz.prog nu Go.Proofs.Tryz.f4) code497).trans chk4⟩) ?_
 refine allF_cons (fun _ => ⟨Go.Proofs.Tryz.f8, Go.Proofs.Tryz.func8, (congrArg (chkF Go.Proofs.Tryz.prog nu Go.Proofs.Tryz.f8) code377).trans chk8⟩) ?_
 refine allF_cons (fun _ => ⟨Go.Proofs.Tryz.f9, Go.Proofs.Tryz.func9, (congrArg (chkF Go.Proofs.Tryz.prog nu Go.Proofs.Tryz.f9) code378).trans chk9⟩) ?_
 refine allF_cons (fun _ => ⟨Go.Proofs.Tryz.f10, Go.Proofs.Tryz.func10, (congrArg (chkF Go.Proofs.Tryz.prog nu Go.Proofs.Tryz.f10) code294).trans chk10⟩) ?_
 refine allF_cons (fun _ => ⟨Go.Proofs.Tryz.f11, Go.Proofs.Tryz.func11, (congrArg (chkF Go.Proofs.Tryz.prog nu Go.Proofs.Tryz.f11) code379).trans chk11⟩) ?_
 refine allF_cons (fun _ => ⟨Go.Proofs.Tryz.f12, Go.Proofs.Tryz.func12, (congrArg (chkF Go.Proofs.Tryz.prog nu Go.Proofs.Tryz.f12) code297).trans chk12⟩) ?_
 refine allF_cons (fun _ => ⟨Go.Proofs.Tryz.f13, Go.Proofs.Tryz.func13, (congrArg (chkF Go.Proofs.Tryz.prog nu Go.Proofs.Tryz.f13) code381).trans chk13⟩) ?_
 refine allF_cons (fun _ => ⟨Go.Proofs.Tryz.f14, Go.Proofs.Tryz.func14, (congrArg (chkF Go.Proofs.Tryz.prog nu Go.Proofs.Tryz.f14) code380).trans chk14⟩) ?_
 refine allF_cons (fun _ => ⟨Go.Proofs.Tryz.f16, Go.Proofs.Tryz.func16, (congrArg (chkF Go.Proofs.Tryz.prog nu Go.Proofs.Tryz.f16) code382).trans chk16⟩) ?_
 refine allF_cons (fun _ => ⟨Go.Proofs.Tryz.f17, Go.Proofs.Tryz.func17, (congrArg (chkF Go.Proofs.Tryz.prog nu Go.Proofs.Tryz.f17) code384).trans chk17⟩) ?_
 refine allF_cons (fun _ => ⟨Go.Proofs.Tryz.f18, Go.Proofs.Tryz.func18, (congrArg (chkF Go.Proofs.Tryz.prog nu Go.Proofs.Tryz.f18) code383).trans chk18⟩) ?_
 refine allF_cons (fun _ => ⟨Go.Proofs.Tryz.f19, Go.Proofs.Tryz.func19, (congrArg (chkF Go.Proofs.Tryz.prog nu Go.Proofs.Tryz.f19) code385).trans chk19⟩) ?_
 refine allF_cons (fun _ => ⟨Go.Proofs.Tryz.f20, Go.Proofs.Tryz.func20, (congrArg (chkF Go.Proofs.Tryz.prog nu Go.Proofs.Tryz.f20) code386).trans chk20⟩) ?_
 refine allF_cons (fun _ => ⟨Go.Proofs.Tryz.f22, Go.Proofs.Tryz.func22, (congrArg (chkF Go.Proofs.Tryz.prog nu Go.Proofs.Tryz.f22) code387).trans chk22⟩) ?_
 refine allF_cons (fun _ => ⟨Go.Proofs.Tryz.f23, Go.Proofs.Tryz.func23, (congrArg (chkF Go.Proofs.Tryz.prog nu Go.Proofs.Tryz.f23) code311).trans chk23⟩) ?_
 refine allF_cons (fun _ => ⟨Go.Proofs.Tryz.f24, Go.Proofs.Tryz.func24, (congrArg (chkF Go.Proofs.Tryz.prog nu Go.Proofs.Tryz.f24) code388).trans chk24⟩) ?_
 refine allF_cons (fun _ => ⟨Go.Proofs.Tryz.f25, Go.Proofs.Tryz.func25, (congrArg (chkF Go.Proofs.Tryz.prog nu Go.Proofs.Tryz.f25) code300).trans chk25⟩) ?_
 refine allF_cons (fun _ => ⟨Go.Proofs.Tryz.f35, Go.Proofs.Tryz.func35, (congrArg (chkF Go.Proofs.Tryz.prog nu Go.Proofs.Tryz.f35) code396).trans chk35⟩) ?_
 refine allF_cons (fun _ => ⟨Go.Proofs.Tryz.f37, Go.Proofs.Tryz.func37, (congrArg (chkF Go.Proofs.Tryz.prog nu Go.Proofs.Tryz.f37) code315).trans chk37⟩) ?_
 refine allF_cons (fun _ => ⟨Go.Proofs.Tryz.f38, Go.Proofs.Tryz.func38, (congrArg (chkF Go.Proofs.Tryz.prog nu Go.Proofs.Tryz.f38) code398).trans chk38⟩) ?_
 refine allF_cons (fun _ => ⟨Go.Proofs.Tryz.f39, Go.Proofs.Tryz.func39, (congrArg (chkF Go.Proofs.Tryz.prog nu Go.Proofs.Tryz.f39) code299).trans chk39⟩) ?_
 refine allF_cons (fun _ => ⟨Go.Proofs.Tryz.f40, Go.Proofs.Tryz.func40, (congrArg (chkF Go.Proofs.Tryz.prog nu Go.Proofs.Tryz.f40) code304).trans chk40⟩) ?_
 refine allF_cons (fun _ => ⟨Go.Proofs.Tryz.f41, Go.Proofs.Tryz.func41, (congrArg (chkF Go.Proofs.Tryz.prog nu Go.Proofs.Tryz.f41) code399).trans chk41⟩) ?_
 refine allF_cons (fun _ => ⟨Go.Proofs.Tryz.f42, Go.Proofs.Tryz.func42, (congrArg (chkF Go.Proofs.Tryz.prog nu Go.Proofs.Tryz.f42) code400).trans chk42⟩) ?_
 refine allF_cons (fun _ => ⟨Go.Proofs.Tryz.f43, Go.Proofs.Tryz.func43, (congrArg (chkF Go.Proofs.Tryz.prog nu Go.Proofs.Tryz.f43) code401).trans chk43⟩) ?_
 refine allF_cons (fun _ => ⟨Go.Proofs.Tryz.f44, Go.Proofs.Tryz.func44, (congrArg (chkF Go.Proofs.Tryz.prog nu Go.Proofs.Tryz.f44) code301).trans chk44⟩) ?_
 refine allF_cons (fun _ => ⟨Go.Proofs.Tryz.f45, Go.Proofs.Tryz.func45, (congrArg (chkF Go.Proofs.Tryz.prog nu Go.Proofs.Tryz.f45) code303).trans chk45⟩) ?_
 refine allF_cons (fun _ => ⟨Go.Proofs.Tryz.f46, Go.Proofs.Tryz.func46, (congrArg (chkF Go.Proofs.Tryz.prog nu Go.Proofs.Tryz.f46) code329).trans chk46⟩) ?_
 refine allF_cons (fun _ => ⟨Go.Proofs.Tryz.f47, Go.Proofs.Tryz.func47, (congrArg (chkF Go.Proofs.Tryz.prog nu Go.Proofs.Tryz.f47) code330).trans chk47⟩) ?_
 refine allF_cons (fun _ => ⟨Go.Proofs.Tryz.f48, Go.Proofs.Tryz.func48, (congrArg (chkF Go.Proofs.Tryz.prog nu Go.Proofs.Tryz.f48) code331).trans chk48⟩) ?_
 refine allF_cons (fun _ => ⟨Go.Proofs.Tryz.f49, Go.Proofs.Tryz.func49, (congrArg (chkF Go.Proofs.Tryz.prog nu Go.Proofs.Tryz.f49) code332).trans chk49⟩) ?_
 refine allF_cons (fun _ => ⟨Go.Proofs.Tryz.f50, Go.Proofs.Tryz.func50, (congrArg (chkF Go.Proofs.Tryz.prog nu Go.Proofs.Tryz.f50) code403).trans chk50⟩) ?_
 refine allF_cons (fun _ => ⟨Go.Proofs.Tryz.f51, Go.Proofs.Tryz.func51, (congrArg (chkF Go.Proofs.Tryz.prog nu Go.Proofs.Tryz.f51) code402).trans chk51⟩) ?_
 refine allF_cons (fun _ => ⟨Go.Proofs.Tryz.f52, Go.Proofs.Tryz.func52, (congrArg (chkF Go.Proofs.Tryz.prog nu Go.Proofs.Tryz.f52) code333).trans chk52⟩) ?_
 refine allF_cons (fun _ => ⟨Go.Proofs.Tryz.f53, Go.Proofs.Tryz.func53, (congrArg (chkF Go.Proofs.Tryz.prog nu Go.Proofs.Tryz.f53) code404).trans chk53⟩) ?_
 refine allF_cons (fun _ => ⟨Go.Proofs.Tryz.f54, Go.Proofs.Tryz.func54, (congrArg (chkF Go.Proofs.Tryz.prog nu Go.Proofs.Tryz.f54) code405).trans chk54⟩) ?_
 refine allF_cons (fun _ => ⟨Go.Proofs.Tryz.f55, Go.Proofs.Tryz.func55, (congrArg (chkF Go.Proofs.Tryz.prog nu Go.Proofs.Tryz.f55) code411).trans chk55⟩) ?_
 refine allF_cons (fun _ => ⟨Go.Proofs.Tryz.f56, Go.Proofs.Tryz.func56, (congrArg (chkF Go.Proofs.Tryz.prog nu Go.Proofs.Tryz.f56) code406).trans chk56⟩) ?_
 refine allF_cons (fun _ => ⟨Go.Proofs.Tryz.f57, Go.Proofs.Tryz.func57, (congrArg (chkF Go.Proofs.Tryz.prog nu Go.Proofs.Tryz.f57) code407).trans chk57⟩) ?_
 refine allF_cons (fun _ => ⟨Go.Proofs.Tryz.f58, Go.Proofs.Tryz.func58, (congrArg (chkF Go.Proofs.Tryz.prog nu Go.Proofs.Tryz.f58) code408).trans chk58⟩) ?_
 refine allF_cons (fun _ => ⟨Go.Proofs.Tryz.f59, Go.Proofs.Tryz.func59, (congrArg (chkF Go.Proofs.Tryz.prog nu Go.Proofs.Tryz.f59) code302).trans chk59⟩) ?_
 refine allF_cons (fun _ => ⟨Go.Proofs.Tryz.f60, Go.Proofs.Tryz.func60, (congrArg (chkF Go.Proofs.Tryz.prog nu Go.Proofs.Tryz.f60) code409).trans chk60⟩) ?_
 refine allF_cons (fun _ => ⟨Go.Proofs.Tryz.f61, Go.Proofs.Tryz.func61, (congrArg (chkF Go.Proofs.Tryz.prog nu Go.Proofs.Tryz.f61) code410).trans chk61⟩) ?_
 refine allF_cons (fun _ => ⟨Go.Proofs.Tryz.f62, Go.Proofs.Tryz.func62, (congrArg (chkF Go.Proofs.Tryz.prog nu Go.Proofs.Tryz.f62) code309).trans chk62⟩) ?_
 refine allF_cons (fun _ => ⟨Go.Proofs.Tryz.f63, Go.Proofs.Tryz.func63, (congrArg (chkF Go.Proofs.Tryz.prog nu Go.Proofs.Tryz.f63) code298).trans chk63⟩) ?_
 refine allF_cons (fun _ => ⟨Go.Proofs.Tryz.f64, Go.Proofs.Tryz.func64, (congrArg (chkF Go.Proofs.Tryz.prog nu Go.Proofs.Tryz.f64) code412).trans chk64⟩) ?_
 refine allF_cons (fun _ => ⟨Go.Proofs.Tryz.f65, Go.Proofs.Tryz.func65, (congrArg (chkF Go.Proofs.Tryz.prog nu Go.Proofs.Tryz.f65) code413).trans chk65⟩) ?_
 refine allF_cons (fun _ => ⟨Go.Proofs.Tryz.f66, Go.Proofs.Tryz.func66, (congrArg (chkF Go.Proofs.Tryz.prog nu Go.Proofs.Tryz.f66) code414).trans chk66⟩) ?_
 refine allF_cons (fun _ => ⟨Go.Proofs.Tryz.f67, Go.Proofs.Tryz.func67, (congrArg (chkF Go.Proofs.Tryz.prog nu Go.Proofs.Tryz.f67) code416).trans chk67⟩) ?_
 refine allF_cons (fun _ => ⟨Go.Proofs.Tryz.f68, Go.Proofs.Tryz.func68, (congrArg (chkF Go.Proofs.Tryz.prog nu Go.Proofs.Tryz.f68) code415).trans chk68⟩) ?_
 refine allF_cons (fun _ => ⟨Go.Proofs.Tryz.f69, Go.Proofs.Tryz.func69, (congrArg (chkF Go.Proofs.Tryz.prog nu Go.Proofs.Tryz.f69) code417).trans chk69⟩) ?_
 refine allF_cons (fun _ => ⟨Go.Proofs.Tryz.f70, Go.Proofs.Tryz.func70, (congrArg (chkF Go.Proofs.Tryz.prog nu Go.Proofs.Tryz.f70) code418).trans chk70⟩) ?_
 refine allF_cons (fun _ => ⟨Go.Proofs.Tryz.f71, Go.Proofs.Tryz.func71, (congrArg (chkF Go.Proofs.Tryz.prog nu Go.Proofs.Tryz.f71) code419).trans chk71⟩) ?_
 refine allF_cons (fun _ => ⟨Go.Proofs.Tryz.f72, Go.Proofs.Tryz.func72, (congrArg (chkF Go.Proofs.Tryz.prog nu Go.Proofs.Tryz.f72) code420).trans chk72⟩) ?_
 refine allF_cons (fun _ => ⟨Go.Proofs.Tryz.f73, Go.Proofs.Tryz.func73, (congrArg (chkF Go.Proofs.Tryz.prog nu Go.Proofs.Tryz.f73) code421).trans chk73⟩) ?_
 refine allF_cons (fun _ => ⟨Go.Proofs.Tryz.f74, Go.Proofs.Tryz.func74, (congrArg (chkF Go.Proofs.Tryz.prog nu Go.Proofs.Tryz.f74) code186).trans chk74⟩) ?_
 refine allF_cons (fun _ => ⟨Go.Proofs.Tryz.f76, Go.Proofs.Tryz.func76, (congrArg (chkF Go.Proofs.Tryz.prog nu Go.Proofs.Tryz.f76) code312).trans chk76⟩) ?_
 refine allF_cons (fun _ => ⟨Go.Proofs.Tryz.f87, Go.Proofs.Tryz.func87, (congrArg (chkF Go.Proofs.Tryz.prog nu Go.Proofs.Tryz.f87) code203).trans chk87⟩) ?_
 refine allF_cons (fun _ => ⟨Go.Proofs.Tryz.f88, Go.Proofs.Tryz.func88, (congrArg (chkF Go.Proofs.Tryz.prog nu Go.Proofs.Tryz.f88) code428).trans chk88⟩) ?_
 refine allF_cons (fun _ => ⟨Go.Proofs.Tryz.f89, Go.Proofs.Tryz.func89, (congrArg (chkF Go.Proofs.Tryz.prog nu Go.Proofs.Tryz.f89) code429).trans chk89⟩) ?_
 refine allF_cons (fun _ => ⟨Go.Proofs.Tryz.f90, Go.Proofs.Tryz.func90, (congrArg (chkF Go.Proofs.Tryz.prog nu Go.Proofs.Tryz.f90) code430).trans chk90⟩) ?_
 refine allF_cons (fun _ => ⟨Go.Proofs.Tryz.f91, Go.Proofs.Tryz.func91, (congrArg (chkF Go.Proofs.Tryz.prog nu Go.Proofs.Tryz.f91) code336).trans chk91⟩) ?_
 refine allF_cons (fun _ => ⟨Go.Proofs.Tryz.f92, Go.Proofs.Tryz.func92, (congrArg (chkF Go.Proofs.Tryz.prog nu Go.Proofs.Tryz.f92) code335).trans chk92⟩) ?_
 refine allF_cons (fun _ => ⟨Go.Proofs.Tryz.f93, Go.Proofs.Tryz.func93, (congrArg (chkF Go.Proofs.Tryz.prog nu Go.Proofs.Tryz.f93) code344).trans chk93⟩) ?_
 refine allF_cons (fun _ => ⟨Go.Proofs.Tryz.f94, Go.Proofs.Tryz.func94, (congrArg (chkF Go.Proofs.Tryz.prog nu Go.Proofs.Tryz.f94) code431).trans chk94⟩) ?_
 refine allF_cons (fun _ => ⟨Go.Proofs.Tryz.f95, Go.Proofs.Tryz.func95, (congrArg (chkF Go.Proofs.Tryz.prog nu Go.Proofs.Tryz.f95) code432).trans chk95⟩) ?_
 refine allF_cons (fun _ => ⟨Go.Proofs.Tryz.f96, Go.Proofs.Tryz.func96, (congrArg (chkF Go.Proofs.Tryz.prog nu Go.Proofs.Tryz.f96) code339).trans chk96⟩) ?_
 refine allF_cons (fun _ => ⟨Go.Proofs.Tryz.f97, Go.Proofs.Tryz.func97, (congrArg (chkF Go.Proofs.Tryz.prog nu Go.Proofs.Tryz.f97) code337).trans chk97⟩) ?_
 refine allF_cons (fun _ => ⟨Go.Proofs.Tryz.f98, Go.Proofs.Tryz.func98, (congrArg (chkF Go.Proofs.Tryz.prog nu Go.Proofs.Tryz.f98) code338).trans chk98⟩) ?_
 refine allF_cons (fun _ => ⟨Go.Proofs.Tryz.f99, Go.Proofs.Tryz.func99, (congrArg (chkF Go.Proofs.Tryz.prog nu Go.Proofs.Tryz.f99) code342).trans chk99⟩) ?_
 refine allF_cons (fun _ => ⟨Go.Proofs.Tryz.f100, Go.Proofs.Tryz.func100, (congrArg (chkF Go.Proofs.Tryz.prog nu Go.Proofs.Tryz.f100) code343).trans chk100⟩) ?_
 refine allF_cons (fun _ => ⟨Go.Proofs.Tryz.f102, Go.Proofs.Tryz.func102, (congrArg (chkF Go.Proofs.Tryz.prog nu Go.Proofs.Tryz.f102) code90).trans chk102⟩) ?_
 refine allF_cons (fun _ => ⟨Go.Proofs.Tryz.f103, Go.Proofs.Tryz.func103, (congrArg (chkF Go.Proofs.Tryz.prog nu Go.Proofs.Tryz.f103) code361).trans chk103⟩) ?_
 refine allF_cons (fun _ => ⟨Go.Proofs.Tryz.f104, Go.Proofs.Tryz.func104, (congrArg (chkF Go.Proofs.Tryz.prog nu Go.Proofs.Tryz.f104) code362).trans chk104⟩) ?_
 refine allF_cons (fun _ => ⟨Go.Proofs.Tryz.f105, Go.Proofs.Tryz.func105, (congrArg (chkF Go.Proofs.Tryz.prog nu Go.Proofs.Tryz.f105) code363).trans chk105⟩) ?_
 refine allF_cons (fun _ => ⟨Go.Proofs.Tryz.f106, Go.Proofs.Tryz.func106, (congrArg (chkF Go.Proofs.Tryz.prog nu Go.Proofs.Tryz.f106) code163).trans chk106⟩) ?_
 refine allF_cons (fun _ => ⟨Go.Proofs.Tryz.f107, Go.Proofs.Tryz.func107, (congrArg (chkF Go.Proofs.Tryz.prog nu Go.Proofs.Tryz.f107) code192).trans chk107⟩) ?_
 refine allF_cons (fun _ => ⟨Go.Proofs.Tryz.f108, Go.Proofs.Tryz.func108, (congrArg (chkF Go.Proofs.Tryz.prog nu Go.Proofs.Tryz.f108) code340).trans chk108⟩) ?_
 refine allF_cons (fun _ => ⟨Go.Proofs.Tryz.f109, Go.Proofs.Tryz.func109, (congrArg (chkF Go.Proofs.Tryz.prog nu Go.Proofs.Tryz.f109) code313).trans chk109⟩) ?_
 refine allF_cons (fun _ => ⟨Go.Proofs.Tryz.f110, Go.Proofs.Tryz.func110, (congrArg (chkF Go.Proofs.Tryz.prog nu Go.Proofs.Tryz.f110) code341).trans chk110⟩) ?_
 refine allF_cons (fun _ => ⟨Go.Proofs.Tryz.f111, Go.Proofs.Tryz.func111, (congrArg (chkF Go.Proofs.Tryz.prog nu Go.Proofs.Tryz.f111) code350).trans chk111⟩) ?_
 refine allF_cons (fun _ => ⟨Go.Proofs.Tryz.f112, Go.Proofs.Tryz.func112, (congrArg (chkF Go.Proofs.Tryz.prog nu Go.Proofs.Tryz.f112) code351).trans chk112⟩) ?_
 refine allF_cons (fun _ => ⟨Go.Proofs.Tryz.f113, Go.Proofs.Tryz.func113, (congrArg (chkF Go.Proofs.Tryz.prog nu Go.Proofs.Tryz.f113) code364).trans chk113⟩) ?_
 refine allF_cons (fun _ => ⟨Go.Proofs.Tryz.f114, Go.Proofs.Tryz.func114, (congrArg (chkF Go.Proofs.Tryz.prog nu Go.Proofs.Tryz.f114) code164).trans chk114⟩) ?_
 refine allF_cons (fun _ => ⟨Go.Proofs.Tryz.f115, Go.Proofs.Tryz.func115, (congrArg (chkF Go.Proofs.Tryz.prog nu Go.Proofs.Tryz.f115) code334).trans chk115⟩) ?_
 refine allF_cons (fun _ => ⟨Go.Proofs.Tryz.f116, Go.Proofs.Tryz.func116, (congrArg (chkF Go.Proofs.Tryz.prog nu Go.Proofs.Tryz.f116) code193).trans chk116⟩) ?_
 refine allF_cons (fun _ => ⟨Go.Proofs.Tryz.f117, Go.Proofs.Tryz.func117, (congrArg (chkF Go.Proofs.Tryz.prog nu Go.Proofs.Tryz.f117) code433).trans chk117⟩) ?_
 refine allF_cons (fun _ => ⟨Go.Proofs.Tryz.f140, Go.Proofs.Tryz.func140, (congrArg (chkF Go.Proofs.Tryz.prog nu Go.Proofs.Tryz.f140) code212).trans chk140⟩) ?_
 refine allF_cons (fun _ => ⟨Go.Proofs.Tryz.f142, Go.Proofs.Tryz.func142, (congrArg (chkF Go.Proofs.Tryz.prog nu Go.Proofs.Tryz.f142) code189).trans chk142⟩) ?_
 refine allF_cons (fun _ => ⟨Go.Proofs.Tryz.f143, Go.Proofs.Tryz.func143, (congrArg (chkF Go.Proofs.Tryz.prog nu Go.Proofs.Tryz.f143) code366).trans chk143⟩) ?_
 refine allF_cons (fun _ => ⟨Go.Proofs.Tryz.f144, Go.Proofs.Tryz.func144, (congrArg (chkF Go.Proofs.Tryz.prog nu Go.Proofs.Tryz.f144) code365).trans chk144⟩) ?_
 refine allF_cons (fun _ => ⟨Go.Proofs.Tryz.f145, Go.Proofs.Tryz.func145, (congrArg (chkF Go.Proofs.Tryz.prog nu Go.Proofs.Tryz.f145) code442).trans chk145⟩) ?_
 refine allF_cons (fun _ => ⟨Go.Proofs.Tryz.f146, Go.Proofs.Tryz.func146, (congrArg (chkF Go.Proofs.Tryz.prog nu Go.Proofs.Tryz.f146) code443).trans chk146⟩) ?_
 refine allF_cons (fun _ => ⟨Go.Proofs.Tryz.f147, Go.Proofs.Tryz.func147, (congrArg (chkF Go.Proofs.Tryz.prog nu Go.Proofs.Tryz.f147) code444).trans chk147⟩) ?_
 refine allF_cons (fun _ => ⟨Go.Proofs.Tryz.f148, Go.Proofs.Tryz.func148, (congrArg (chkF Go.Proofs.Tryz.prog nu Go.Proofs.Tryz.f148) code445).trans chk148⟩) ?_
 refine allF_cons (fun _ => ⟨Go.Proofs.Tryz.f149, Go.Proofs.Tryz.func149, (congrArg (chkF Go.Proofs.Tryz.prog nu Go.Proofs.Tryz.f149) code447).trans chk149⟩) ?_
 refine allF_cons (fun _ => ⟨Go.Proofs.Tryz.f150, Go.Proofs.Tryz.func150, (congrArg (chkF Go.Proofs.Tryz.prog nu Go.Proofs.Tryz.f150) code446).trans chk150⟩) ?_
 refine allF_cons (fun _ => ⟨Go.Proofs.Tryz.f151, Go.Proofs.Tryz.func151, (congrArg (chkF Go.Proofs.Tryz.prog nu Go.Proofs.Tryz.f151) code448).trans chk151⟩) ?_
 refine allF_cons (fun _ => ⟨Go.Proofs.Tryz.f152, Go.Proofs.Tryz.func152, (congrArg (chkF Go.Proofs.Tryz.prog nu Go.Proofs.Tryz.f152) code367).trans chk152⟩) ?_
 refine allF_cons (fun _ => ⟨Go.Proofs.Tryz.f154, Go.Proofs.Tryz.func154, (congrArg (chkF Go.Proofs.Tryz.prog nu Go.Proofs.Tryz.f154) code369).trans chk154⟩) ?_
 refine allF_cons (fun _ => ⟨Go.Proofs.Tryz.f157, Go.Proofs.Tryz.func157, (congrArg (chkF Go.Proofs.Tryz.prog nu Go.Proofs.Tryz.f157) code182).trans chk157⟩) ?_
 refine allF_cons (fun _ => ⟨Go.Proofs.Tryz.f158, Go.Proofs.Tryz.func158, (congrArg (chkF Go.Proofs.Tryz.prog nu Go.Proofs.Tryz.f158) code181).trans chk158⟩) ?_
 refine allF_cons (fun _ => ⟨Go.Proofs.Tryz.f159, Go.Proofs.Tryz.func159, (congrArg (chkF Go.Proofs.Tryz.prog nu Go.Proofs.Tryz.f159) code201).trans chk159⟩) ?_
 refine allF_cons (fun _ => ⟨Go.Proofs.Tryz.f160, Go.Proofs.Tryz.func160, (congrArg (chkF Go.Proofs.Tryz.prog nu Go.Proofs.Tryz.f160) code202).trans chk160⟩) ?_
 refine allF_cons (fun _ => ⟨Go.Proofs.Tryz.f161, Go.Proofs.Tryz.func161, (congrArg (chkF Go.Proofs.Tryz.prog nu Go.Proofs.Tryz.f161) code211).trans chk161⟩) ?_
 refine allF_cons (fun _ => ⟨Go.Proofs.Tryz.f162, Go.Proofs.Tryz.func162, (congrArg (chkF Go.Proofs.Tryz.prog nu Go.Proofs.Tryz.f162) code183).trans chk162⟩) ?_
 refine allF_cons (fun _ => ⟨Go.Proofs.Tryz.f163, Go.Proofs.Tryz.func163, (congrArg (chkF Go.Proofs.Tryz.prog nu Go.Proofs.Tryz.f163) code449).trans chk163⟩) ?_
 refine allF_cons (fun _ => ⟨Go.Proofs.Tryz.f182, Go.Proofs.Tryz.func182, (congrArg (chkF Go.Proofs.Tryz.prog nu Go.Proofs.Tryz.f182) code454).trans chk182⟩) ?_
 refine allF_cons (fun _ => ⟨Go.Proofs.Tryz.f183, Go.Proofs.Tryz.func183, (congrArg (chkF Go.Proofs.Tryz.prog nu Go.Proofs.Tryz.f183) code455).trans chk183⟩) ?_
 refine allF_cons (fun _ => ⟨Go.Proofs.Tryz.f184, Go.Proofs.Tryz.func184, (congrArg (chkF Go.Proofs.Tryz.prog nu Go.Proofs.Tryz.f184) code194).trans chk184⟩) ?_
 refine allF_cons (fun _ => ⟨Go.Proofs.Tryz.f185, Go.Proofs.Tryz.func185, (congrArg (chkF Go.Proofs.Tryz.prog nu Go.Proofs.Tryz.f185) code457).trans chk185⟩) ?_
 refine allF_cons (fun _ => ⟨Go.Proofs.Tryz.f186, Go.Proofs.Tryz.func186, (congrArg (chkF Go.Proofs.Tryz.prog nu Go.Proofs.Tryz.f186) code456).trans chk186⟩) ?_
 refine allF_cons (fun _ => ⟨Go.Proofs.Tryz.f187, Go.Proofs.Tryz.func187, (congrArg (chkF Go.Proofs.Tryz.prog nu Go.Proofs.Tryz.f187) code458).trans chk187⟩) ?_
 refine allF_cons (fun _ => ⟨Go.Proofs.Tryz.f188, Go.Proofs.Tryz.func188, (congrArg (chkF Go.Proofs.Tryz.prog nu Go.Proofs.Tryz.f188) code459).trans chk188⟩) ?_
 refine allF_cons (fun _ => ⟨Go.Proofs.Tryz.f189, Go.Proofs.Tryz.func189, (congrArg (chkF Go.Proofs.Tryz.prog nu Go.Proofs.Tryz.f189) code460).trans chk189⟩) ?_
 refine allF_cons (fun _ => ⟨Go.Proofs.Tryz.f190, Go.Proofs.Tryz.func190, (congrArg (chkF Go.Proofs.Tryz.prog nu Go.Proofs.Tryz.f190) code461).trans chk190⟩) ?_
 refine allF_cons (fun _ => ⟨Go.Proofs.Tryz.f191, Go.Proofs.Tryz.func191, (congrArg (chkF Go.Proofs.Tryz.prog nu Go.Proofs.Tryz.f191) code462).trans chk191⟩) ?_
 refine allF_cons (fun _ => ⟨Go.Proofs.Tryz.f192, Go.Proofs.Tryz.func192, (congrArg (chkF Go.Proofs.Tryz.prog nu Go.Proofs.Tryz.f192) code463).trans chk192⟩) ?_
 refine allF_cons (fun _ => ⟨Go.Proofs.Tryz.f193, Go.Proofs.Tryz.func193, (congrArg (chkF Go.Proofs.Tryz.prog nu Go.Proofs.Tryz.f193) code464).trans chk193⟩) ?_
 refine allF_cons (fun _ => ⟨Go.Proofs.Tryz.f194, Go.Proofs.Tryz.func194, (congrArg (chkF Go.Proofs.Tryz.prog nu Go.Proofs.Tryz.f194) code465).trans chk194⟩) ?_
 refine allF_cons (fun _ => ⟨Go.Proofs.Tryz.f205, Go.Proofs.Tryz.func205, (congrArg (chkF Go.Proofs.Tryz.prog nu Go.Proofs.Tryz.f205) code196).trans chk205⟩) ?_
 refine allF_cons (fun _ => ⟨Go.Proofs.Tryz.f206, Go.Proofs.Tryz.func206, (congrArg (chkF Go.Proofs.Tryz.prog nu Go.Proofs.Tryz.f206) code195).trans chk206⟩) ?_
 refine allF_cons (fun _ => ⟨Go.Proofs.Tryz.f207, Go.Proofs.Tryz.func207, (congrArg (chkF Go.Proofs.Tryz.prog nu Go.Proofs.Tryz.f207) code210).trans chk207⟩) ?_
 refine allF_cons (fun _ => ⟨Go.Proofs.Tryz.f208, Go.Proofs.Tryz.func208, (congrArg (chkF Go.Proofs.Tryz.prog nu Go.Proofs.Tryz.f208) code197).trans chk208⟩) ?_
 refine allF_cons (fun _ => ⟨Go.Proofs.Tryz.f223, Go.Proofs.Tryz.func223, (congrArg (chkF Go.Proofs.Tryz.prog nu Go.Proofs.Tryz.f223) code472).trans chk223⟩) ?_
 refine allF_cons (fun _ => ⟨Go.Proofs.Tryz.f224, Go.Proofs.Tryz.func224, (congrArg (chkF Go.Proofs.Tryz.prog nu Go.Proofs.Tryz.f224) code473).trans chk224⟩) ?_
 refine allF_cons (fun _ => ⟨Go.Proofs.Tryz.f225, Go.Proofs.Tryz.func225, (congrArg (chkF Go.Proofs.Tryz.prog nu Go.Proofs.Tryz.f225) code474).trans chk225⟩) ?_
 refine allF_cons (fun _ => ⟨Go.Proofs.Tryz.f226, Go.Proofs.Tryz.func226, (congrArg (chkF Go.Proofs.Tryz.prog nu Go.Proofs.Tryz.f226) code475).trans chk226⟩) ?_
 refine allF_cons (fun _ => ⟨Go.Proofs.Tryz.f227, Go.Proofs.Tryz.func227, (congrArg (chkF Go.Proofs.Tryz.prog nu Go.Proofs.Tryz.f227) code476).trans chk227⟩) ?_
 refine allF_cons (fun _ => ⟨Go.Proofs.Tryz.f228, Go.Proofs.Tryz.func228, (congrArg (chkF Go.Proofs.Tryz.prog nu Go.Proofs.Tryz.f228) code477).trans chk228⟩) ?_
 refine allF_cons (fun _ => ⟨Go.Proofs.Tryz.f229, Go.Proofs.Tryz.func229, (congrArg (chkF Go.Proofs.Tryz.prog nu Go.Proofs.Tryz.f229) code478).trans chk229⟩) ?_
 refine allF_cons (fun _ => ⟨Go.Proofs.Tryz.f230, Go.Proofs.Tryz.func230, (congrArg (chkF Go.Proofs.Tryz.prog nu Go.Proofs.Tryz.f230) code479).trans chk230⟩) ?_
 refine allF_cons (fun _ => ⟨Go.Proofs.Tryz.f236, Go.Proofs.Tryz.func236, (congrArg (chkF Go.Proofs.Tryz.prog nu Go.Proofs.Tryz.f236) code205).trans chk236⟩) ?_
 refine allF_cons (fun _ => ⟨Go.Proofs.Tryz.f237, Go.Proofs.Tryz.func237, (congrArg (chkF Go.Proofs.Tryz.prog nu Go.Proofs.Tryz.f237) code204).trans chk237⟩) ?_
 refine allF_cons (fun _ => ⟨Go.Proofs.Tryz.f238, Go.Proofs.Tryz.func238, (congrArg (chkF Go.Proofs.Tryz.prog nu Go.Proofs.Tryz.f238) code206).trans chk238⟩) ?_
 refine allF_cons (fun _ => ⟨Go.Proofs.Tryz.f255, Go.Proofs.Tryz.func255, (congrArg (chkF Go.Proofs.Tryz.prog nu Go.Proofs.Tryz.f255) code490).trans chk255⟩) ?_
 refine allF_cons (fun _ => ⟨Go.Proofs.Tryz.f258, Go.Proofs.Tryz.func258, (congrArg (chkF Go.Proofs.Tryz.prog nu Go.Proofs.Tryz.f258) code214).trans chk258⟩) ?_
 refine allF_cons (fun _ => ⟨Go.Proofs.Tryz.f259, Go.Proofs.Tryz.func259, (congrArg (chkF Go.Proofs.Tryz.prog nu Go.Proofs.Tryz.f259) code218).trans chk259⟩) ?_
 refine allF_cons (fun _ => ⟨Go.Proofs.Tryz.f270, Go.Proofs.Tryz.func270, (congrArg (chkF Go.Proofs.Tryz.prog nu Go.Proofs.Tryz.f270) code219).trans chk270⟩) ?_
 refine allF_cons (fun _ => ⟨Go.Proofs.Tryz.f273, Go.Proofs.Tryz.func273, (congrArg (chkF Go.Proofs.Tryz.prog nu Go.Proofs.Tryz.f273) code221).trans chk273⟩) ?_
 refine allF_cons (fun h => absurd h (by simp [gOff])) ?_
 refine allF_cons (fun h => absurd h (by simp [gOff])) ?_
 exact trivial
noncomputable def linked : Linked code where
 P := Go.Proofs.Tryz.prog
 ν := nu
 mixed := by kernel_rfl
 link := fun n g h => lk_all (p := Lnk) (l := nuTab) allNu.mem n g h.1 h.2
end Sm
