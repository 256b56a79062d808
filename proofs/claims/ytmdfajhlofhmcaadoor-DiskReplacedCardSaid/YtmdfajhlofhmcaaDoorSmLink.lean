/-
  A layer of one's own: texts Link.
-/
import Derived.Test.YtmdfajhlofhmcaaDoorSmLE
import Derived.Test.YtmdfajhlofhmcaaDoorSmLf
import Derived.Test.YtmdfajhlofhmcaaDoorProg
import Derived.KernelRfl
set_option linter.unusedVariables false
set_option maxRecDepth 100000
namespace Sm
open Go

def nuTab : List (Nat × Nat) := [(3, 376), (4, 293), (5, 294), (6, 299), (7, 302), (8, 303), (9, 304), (10, 310), (11, 305), (12, 314), (13, 309), (14, 297), (15, 300), (16, 307), (17, 312), (18, 336), (19, 339), (20, 340), (21, 313), (22, 341), (23, 186), (24, 342), (25, 343), (26, 333), (27, 335), (28, 344), (29, 329), (30, 332), (31, 350), (32, 351), (33, 364), (34, 330), (35, 331), (36, 349), (37, 366), (38, 367), (39, 192), (40, 365), (42, 164), (43, 90), (44, 361), (45, 362), (46, 363), (47, 163), (48, 181), (49, 201), (50, 202), (51, 211), (52, 183), (54, 369), (57, 182), (58, 195), (59, 210), (60, 197), (71, 196), (72, 204), (73, 206), (80, 205), (82, 214), (83, 218), (89, 219), (91, 221)]
def nu : Nat → Option Nat := lk nuTab

theorem chk3 : chkF Go.Proofs.Tryd.prog nu Go.Proofs.Tryd.f3 sf376 = true := by kernel_rfl
theorem chk4 : chkF Go.Proofs.Tryd.prog nu Go.Proofs.Tryd.f4 sf293 = true := by kernel_rfl
theorem chk5 : chkF Go.Proofs.Tryd.prog nu Go.Proofs.Tryd.f5 sf294 = true := by kernel_rfl
theorem chk6 : chkF Go.Proofs.Tryd.prog nu Go.Proofs.Tryd.f6 sf299 = true := by kernel_rfl
theorem chk7 : chkF Go.Proofs.Tryd.prog nu Go.Proofs.Tryd.f7 sf302 = true := by kernel_rfl
theorem chk8 : chkF Go.Proofs.Tryd.prog nu Go.Proofs.Tryd.f8 sf303 = true := by kernel_rfl
theorem chk9 : chkF Go.Proofs.Tryd.prog nu Go.Proofs.Tryd.f9 sf304 = true := by kernel_rfl
theorem chk10 : chkF Go.Proofs.Tryd.prog nu Go.Proofs.Tryd.f10 sf310 = true := by kernel_rfl
theorem chk11 : chkF Go.Proofs.Tryd.prog nu Go.Proofs.Tryd.f11 sf305 = true := by kernel_rfl
theorem chk12 : chkF Go.Proofs.Tryd.prog nu Go.Proofs.Tryd.f12 sf314 = true := by kernel_rfl
theorem chk13 : chkF Go.Proofs.Tryd.prog nu Go.Proofs.Tryd.f13 sf309 = true := by kernel_rfl
theorem chk14 : chkF Go.Proofs.Tryd.prog nu Go.Proofs.Tryd.f14 sf297 = true := by kernel_rfl
theorem chk15 : chkF Go.Proofs.Tryd.prog nu Go.Proofs.Tryd.f15 sf300 = true := by kernel_rfl
theorem chk16 : chkF Go.Proofs.Tryd.prog nu Go.Proofs.Tryd.f16 sf307 = true := by kernel_rfl
theorem chk17 : chkF Go.Proofs.Tryd.prog nu Go.Proofs.Tryd.f17 sf312 = true := by kernel_rfl
theorem chk18 : chkF Go.Proofs.Tryd.prog nu Go.Proofs.Tryd.f18 sf336 = true := by kernel_rfl
theorem chk19 : chkF Go.Proofs.Tryd.prog nu Go.Proofs.Tryd.f19 sf339 = true := by kernel_rfl
theorem chk20 : chkF Go.Proofs.Tryd.prog nu Go.Proofs.Tryd.f20 sf340 = true := by kernel_rfl
theorem chk21 : chkF Go.Proofs.Tryd.prog nu Go.Proofs.Tryd.f21 sf313 = true := by kernel_rfl
theorem chk22 : chkF Go.Proofs.Tryd.prog nu Go.Proofs.Tryd.f22 sf341 = true := by kernel_rfl
theorem chk23 : chkF Go.Proofs.Tryd.prog nu Go.Proofs.Tryd.f23 sf186 = true := by kernel_rfl
theorem chk24 : chkF Go.Proofs.Tryd.prog nu Go.Proofs.Tryd.f24 sf342 = true := by kernel_rfl
theorem chk25 : chkF Go.Proofs.Tryd.prog nu Go.Proofs.Tryd.f25 sf343 = true := by kernel_rfl
theorem chk26 : chkF Go.Proofs.Tryd.prog nu Go.Proofs.Tryd.f26 sf333 = true := by kernel_rfl
theorem chk27 : chkF Go.Proofs.Tryd.prog nu Go.Proofs.Tryd.f27 sf335 = true := by kernel_rfl
theorem chk28 : chkF Go.Proofs.Tryd.prog nu Go.Proofs.Tryd.f28 sf344 = true := by kernel_rfl
theorem chk29 : chkF Go.Proofs.Tryd.prog nu Go.Proofs.Tryd.f29 sf329 = true := by kernel_rfl
theorem chk30 : chkF Go.Proofs.Tryd.prog nu Go.Proofs.Tryd.f30 sf332 = true := by kernel_rfl
theorem chk31 : chkF Go.Proofs.Tryd.prog nu Go.Proofs.Tryd.f31 sf350 = true := by kernel_rfl
theorem chk32 : chkF Go.Proofs.Tryd.prog nu Go.Proofs.Tryd.f32 sf351 = true := by kernel_rfl
theorem chk33 : chkF Go.Proofs.Tryd.prog nu Go.Proofs.Tryd.f33 sf364 = true := by kernel_rfl
theorem chk34 : chkF Go.Proofs.Tryd.prog nu Go.Proofs.Tryd.f34 sf330 = true := by kernel_rfl
theorem chk35 : chkF Go.Proofs.Tryd.prog nu Go.Proofs.Tryd.f35 sf331 = true := by kernel_rfl
theorem chk36 : chkF Go.Proofs.Tryd.prog nu Go.Proofs.Tryd.f36 sf349 = true := by kernel_rfl
theorem chk37 : chkF Go.Proofs.Tryd.prog nu Go.Proofs.Tryd.f37 sf366 = true := by kernel_rfl
theorem chk38 : chkF Go.Proofs.Tryd.prog nu Go.Proofs.Tryd.f38 sf367 = true := by kernel_rfl
theorem chk39 : chkF Go.Proofs.Tryd.prog nu Go.Proofs.Tryd.f39 sf192 = true := by kernel_rfl
theorem chk40 : chkF Go.Proofs.Tryd.prog nu Go.Proofs.Tryd.f40 sf365 = true := by kernel_rfl
theorem chk42 : chkF Go.Proofs.Tryd.prog nu Go.Proofs.Tryd.f42 sf164 = true := by kernel_rfl
theorem chk43 : chkF Go.Proofs.Tryd.prog nu Go.Proofs.Tryd.f43 sf90 = true := by kernel_rfl
theorem chk44 : chkF Go.Proofs.Tryd.prog nu Go.Proofs.Tryd.f44 sf361 = true := by kernel_rfl
theorem chk45 : chkF Go.Proofs.Tryd.prog nu Go.Proofs.Tryd.f45 sf362 = true := by kernel_rfl
theorem chk46 : chkF Go.Proofs.Tryd.prog nu Go.Proofs.Tryd.f46 sf363 = true := by kernel_rfl
theorem chk47 : chkF Go.Proofs.Tryd.prog nu Go.Proofs.Tryd.f47 sf163 = true := by kernel_rfl
theorem chk48 : chkF Go.Proofs.Tryd.prog nu Go.Proofs.Tryd.f48 sf181 = true := by kernel_rfl
theorem chk49 : chkF Go.Proofs.Tryd.prog nu Go.Proofs.Tryd.f49 sf201 = true := by kernel_rfl
theorem chk50 : chkF Go.Proofs.Tryd.prog nu Go.Proofs.Tryd.f50 sf202 = true := by kernel_rfl
theorem chk51 : chkF Go.Proofs.Tryd.prog nu Go.Proofs.Tryd.f51 sf211 = true := by kernel_rfl
theorem chk52 : chkF Go.Proofs.Tryd.prog nu Go.Proofs.Tryd.f52 sf183 = true := by kernel_rfl
theorem chk54 : chkF Go.Proofs.Tryd.prog nu Go.Proofs.Tryd.f54 sf369 = true := by kernel_rfl
theorem chk57 : chkF Go.Proofs.Tryd.prog nu Go.Proofs.Tryd.f57 sf182 = true := by kernel_rfl
theorem chk58 : chkF Go.Proofs.Tryd.prog nu Go.Proofs.Tryd.f58 sf195 = true := by kernel_rfl
theorem chk59 : chkF Go.Proofs.Tryd.prog nu Go.Proofs.Tryd.f59 sf210 = true := by kernel_rfl
theorem chk60 : chkF Go.Proofs.Tryd.prog nu Go.Proofs.Tryd.f60 sf197 = true := by kernel_rfl
theorem chk71 : chkF Go.Proofs.Tryd.prog nu Go.Proofs.Tryd.f71 sf196 = true := by kernel_rfl
theorem chk72 : chkF Go.Proofs.Tryd.prog nu Go.Proofs.Tryd.f72 sf204 = true := by kernel_rfl
theorem chk73 : chkF Go.Proofs.Tryd.prog nu Go.Proofs.Tryd.f73 sf206 = true := by kernel_rfl
theorem chk80 : chkF Go.Proofs.Tryd.prog nu Go.Proofs.Tryd.f80 sf205 = true := by kernel_rfl
theorem chk82 : chkF Go.Proofs.Tryd.prog nu Go.Proofs.Tryd.f82 sf214 = true := by kernel_rfl
theorem chk83 : chkF Go.Proofs.Tryd.prog nu Go.Proofs.Tryd.f83 sf218 = true := by kernel_rfl
theorem chk89 : chkF Go.Proofs.Tryd.prog nu Go.Proofs.Tryd.f89 sf219 = true := by kernel_rfl
theorem chk91 : chkF Go.Proofs.Tryd.prog nu Go.Proofs.Tryd.f91 sf221 = true := by kernel_rfl

theorem lk_all {α : Type} {p : Nat → α → Prop} : ∀ {l : List (Nat × α)}, (∀ q ∈ l, p q.1 q.2) → ∀ n a, lk l n = some a → p n a
  | [], _, n, a, h => by simp [lk] at h
  | (k, b) :: l, hp, n, a, h => by
    simp only [lk] at h
    split at h
    · rename_i hk; subst hk; simp only [Option.some.injEq] at h; subst h; exact hp (k, b) (by simp)
    · exact lk_all (fun q hq => hp q (by simp [hq])) n a h

noncomputable def linked : Linked code where
  P := Go.Proofs.Tryd.prog
  ν := nu
  mixed := by kernel_rfl
  link := by
    refine lk_all (l := nuTab) ?_
    intro q hq
    simp only [nuTab, List.mem_cons, List.not_mem_nil, or_false] at hq
    rcases hq with rfl | rfl | rfl | rfl | rfl | rfl | rfl | rfl | rfl | rfl | rfl | rfl | rfl | rfl | rfl | rfl | rfl | rfl | rfl | rfl | rfl | rfl | rfl | rfl | rfl | rfl | rfl | rfl | rfl | rfl | rfl | rfl | rfl | rfl | rfl | rfl | rfl | rfl | rfl | rfl | rfl | rfl | rfl | rfl | rfl | rfl | rfl | rfl | rfl | rfl | rfl | rfl | rfl | rfl | rfl | rfl | rfl | rfl | rfl | rfl | rfl | rfl
    · exact ⟨Go.Proofs.Tryd.f3, Go.Proofs.Tryd.func3, chk3⟩
    · exact ⟨Go.Proofs.Tryd.f4, Go.Proofs.Tryd.func4, chk4⟩
    · exact ⟨Go.Proofs.Tryd.f5, Go.Proofs.Tryd.func5, chk5⟩
    · exact ⟨Go.Proofs.Tryd.f6, Go.Proofs.Tryd.func6, chk6⟩
    · exact ⟨Go.Proofs.Tryd.f7, Go.Proofs.Tryd.func7, chk7⟩
    · exact ⟨Go.Proofs.Tryd.f8, Go.Proofs.Tryd.func8, chk8⟩
    · exact ⟨Go.Proofs.Tryd.f9, Go.Proofs.Tryd.func9, chk9⟩
    · exact ⟨Go.Proofs.Tryd.f10, Go.Proofs.Tryd.func10, chk10⟩
    · exact ⟨Go.Proofs.Tryd.f11, Go.Proofs.Tryd.func11, chk11⟩
    · exact ⟨Go.Proofs.Tryd.f12, Go.Proofs.Tryd.func12, chk12⟩
    · exact ⟨Go.Proofs.Tryd.f13, Go.Proofs.Tryd.func13, chk13⟩
    · exact ⟨Go.Proofs.Tryd.f14, Go.Proofs.Tryd.func14, chk14⟩
    · exact ⟨Go.Proofs.Tryd.f15, Go.Proofs.Tryd.func15, chk15⟩
    · exact ⟨Go.Proofs.Tryd.f16, Go.Proofs.Tryd.func16, chk16⟩
    · exact ⟨Go.Proofs.Tryd.f17, Go.Proofs.Tryd.func17, chk17⟩
    · exact ⟨Go.Proofs.Tryd.f18, Go.Proofs.Tryd.func18, chk18⟩
    · exact ⟨Go.Proofs.Tryd.f19, Go.Proofs.Tryd.func19, chk19⟩
    · exact ⟨Go.Proofs.Tryd.f20, Go.Proofs.Tryd.func20, chk20⟩
    · exact ⟨Go.Proofs.Tryd.f21, Go.Proofs.Tryd.func21, chk21⟩
    · exact ⟨Go.Proofs.Tryd.f22, Go.Proofs.Tryd.func22, chk22⟩
    · exact ⟨Go.Proofs.Tryd.f23, Go.Proofs.Tryd.func23, chk23⟩
    · exact ⟨Go.Proofs.Tryd.f24, Go.Proofs.Tryd.func24, chk24⟩
    · exact ⟨Go.Proofs.Tryd.f25, Go.Proofs.Tryd.func25, chk25⟩
    · exact ⟨Go.Proofs.Tryd.f26, Go.Proofs.Tryd.func26, chk26⟩
    · exact ⟨Go.Proofs.Tryd.f27, Go.Proofs.Tryd.func27, chk27⟩
    · exact ⟨Go.Proofs.Tryd.f28, Go.Proofs.Tryd.func28, chk28⟩
    · exact ⟨Go.Proofs.Tryd.f29, Go.Proofs.Tryd.func29, chk29⟩
    · exact ⟨Go.Proofs.Tryd.f30, Go.Proofs.Tryd.func30, chk30⟩
    · exact ⟨Go.Proofs.Tryd.f31, Go.Proofs.Tryd.func31, chk31⟩
    · exact ⟨Go.Proofs.Tryd.f32, Go.Proofs.Tryd.func32, chk32⟩
    · exact ⟨Go.Proofs.Tryd.f33, Go.Proofs.Tryd.func33, chk33⟩
    · exact ⟨Go.Proofs.Tryd.f34, Go.Proofs.Tryd.func34, chk34⟩
    · exact ⟨Go.Proofs.Tryd.f35, Go.Proofs.Tryd.func35, chk35⟩
    · exact ⟨Go.Proofs.Tryd.f36, Go.Proofs.Tryd.func36, chk36⟩
    · exact ⟨Go.Proofs.Tryd.f37, Go.Proofs.Tryd.func37, chk37⟩
    · exact ⟨Go.Proofs.Tryd.f38, Go.Proofs.Tryd.func38, chk38⟩
    · exact ⟨Go.Proofs.Tryd.f39, Go.Proofs.Tryd.func39, chk39⟩
    · exact ⟨Go.Proofs.Tryd.f40, Go.Proofs.Tryd.func40, chk40⟩
    · exact ⟨Go.Proofs.Tryd.f42, Go.Proofs.Tryd.func42, chk42⟩
    · exact ⟨Go.Proofs.Tryd.f43, Go.Proofs.Tryd.func43, chk43⟩
    · exact ⟨Go.Proofs.Tryd.f44, Go.Proofs.Tryd.func44, chk44⟩
    · exact ⟨Go.Proofs.Tryd.f45, Go.Proofs.Tryd.func45, chk45⟩
    · exact ⟨Go.Proofs.Tryd.f46, Go.Proofs.Tryd.func46, chk46⟩
    · exact ⟨Go.Proofs.Tryd.f47, Go.Proofs.Tryd.func47, chk47⟩
    · exact ⟨Go.Proofs.Tryd.f48, Go.Proofs.Tryd.func48, chk48⟩
    · exact ⟨Go.Proofs.Tryd.f49, Go.Proofs.Tryd.func49, chk49⟩
    · exact ⟨Go.Proofs.Tryd.f50, Go.Proofs.Tryd.func50, chk50⟩
    · exact ⟨Go.Proofs.Tryd.f51, Go.Proofs.Tryd.func51, chk51⟩
    · exact ⟨Go.Proofs.Tryd.f52, Go.Proofs.Tryd.func52, chk52⟩
    · exact ⟨Go.Proofs.Tryd.f54, Go.Proofs.Tryd.func54, chk54⟩
    · exact ⟨Go.Proofs.Tryd.f57, Go.Proofs.Tryd.func57, chk57⟩
    · exact ⟨Go.Proofs.Tryd.f58, Go.Proofs.Tryd.func58, chk58⟩
    · exact ⟨Go.Proofs.Tryd.f59, Go.Proofs.Tryd.func59, chk59⟩
    · exact ⟨Go.Proofs.Tryd.f60, Go.Proofs.Tryd.func60, chk60⟩
    · exact ⟨Go.Proofs.Tryd.f71, Go.Proofs.Tryd.func71, chk71⟩
    · exact ⟨Go.Proofs.Tryd.f72, Go.Proofs.Tryd.func72, chk72⟩
    · exact ⟨Go.Proofs.Tryd.f73, Go.Proofs.Tryd.func73, chk73⟩
    · exact ⟨Go.Proofs.Tryd.f80, Go.Proofs.Tryd.func80, chk80⟩
    · exact ⟨Go.Proofs.Tryd.f82, Go.Proofs.Tryd.func82, chk82⟩
    · exact ⟨Go.Proofs.Tryd.f83, Go.Proofs.Tryd.func83, chk83⟩
    · exact ⟨Go.Proofs.Tryd.f89, Go.Proofs.Tryd.func89, chk89⟩
    · exact ⟨Go.Proofs.Tryd.f91, Go.Proofs.Tryd.func91, chk91⟩

end Sm
