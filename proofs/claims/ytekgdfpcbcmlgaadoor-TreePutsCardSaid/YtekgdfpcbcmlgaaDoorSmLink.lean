/-
  A layer of one's own: texts Link.
-/
import Derived.Test.YtekgdfpcbcmlgaaDoorSmLE
import Derived.Test.YtekgdfpcbcmlgaaDoorSmSf
import Derived.Test.YtekgdfpcbcmlgaaDoorProg
import Derived.KernelRfl
set_option linter.unusedVariables false
set_option maxRecDepth 100000
namespace Sm
open Go

def nuTab : List (Nat × Nat) := [(3, 224), (4, 225), (5, 226), (6, 227), (7, 148), (8, 149), (9, 150), (10, 151), (11, 152), (12, 153), (13, 154), (14, 155), (15, 156), (16, 157), (17, 158), (18, 159), (19, 160), (20, 161), (21, 162), (22, 163), (23, 164), (24, 165), (25, 232), (26, 166), (27, 167), (28, 169), (29, 168), (30, 170), (31, 171), (32, 173), (33, 172), (34, 174), (35, 175), (36, 176), (37, 177), (38, 178), (39, 179), (40, 180), (41, 194), (42, 182), (43, 181), (44, 183), (45, 184), (46, 193), (47, 185), (48, 186), (49, 187), (50, 188), (51, 189), (53, 228), (54, 190), (55, 191), (56, 192), (57, 196), (58, 195), (59, 197), (60, 203), (61, 198), (62, 199), (63, 200), (64, 201), (65, 202), (66, 211), (67, 205), (68, 204), (69, 206), (71, 212), (72, 208), (73, 209), (74, 210), (76, 214), (77, 218), (82, 219), (84, 221)]
def nu : Nat → Option Nat := lk nuTab

theorem chk3 : chkF Go.Proofs.Tryd.prog nu Go.Proofs.Tryd.f3 sf224 = true := by kernel_rfl
theorem chk4 : chkF Go.Proofs.Tryd.prog nu Go.Proofs.Tryd.f4 sf225 = true := by kernel_rfl
theorem chk5 : chkF Go.Proofs.Tryd.prog nu Go.Proofs.Tryd.f5 sf226 = true := by kernel_rfl
theorem chk6 : chkF Go.Proofs.Tryd.prog nu Go.Proofs.Tryd.f6 sf227 = true := by kernel_rfl
theorem chk7 : chkF Go.Proofs.Tryd.prog nu Go.Proofs.Tryd.f7 sf148 = true := by kernel_rfl
theorem chk8 : chkF Go.Proofs.Tryd.prog nu Go.Proofs.Tryd.f8 sf149 = true := by kernel_rfl
theorem chk9 : chkF Go.Proofs.Tryd.prog nu Go.Proofs.Tryd.f9 sf150 = true := by kernel_rfl
theorem chk10 : chkF Go.Proofs.Tryd.prog nu Go.Proofs.Tryd.f10 sf151 = true := by kernel_rfl
theorem chk11 : chkF Go.Proofs.Tryd.prog nu Go.Proofs.Tryd.f11 sf152 = true := by kernel_rfl
theorem chk12 : chkF Go.Proofs.Tryd.prog nu Go.Proofs.Tryd.f12 sf153 = true := by kernel_rfl
theorem chk13 : chkF Go.Proofs.Tryd.prog nu Go.Proofs.Tryd.f13 sf154 = true := by kernel_rfl
theorem chk14 : chkF Go.Proofs.Tryd.prog nu Go.Proofs.Tryd.f14 sf155 = true := by kernel_rfl
theorem chk15 : chkF Go.Proofs.Tryd.prog nu Go.Proofs.Tryd.f15 sf156 = true := by kernel_rfl
theorem chk16 : chkF Go.Proofs.Tryd.prog nu Go.Proofs.Tryd.f16 sf157 = true := by kernel_rfl
theorem chk17 : chkF Go.Proofs.Tryd.prog nu Go.Proofs.Tryd.f17 sf158 = true := by kernel_rfl
theorem chk18 : chkF Go.Proofs.Tryd.prog nu Go.Proofs.Tryd.f18 sf159 = true := by kernel_rfl
theorem chk19 : chkF Go.Proofs.Tryd.prog nu Go.Proofs.Tryd.f19 sf160 = true := by kernel_rfl
theorem chk20 : chkF Go.Proofs.Tryd.prog nu Go.Proofs.Tryd.f20 sf161 = true := by kernel_rfl
theorem chk21 : chkF Go.Proofs.Tryd.prog nu Go.Proofs.Tryd.f21 sf162 = true := by kernel_rfl
theorem chk22 : chkF Go.Proofs.Tryd.prog nu Go.Proofs.Tryd.f22 sf163 = true := by kernel_rfl
theorem chk23 : chkF Go.Proofs.Tryd.prog nu Go.Proofs.Tryd.f23 sf164 = true := by kernel_rfl
theorem chk24 : chkF Go.Proofs.Tryd.prog nu Go.Proofs.Tryd.f24 sf165 = true := by kernel_rfl
theorem chk25 : chkF Go.Proofs.Tryd.prog nu Go.Proofs.Tryd.f25 sf232 = true := by kernel_rfl
theorem chk26 : chkF Go.Proofs.Tryd.prog nu Go.Proofs.Tryd.f26 sf166 = true := by kernel_rfl
theorem chk27 : chkF Go.Proofs.Tryd.prog nu Go.Proofs.Tryd.f27 sf167 = true := by kernel_rfl
theorem chk28 : chkF Go.Proofs.Tryd.prog nu Go.Proofs.Tryd.f28 sf169 = true := by kernel_rfl
theorem chk29 : chkF Go.Proofs.Tryd.prog nu Go.Proofs.Tryd.f29 sf168 = true := by kernel_rfl
theorem chk30 : chkF Go.Proofs.Tryd.prog nu Go.Proofs.Tryd.f30 sf170 = true := by kernel_rfl
theorem chk31 : chkF Go.Proofs.Tryd.prog nu Go.Proofs.Tryd.f31 sf171 = true := by kernel_rfl
theorem chk32 : chkF Go.Proofs.Tryd.prog nu Go.Proofs.Tryd.f32 sf173 = true := by kernel_rfl
theorem chk33 : chkF Go.Proofs.Tryd.prog nu Go.Proofs.Tryd.f33 sf172 = true := by kernel_rfl
theorem chk34 : chkF Go.Proofs.Tryd.prog nu Go.Proofs.Tryd.f34 sf174 = true := by kernel_rfl
theorem chk35 : chkF Go.Proofs.Tryd.prog nu Go.Proofs.Tryd.f35 sf175 = true := by kernel_rfl
theorem chk36 : chkF Go.Proofs.Tryd.prog nu Go.Proofs.Tryd.f36 sf176 = true := by kernel_rfl
theorem chk37 : chkF Go.Proofs.Tryd.prog nu Go.Proofs.Tryd.f37 sf177 = true := by kernel_rfl
theorem chk38 : chkF Go.Proofs.Tryd.prog nu Go.Proofs.Tryd.f38 sf178 = true := by kernel_rfl
theorem chk39 : chkF Go.Proofs.Tryd.prog nu Go.Proofs.Tryd.f39 sf179 = true := by kernel_rfl
theorem chk40 : chkF Go.Proofs.Tryd.prog nu Go.Proofs.Tryd.f40 sf180 = true := by kernel_rfl
theorem chk41 : chkF Go.Proofs.Tryd.prog nu Go.Proofs.Tryd.f41 sf194 = true := by kernel_rfl
theorem chk42 : chkF Go.Proofs.Tryd.prog nu Go.Proofs.Tryd.f42 sf182 = true := by kernel_rfl
theorem chk43 : chkF Go.Proofs.Tryd.prog nu Go.Proofs.Tryd.f43 sf181 = true := by kernel_rfl
theorem chk44 : chkF Go.Proofs.Tryd.prog nu Go.Proofs.Tryd.f44 sf183 = true := by kernel_rfl
theorem chk45 : chkF Go.Proofs.Tryd.prog nu Go.Proofs.Tryd.f45 sf184 = true := by kernel_rfl
theorem chk46 : chkF Go.Proofs.Tryd.prog nu Go.Proofs.Tryd.f46 sf193 = true := by kernel_rfl
theorem chk47 : chkF Go.Proofs.Tryd.prog nu Go.Proofs.Tryd.f47 sf185 = true := by kernel_rfl
theorem chk48 : chkF Go.Proofs.Tryd.prog nu Go.Proofs.Tryd.f48 sf186 = true := by kernel_rfl
theorem chk49 : chkF Go.Proofs.Tryd.prog nu Go.Proofs.Tryd.f49 sf187 = true := by kernel_rfl
theorem chk50 : chkF Go.Proofs.Tryd.prog nu Go.Proofs.Tryd.f50 sf188 = true := by kernel_rfl
theorem chk51 : chkF Go.Proofs.Tryd.prog nu Go.Proofs.Tryd.f51 sf189 = true := by kernel_rfl
theorem chk53 : chkF Go.Proofs.Tryd.prog nu Go.Proofs.Tryd.f53 sf228 = true := by kernel_rfl
theorem chk54 : chkF Go.Proofs.Tryd.prog nu Go.Proofs.Tryd.f54 sf190 = true := by kernel_rfl
theorem chk55 : chkF Go.Proofs.Tryd.prog nu Go.Proofs.Tryd.f55 sf191 = true := by kernel_rfl
theorem chk56 : chkF Go.Proofs.Tryd.prog nu Go.Proofs.Tryd.f56 sf192 = true := by kernel_rfl
theorem chk57 : chkF Go.Proofs.Tryd.prog nu Go.Proofs.Tryd.f57 sf196 = true := by kernel_rfl
theorem chk58 : chkF Go.Proofs.Tryd.prog nu Go.Proofs.Tryd.f58 sf195 = true := by kernel_rfl
theorem chk59 : chkF Go.Proofs.Tryd.prog nu Go.Proofs.Tryd.f59 sf197 = true := by kernel_rfl
theorem chk60 : chkF Go.Proofs.Tryd.prog nu Go.Proofs.Tryd.f60 sf203 = true := by kernel_rfl
theorem chk61 : chkF Go.Proofs.Tryd.prog nu Go.Proofs.Tryd.f61 sf198 = true := by kernel_rfl
theorem chk62 : chkF Go.Proofs.Tryd.prog nu Go.Proofs.Tryd.f62 sf199 = true := by kernel_rfl
theorem chk63 : chkF Go.Proofs.Tryd.prog nu Go.Proofs.Tryd.f63 sf200 = true := by kernel_rfl
theorem chk64 : chkF Go.Proofs.Tryd.prog nu Go.Proofs.Tryd.f64 sf201 = true := by kernel_rfl
theorem chk65 : chkF Go.Proofs.Tryd.prog nu Go.Proofs.Tryd.f65 sf202 = true := by kernel_rfl
theorem chk66 : chkF Go.Proofs.Tryd.prog nu Go.Proofs.Tryd.f66 sf211 = true := by kernel_rfl
theorem chk67 : chkF Go.Proofs.Tryd.prog nu Go.Proofs.Tryd.f67 sf205 = true := by kernel_rfl
theorem chk68 : chkF Go.Proofs.Tryd.prog nu Go.Proofs.Tryd.f68 sf204 = true := by kernel_rfl
theorem chk69 : chkF Go.Proofs.Tryd.prog nu Go.Proofs.Tryd.f69 sf206 = true := by kernel_rfl
theorem chk71 : chkF Go.Proofs.Tryd.prog nu Go.Proofs.Tryd.f71 sf212 = true := by kernel_rfl
theorem chk72 : chkF Go.Proofs.Tryd.prog nu Go.Proofs.Tryd.f72 sf208 = true := by kernel_rfl
theorem chk73 : chkF Go.Proofs.Tryd.prog nu Go.Proofs.Tryd.f73 sf209 = true := by kernel_rfl
theorem chk74 : chkF Go.Proofs.Tryd.prog nu Go.Proofs.Tryd.f74 sf210 = true := by kernel_rfl
theorem chk76 : chkF Go.Proofs.Tryd.prog nu Go.Proofs.Tryd.f76 sf214 = true := by kernel_rfl
theorem chk77 : chkF Go.Proofs.Tryd.prog nu Go.Proofs.Tryd.f77 sf218 = true := by kernel_rfl
theorem chk82 : chkF Go.Proofs.Tryd.prog nu Go.Proofs.Tryd.f82 sf219 = true := by kernel_rfl
theorem chk84 : chkF Go.Proofs.Tryd.prog nu Go.Proofs.Tryd.f84 sf221 = true := by kernel_rfl

theorem lk_all {α : Type} {p : Nat → α → Prop} : ∀ {l : List (Nat × α)}, (∀ q ∈ l, p q.1 q.2) → ∀ n a, lk l n = some a → p n a
  | [], _, n, a, h => by simp [lk] at h
  | (k, b) :: l, hp, n, a, h => by
    simp only [lk] at h
    split at h
    · rename_i hk; subst hk; simp only [Option.some.injEq] at h; subst h; exact hp (k, b) (by simp)
    · exact lk_all (fun q hq => hp q (by simp [hq])) n a h

noncomputable def linked : Linked code where
  P := Go.Proofs.Tryd.prog
  ν := nu
  mixed := by kernel_rfl
  link := by
    refine lk_all (l := nuTab) ?_
    intro q hq
    simp only [nuTab, List.mem_cons, List.not_mem_nil, or_false] at hq
    rcases hq with rfl | rfl | rfl | rfl | rfl | rfl | rfl | rfl | rfl | rfl | rfl | rfl | rfl | rfl | rfl | rfl | rfl | rfl | rfl | rfl | rfl | rfl | rfl | rfl | rfl | rfl | rfl | rfl | rfl | rfl | rfl | rfl | rfl | rfl | rfl | rfl | rfl | rfl | rfl | rfl | rfl | rfl | rfl | rfl | rfl | rfl | rfl | rfl | rfl | rfl | rfl | rfl | rfl | rfl | rfl | rfl | rfl | rfl | rfl | rfl | rfl | rfl | rfl | rfl | rfl | rfl | rfl | rfl | rfl | rfl | rfl | rfl | rfl | rfl
    · exact ⟨Go.Proofs.Tryd.f3, Go.Proofs.Tryd.func3, chk3⟩
    · exact ⟨Go.Proofs.Tryd.f4, Go.Proofs.Tryd.func4, chk4⟩
    · exact ⟨Go.Proofs.Tryd.f5, Go.Proofs.Tryd.func5, chk5⟩
    · exact ⟨Go.Proofs.Tryd.f6, Go.Proofs.Tryd.func6, chk6⟩
    · exact ⟨Go.Proofs.Tryd.f7, Go.Proofs.Tryd.func7, chk7⟩
    · exact ⟨Go.Proofs.Tryd.f8, Go.Proofs.Tryd.func8, chk8⟩
    · exact ⟨Go.Proofs.Tryd.f9, Go.Proofs.Tryd.func9, chk9⟩
    · exact ⟨Go.Proofs.Tryd.f10, Go.Proofs.Tryd.func10, chk10⟩
    · exact ⟨Go.Proofs.Tryd.f11, Go.Proofs.Tryd.func11, chk11⟩
    · exact ⟨Go.Proofs.Tryd.f12, Go.Proofs.Tryd.func12, chk12⟩
    · exact ⟨Go.Proofs.Tryd.f13, Go.Proofs.Tryd.func13, chk13⟩
    · exact ⟨Go.Proofs.Tryd.f14, Go.Proofs.Tryd.func14, chk14⟩
    · exact ⟨Go.Proofs.Tryd.f15, Go.Proofs.Tryd.func15, chk15⟩
    · exact ⟨Go.Proofs.Tryd.f16, Go.Proofs.Tryd.func16, chk16⟩
    · exact ⟨Go.Proofs.Tryd.f17, Go.Proofs.Tryd.func17, chk17⟩
    · exact ⟨Go.Proofs.Tryd.f18, Go.Proofs.Tryd.func18, chk18⟩
    · exact ⟨Go.Proofs.Tryd.f19, Go.Proofs.Tryd.func19, chk19⟩
    · exact ⟨Go.Proofs.Tryd.f20, Go.Proofs.Tryd.func20, chk20⟩
    · exact ⟨Go.Proofs.Tryd.f21, Go.Proofs.Tryd.func21, chk21⟩
    · exact ⟨Go.Proofs.Tryd.f22, Go.Proofs.Tryd.func22, chk22⟩
    · exact ⟨Go.Proofs.Tryd.f23, Go.Proofs.Tryd.func23, chk23⟩
    · exact ⟨Go.Proofs.Tryd.f24, Go.Proofs.Tryd.func24, chk24⟩
    · exact ⟨Go.Proofs.Tryd.f25, Go.Proofs.Tryd.func25, chk25⟩
    · exact ⟨Go.Proofs.Tryd.f26, Go.Proofs.Tryd.func26, chk26⟩
    · exact ⟨Go.Proofs.Tryd.f27, Go.Proofs.Tryd.func27, chk27⟩
    · exact ⟨Go.Proofs.Tryd.f28, Go.Proofs.Tryd.func28, chk28⟩
    · exact ⟨Go.Proofs.Tryd.f29, Go.Proofs.Tryd.func29, chk29⟩
    · exact ⟨Go.Proofs.Tryd.f30, Go.Proofs.Tryd.func30, chk30⟩
    · exact ⟨Go.Proofs.Tryd.f31, Go.Proofs.Tryd.func31, chk31⟩
    · exact ⟨Go.Proofs.Tryd.f32, Go.Proofs.Tryd.func32, chk32⟩
    · exact ⟨Go.Proofs.Tryd.f33, Go.Proofs.Tryd.func33, chk33⟩
    · exact ⟨Go.Proofs.Tryd.f34, Go.Proofs.Tryd.func34, chk34⟩
    · exact ⟨Go.Proofs.Tryd.f35, Go.Proofs.Tryd.func35, chk35⟩
    · exact ⟨Go.Proofs.Tryd.f36, Go.Proofs.Tryd.func36, chk36⟩
    · exact ⟨Go.Proofs.Tryd.f37, Go.Proofs.Tryd.func37, chk37⟩
    · exact ⟨Go.Proofs.Tryd.f38, Go.Proofs.Tryd.func38, chk38⟩
    · exact ⟨Go.Proofs.Tryd.f39, Go.Proofs.Tryd.func39, chk39⟩
    · exact ⟨Go.Proofs.Tryd.f40, Go.Proofs.Tryd.func40, chk40⟩
    · exact ⟨Go.Proofs.Tryd.f41, Go.Proofs.Tryd.func41, chk41⟩
    · exact ⟨Go.Proofs.Tryd.f42, Go.Proofs.Tryd.func42, chk42⟩
    · exact ⟨Go.Proofs.Tryd.f43, Go.Proofs.Tryd.func43, chk43⟩
    · exact ⟨Go.Proofs.Tryd.f44, Go.Proofs.Tryd.func44, chk44⟩
    · exact ⟨Go.Proofs.Tryd.f45, Go.Proofs.Tryd.func45, chk45⟩
    · exact ⟨Go.Proofs.Tryd.f46, Go.Proofs.Tryd.func46, chk46⟩
    · exact ⟨Go.Proofs.Tryd.f47, Go.Proofs.Tryd.func47, chk47⟩
    · exact ⟨Go.Proofs.Tryd.f48, Go.Proofs.Tryd.func48, chk48⟩
    · exact ⟨Go.Proofs.Tryd.f49, Go.Proofs.Tryd.func49, chk49⟩
    · exact ⟨Go.Proofs.Tryd.f50, Go.Proofs.Tryd.func50, chk50⟩
    · exact ⟨Go.Proofs.Tryd.f51, Go.Proofs.Tryd.func51, chk51⟩
    · exact ⟨Go.Proofs.Tryd.f53, Go.Proofs.Tryd.func53, chk53⟩
    · exact ⟨Go.Proofs.Tryd.f54, Go.Proofs.Tryd.func54, chk54⟩
    · exact ⟨Go.Proofs.Tryd.f55, Go.Proofs.Tryd.func55, chk55⟩
    · exact ⟨Go.Proofs.Tryd.f56, Go.Proofs.Tryd.func56, chk56⟩
    · exact ⟨Go.Proofs.Tryd.f57, Go.Proofs.Tryd.func57, chk57⟩
    · exact ⟨Go.Proofs.Tryd.f58, Go.Proofs.Tryd.func58, chk58⟩
    · exact ⟨Go.Proofs.Tryd.f59, Go.Proofs.Tryd.func59, chk59⟩
    · exact ⟨Go.Proofs.Tryd.f60, Go.Proofs.Tryd.func60, chk60⟩
    · exact ⟨Go.Proofs.Tryd.f61, Go.Proofs.Tryd.func61, chk61⟩
    · exact ⟨Go.Proofs.Tryd.f62, Go.Proofs.Tryd.func62, chk62⟩
    · exact ⟨Go.Proofs.Tryd.f63, Go.Proofs.Tryd.func63, chk63⟩
    · exact ⟨Go.Proofs.Tryd.f64, Go.Proofs.Tryd.func64, chk64⟩
    · exact ⟨Go.Proofs.Tryd.f65, Go.Proofs.Tryd.func65, chk65⟩
    · exact ⟨Go.Proofs.Tryd.f66, Go.Proofs.Tryd.func66, chk66⟩
    · exact ⟨Go.Proofs.Tryd.f67, Go.Proofs.Tryd.func67, chk67⟩
    · exact ⟨Go.Proofs.Tryd.f68, Go.Proofs.Tryd.func68, chk68⟩
    · exact ⟨Go.Proofs.Tryd.f69, Go.Proofs.Tryd.func69, chk69⟩
    · exact ⟨Go.Proofs.Tryd.f71, Go.Proofs.Tryd.func71, chk71⟩
    · exact ⟨Go.Proofs.Tryd.f72, Go.Proofs.Tryd.func72, chk72⟩
    · exact ⟨Go.Proofs.Tryd.f73, Go.Proofs.Tryd.func73, chk73⟩
    · exact ⟨Go.Proofs.Tryd.f74, Go.Proofs.Tryd.func74, chk74⟩
    · exact ⟨Go.Proofs.Tryd.f76, Go.Proofs.Tryd.func76, chk76⟩
    · exact ⟨Go.Proofs.Tryd.f77, Go.Proofs.Tryd.func77, chk77⟩
    · exact ⟨Go.Proofs.Tryd.f82, Go.Proofs.Tryd.func82, chk82⟩
    · exact ⟨Go.Proofs.Tryd.f84, Go.Proofs.Tryd.func84, chk84⟩

end Sm
