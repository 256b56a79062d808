/-
  A layer of one's own: texts Link.
-/
import Derived.Test.YtpfccegjkhaidaaGreatDoorSmLE
import Derived.Test.YtpfccegjkhaidaaGreatDoorSmSf
import Derived.Test.YtpfccegjkhaidaaGreatDoorProg
import Derived.KernelRfl
set_option linter.unusedVariables false
set_option maxRecDepth 100000
namespace Sm
open Go

def nuTab : List (Nat × Nat) := [(3, 288), (4, 289), (5, 290), (6, 291), (7, 233), (8, 234), (9, 235), (10, 236), (11, 237), (12, 238), (13, 160), (14, 239), (15, 148), (16, 240), (17, 161), (18, 241), (19, 162), (20, 150), (21, 154), (22, 242), (23, 243), (24, 244), (25, 245), (26, 246), (27, 247), (28, 248), (29, 249), (30, 250), (31, 163), (32, 171), (33, 175), (34, 251), (35, 252), (36, 253), (37, 254), (38, 255), (39, 256), (40, 257), (41, 258), (42, 266), (43, 188), (44, 208), (45, 259), (46, 260), (47, 267), (48, 261), (49, 151), (50, 262), (51, 156), (52, 158), (53, 178), (54, 179), (55, 180), (56, 194), (57, 166), (58, 167), (59, 263), (60, 192), (61, 264), (62, 265), (63, 164), (66, 182), (67, 181), (68, 190), (69, 270), (70, 176), (71, 170), (72, 199), (73, 173), (74, 172), (75, 174), (76, 152), (77, 177), (78, 193), (79, 185), (80, 186), (81, 271), (82, 201), (83, 202), (84, 211), (85, 183), (96, 196), (97, 195), (98, 200), (99, 191), (100, 187), (101, 209), (102, 189), (104, 228), (105, 169), (106, 168), (107, 203), (108, 210), (109, 197), (115, 205), (116, 204), (117, 198), (118, 212), (119, 206), (123, 214), (124, 218), (129, 219), (131, 221)]
def nu : Nat → Option Nat := lk nuTab

theorem chk3 : chkF Go.Proofs.Tryz.prog nu Go.Proofs.Tryz.f3 sf288 = true := by kernel_rfl
theorem chk4 : chkF Go.Proofs.Tryz.prog nu Go.Proofs.Tryz.f4 sf289 = true := by kernel_rfl
theorem chk5 : chkF Go.Proofs.Tryz.prog nu Go.Proofs.Tryz.f5 sf290 = true := by kernel_rfl
theorem chk6 : chkF Go.Proofs.Tryz.prog nu Go.Proofs.Tryz.f6 sf291 = true := by kernel_rfl
theorem chk7 : chkF Go.Proofs.Tryz.prog nu Go.Proofs.Tryz.f7 sf233 = true := by kernel_rfl
theorem chk8 : chkF Go.Proofs.Tryz.prog nu Go.Proofs.Tryz.f8 sf234 = true := by kernel_rfl
theorem chk9 : chkF Go.Proofs.Tryz.prog nu Go.Proofs.Tryz.f9 sf235 = true := by kernel_rfl
theorem chk10 : chkF Go.Proofs.Tryz.prog nu Go.Proofs.Tryz.f10 sf236 = true := by kernel_rfl
theorem chk11 : chkF Go.Proofs.Tryz.prog nu Go.Proofs.Tryz.f11 sf237 = true := by kernel_rfl
theorem chk12 : chkF Go.Proofs.Tryz.prog nu Go.Proofs.Tryz.f12 sf238 = true := by kernel_rfl
theorem chk13 : chkF Go.Proofs.Tryz.prog nu Go.Proofs.Tryz.f13 sf160 = true := by kernel_rfl
theorem chk14 : chkF Go.Proofs.Tryz.prog nu Go.Proofs.Tryz.f14 sf239 = true := by kernel_rfl
theorem chk15 : chkF Go.Proofs.Tryz.prog nu Go.Proofs.Tryz.f15 sf148 = true := by kernel_rfl
theorem chk16 : chkF Go.Proofs.Tryz.prog nu Go.Proofs.Tryz.f16 sf240 = true := by kernel_rfl
theorem chk17 : chkF Go.Proofs.Tryz.prog nu Go.Proofs.Tryz.f17 sf161 = true := by kernel_rfl
theorem chk18 : chkF Go.Proofs.Tryz.prog nu Go.Proofs.Tryz.f18 sf241 = true := by kernel_rfl
theorem chk19 : chkF Go.Proofs.Tryz.prog nu Go.Proofs.Tryz.f19 sf162 = true := by kernel_rfl
theorem chk20 : chkF Go.Proofs.Tryz.prog nu Go.Proofs.Tryz.f20 sf150 = true := by kernel_rfl
theorem chk21 : chkF Go.Proofs.Tryz.prog nu Go.Proofs.Tryz.f21 sf154 = true := by kernel_rfl
theorem chk22 : chkF Go.Proofs.Tryz.prog nu Go.Proofs.Tryz.f22 sf242 = true := by kernel_rfl
theorem chk23 : chkF Go.Proofs.Tryz.prog nu Go.Proofs.Tryz.f23 sf243 = true := by kernel_rfl
theorem chk24 : chkF Go.Proofs.Tryz.prog nu Go.Proofs.Tryz.f24 sf244 = true := by kernel_rfl
theorem chk25 : chkF Go.Proofs.Tryz.prog nu Go.Proofs.Tryz.f25 sf245 = true := by kernel_rfl
theorem chk26 : chkF Go.Proofs.Tryz.prog nu Go.Proofs.Tryz.f26 sf246 = true := by kernel_rfl
theorem chk27 : chkF Go.Proofs.Tryz.prog nu Go.Proofs.Tryz.f27 sf247 = true := by kernel_rfl
theorem chk28 : chkF Go.Proofs.Tryz.prog nu Go.Proofs.Tryz.f28 sf248 = true := by kernel_rfl
theorem chk29 : chkF Go.Proofs.Tryz.prog nu Go.Proofs.Tryz.f29 sf249 = true := by kernel_rfl
theorem chk30 : chkF Go.Proofs.Tryz.prog nu Go.Proofs.Tryz.f30 sf250 = true := by kernel_rfl
theorem chk31 : chkF Go.Proofs.Tryz.prog nu Go.Proofs.Tryz.f31 sf163 = true := by kernel_rfl
theorem chk32 : chkF Go.Proofs.Tryz.prog nu Go.Proofs.Tryz.f32 sf171 = true := by kernel_rfl
theorem chk33 : chkF Go.Proofs.Tryz.prog nu Go.Proofs.Tryz.f33 sf175 = true := by kernel_rfl
theorem chk34 : chkF Go.Proofs.Tryz.prog nu Go.Proofs.Tryz.f34 sf251 = true := by kernel_rfl
theorem chk35 : chkF Go.Proofs.Tryz.prog nu Go.Proofs.Tryz.f35 sf252 = true := by kernel_rfl
theorem chk36 : chkF Go.Proofs.Tryz.prog nu Go.Proofs.Tryz.f36 sf253 = true := by kernel_rfl
theorem chk37 : chkF Go.Proofs.Tryz.prog nu Go.Proofs.Tryz.f37 sf254 = true := by kernel_rfl
theorem chk38 : chkF Go.Proofs.Tryz.prog nu Go.Proofs.Tryz.f38 sf255 = true := by kernel_rfl
theorem chk39 : chkF Go.Proofs.Tryz.prog nu Go.Proofs.Tryz.f39 sf256 = true := by kernel_rfl
theorem chk40 : chkF Go.Proofs.Tryz.prog nu Go.Proofs.Tryz.f40 sf257 = true := by kernel_rfl
theorem chk41 : chkF Go.Proofs.Tryz.prog nu Go.Proofs.Tryz.f41 sf258 = true := by kernel_rfl
theorem chk42 : chkF Go.Proofs.Tryz.prog nu Go.Proofs.Tryz.f42 sf266 = true := by kernel_rfl
theorem chk43 : chkF Go.Proofs.Tryz.prog nu Go.Proofs.Tryz.f43 sf188 = true := by kernel_rfl
theorem chk44 : chkF Go.Proofs.Tryz.prog nu Go.Proofs.Tryz.f44 sf208 = true := by kernel_rfl
theorem chk45 : chkF Go.Proofs.Tryz.prog nu Go.Proofs.Tryz.f45 sf259 = true := by kernel_rfl
theorem chk46 : chkF Go.Proofs.Tryz.prog nu Go.Proofs.Tryz.f46 sf260 = true := by kernel_rfl
theorem chk47 : chkF Go.Proofs.Tryz.prog nu Go.Proofs.Tryz.f47 sf267 = true := by kernel_rfl
theorem chk48 : chkF Go.Proofs.Tryz.prog nu Go.Proofs.Tryz.f48 sf261 = true := by kernel_rfl
theorem chk49 : chkF Go.Proofs.Tryz.prog nu Go.Proofs.Tryz.f49 sf151 = true := by kernel_rfl
theorem chk50 : chkF Go.Proofs.Tryz.prog nu Go.Proofs.Tryz.f50 sf262 = true := by kernel_rfl
theorem chk51 : chkF Go.Proofs.Tryz.prog nu Go.Proofs.Tryz.f51 sf156 = true := by kernel_rfl
theorem chk52 : chkF Go.Proofs.Tryz.prog nu Go.Proofs.Tryz.f52 sf158 = true := by kernel_rfl
theorem chk53 : chkF Go.Proofs.Tryz.prog nu Go.Proofs.Tryz.f53 sf178 = true := by kernel_rfl
theorem chk54 : chkF Go.Proofs.Tryz.prog nu Go.Proofs.Tryz.f54 sf179 = true := by kernel_rfl
theorem chk55 : chkF Go.Proofs.Tryz.prog nu Go.Proofs.Tryz.f55 sf180 = true := by kernel_rfl
theorem chk56 : chkF Go.Proofs.Tryz.prog nu Go.Proofs.Tryz.f56 sf194 = true := by kernel_rfl
theorem chk57 : chkF Go.Proofs.Tryz.prog nu Go.Proofs.Tryz.f57 sf166 = true := by kernel_rfl
theorem chk58 : chkF Go.Proofs.Tryz.prog nu Go.Proofs.Tryz.f58 sf167 = true := by kernel_rfl
theorem chk59 : chkF Go.Proofs.Tryz.prog nu Go.Proofs.Tryz.f59 sf263 = true := by kernel_rfl
theorem chk60 : chkF Go.Proofs.Tryz.prog nu Go.Proofs.Tryz.f60 sf192 = true := by kernel_rfl
theorem chk61 : chkF Go.Proofs.Tryz.prog nu Go.Proofs.Tryz.f61 sf264 = true := by kernel_rfl
theorem chk62 : chkF Go.Proofs.Tryz.prog nu Go.Proofs.Tryz.f62 sf265 = true := by kernel_rfl
theorem chk63 : chkF Go.Proofs.Tryz.prog nu Go.Proofs.Tryz.f63 sf164 = true := by kernel_rfl
theorem chk66 : chkF Go.Proofs.Tryz.prog nu Go.Proofs.Tryz.f66 sf182 = true := by kernel_rfl
theorem chk67 : chkF Go.Proofs.Tryz.prog nu Go.Proofs.Tryz.f67 sf181 = true := by kernel_rfl
theorem chk68 : chkF Go.Proofs.Tryz.prog nu Go.Proofs.Tryz.f68 sf190 = true := by kernel_rfl
theorem chk69 : chkF Go.Proofs.Tryz.prog nu Go.Proofs.Tryz.f69 sf270 = true := by kernel_rfl
theorem chk70 : chkF Go.Proofs.Tryz.prog nu Go.Proofs.Tryz.f70 sf176 = true := by kernel_rfl
theorem chk71 : chkF Go.Proofs.Tryz.prog nu Go.Proofs.Tryz.f71 sf170 = true := by kernel_rfl
theorem chk72 : chkF Go.Proofs.Tryz.prog nu Go.Proofs.Tryz.f72 sf199 = true := by kernel_rfl
theorem chk73 : chkF Go.Proofs.Tryz.prog nu Go.Proofs.Tryz.f73 sf173 = true := by kernel_rfl
theorem chk74 : chkF Go.Proofs.Tryz.prog nu Go.Proofs.Tryz.f74 sf172 = true := by kernel_rfl
theorem chk75 : chkF Go.Proofs.Tryz.prog nu Go.Proofs.Tryz.f75 sf174 = true := by kernel_rfl
theorem chk76 : chkF Go.Proofs.Tryz.prog nu Go.Proofs.Tryz.f76 sf152 = true := by kernel_rfl
theorem chk77 : chkF Go.Proofs.Tryz.prog nu Go.Proofs.Tryz.f77 sf177 = true := by kernel_rfl
theorem chk78 : chkF Go.Proofs.Tryz.prog nu Go.Proofs.Tryz.f78 sf193 = true := by kernel_rfl
theorem chk79 : chkF Go.Proofs.Tryz.prog nu Go.Proofs.Tryz.f79 sf185 = true := by kernel_rfl
theorem chk80 : chkF Go.Proofs.Tryz.prog nu Go.Proofs.Tryz.f80 sf186 = true := by kernel_rfl
theorem chk81 : chkF Go.Proofs.Tryz.prog nu Go.Proofs.Tryz.f81 sf271 = true := by kernel_rfl
theorem chk82 : chkF Go.Proofs.Tryz.prog nu Go.Proofs.Tryz.f82 sf201 = true := by kernel_rfl
theorem chk83 : chkF Go.Proofs.Tryz.prog nu Go.Proofs.Tryz.f83 sf202 = true := by kernel_rfl
theorem chk84 : chkF Go.Proofs.Tryz.prog nu Go.Proofs.Tryz.f84 sf211 = true := by kernel_rfl
theorem chk85 : chkF Go.Proofs.Tryz.prog nu Go.Proofs.Tryz.f85 sf183 = true := by kernel_rfl
theorem chk96 : chkF Go.Proofs.Tryz.prog nu Go.Proofs.Tryz.f96 sf196 = true := by kernel_rfl
theorem chk97 : chkF Go.Proofs.Tryz.prog nu Go.Proofs.Tryz.f97 sf195 = true := by kernel_rfl
theorem chk98 : chkF Go.Proofs.Tryz.prog nu Go.Proofs.Tryz.f98 sf200 = true := by kernel_rfl
theorem chk99 : chkF Go.Proofs.Tryz.prog nu Go.Proofs.Tryz.f99 sf191 = true := by kernel_rfl
theorem chk100 : chkF Go.Proofs.Tryz.prog nu Go.Proofs.Tryz.f100 sf187 = true := by kernel_rfl
theorem chk101 : chkF Go.Proofs.Tryz.prog nu Go.Proofs.Tryz.f101 sf209 = true := by kernel_rfl
theorem chk102 : chkF Go.Proofs.Tryz.prog nu Go.Proofs.Tryz.f102 sf189 = true := by kernel_rfl
theorem chk104 : chkF Go.Proofs.Tryz.prog nu Go.Proofs.Tryz.f104 sf228 = true := by kernel_rfl
theorem chk105 : chkF Go.Proofs.Tryz.prog nu Go.Proofs.Tryz.f105 sf169 = true := by kernel_rfl
theorem chk106 : chkF Go.Proofs.Tryz.prog nu Go.Proofs.Tryz.f106 sf168 = true := by kernel_rfl
theorem chk107 : chkF Go.Proofs.Tryz.prog nu Go.Proofs.Tryz.f107 sf203 = true := by kernel_rfl
theorem chk108 : chkF Go.Proofs.Tryz.prog nu Go.Proofs.Tryz.f108 sf210 = true := by kernel_rfl
theorem chk109 : chkF Go.Proofs.Tryz.prog nu Go.Proofs.Tryz.f109 sf197 = true := by kernel_rfl
theorem chk115 : chkF Go.Proofs.Tryz.prog nu Go.Proofs.Tryz.f115 sf205 = true := by kernel_rfl
theorem chk116 : chkF Go.Proofs.Tryz.prog nu Go.Proofs.Tryz.f116 sf204 = true := by kernel_rfl
theorem chk117 : chkF Go.Proofs.Tryz.prog nu Go.Proofs.Tryz.f117 sf198 = true := by kernel_rfl
theorem chk118 : chkF Go.Proofs.Tryz.prog nu Go.Proofs.Tryz.f118 sf212 = true := by kernel_rfl
theorem chk119 : chkF Go.Proofs.Tryz.prog nu Go.Proofs.Tryz.f119 sf206 = true := by kernel_rfl
theorem chk123 : chkF Go.Proofs.Tryz.prog nu Go.Proofs.Tryz.f123 sf214 = true := by kernel_rfl
theorem chk124 : chkF Go.Proofs.Tryz.prog nu Go.Proofs.Tryz.f124 sf218 = true := by kernel_rfl
theorem chk129 : chkF Go.Proofs.Tryz.prog nu Go.Proofs.Tryz.f129 sf219 = true := by kernel_rfl
theorem chk131 : chkF Go.Proofs.Tryz.prog nu Go.Proofs.Tryz.f131 sf221 = true := by kernel_rfl

theorem lk_all {α : Type} {p : Nat → α → Prop} : ∀ {l : List (Nat × α)}, (∀ q ∈ l, p q.1 q.2) → ∀ n a, lk l n = some a → p n a
  | [], _, n, a, h => by simp [lk] at h
  | (k, b) :: l, hp, n, a, h => by
    simp only [lk] at h
    split at h
    · rename_i hk; subst hk; simp only [Option.some.injEq] at h; subst h; exact hp (k, b) (by simp)
    · exact lk_all (fun q hq => hp q (by simp [hq])) n a h

noncomputable def linked : Linked code where
  P := Go.Proofs.Tryz.prog
  ν := nu
  mixed := by kernel_rfl
  link := by
    refine lk_all (l := nuTab) ?_
    intro q hq
    simp only [nuTab, List.mem_cons, List.not_mem_nil, or_false] at hq
    rcases hq with rfl | rfl | rfl | rfl | rfl | rfl | rfl | rfl | rfl | rfl | rfl | rfl | rfl | rfl | rfl | rfl | rfl | rfl | rfl | rfl | rfl | rfl | rfl | rfl | rfl | rfl | rfl | rfl | rfl | rfl | rfl | rfl | rfl | rfl | rfl | rfl | rfl | rfl | rfl | rfl | rfl | rfl | rfl | rfl | rfl | rfl | rfl | rfl | rfl | rfl | rfl | rfl | rfl | rfl | rfl | rfl | rfl | rfl | rfl | rfl | rfl | rfl | rfl | rfl | rfl | rfl | rfl | rfl | rfl | rfl | rfl | rfl | rfl | rfl | rfl | rfl | rfl | rfl | rfl | rfl | rfl | rfl | rfl | rfl | rfl | rfl | rfl | rfl | rfl | rfl | rfl | rfl | rfl | rfl | rfl | rfl | rfl | rfl | rfl | rfl | rfl | rfl | rfl
    · exact ⟨Go.Proofs.Tryz.f3, Go.Proofs.Tryz.func3, chk3⟩
    · exact ⟨Go.Proofs.Tryz.f4, Go.Proofs.Tryz.func4, chk4⟩
    · exact ⟨Go.Proofs.Tryz.f5, Go.Proofs.Tryz.func5, chk5⟩
    · exact ⟨Go.Proofs.Tryz.f6, Go.Proofs.Tryz.func6, chk6⟩
    · exact ⟨Go.Proofs.Tryz.f7, Go.Proofs.Tryz.func7, chk7⟩
    · exact ⟨Go.Proofs.Tryz.f8, Go.Proofs.Tryz.func8, chk8⟩
    · exact ⟨Go.Proofs.Tryz.f9, Go.Proofs.Tryz.func9, chk9⟩
    · exact ⟨Go.Proofs.Tryz.f10, Go.Proofs.Tryz.func10, chk10⟩
    · exact ⟨Go.Proofs.Tryz.f11, Go.Proofs.Tryz.func11, chk11⟩
    · exact ⟨Go.Proofs.Tryz.f12, Go.Proofs.Tryz.func12, chk12⟩
    · exact ⟨Go.Proofs.Tryz.f13, Go.Proofs.Tryz.func13, chk13⟩
    · exact ⟨Go.Proofs.Tryz.f14, Go.Proofs.Tryz.func14, chk14⟩
    · exact ⟨Go.Proofs.Tryz.f15, Go.Proofs.Tryz.func15, chk15⟩
    · exact ⟨Go.Proofs.Tryz.f16, Go.Proofs.Tryz.func16, chk16⟩
    · exact ⟨Go.Proofs.Tryz.f17, Go.Proofs.Tryz.func17, chk17⟩
    · exact ⟨Go.Proofs.Tryz.f18, Go.Proofs.Tryz.func18, chk18⟩
    · exact ⟨Go.Proofs.Tryz.f19, Go.Proofs.Tryz.func19, chk19⟩
    · exact ⟨Go.Proofs.Tryz.f20, Go.Proofs.Tryz.func20, chk20⟩
    · exact ⟨Go.Proofs.Tryz.f21, Go.Proofs.Tryz.func21, chk21⟩
    · exact ⟨Go.Proofs.Tryz.f22, Go.Proofs.Tryz.func22, chk22⟩
    · exact ⟨Go.Proofs.Tryz.f23, Go.Proofs.Tryz.func23, chk23⟩
    · exact ⟨Go.Proofs.Tryz.f24, Go.Proofs.Tryz.func24, chk24⟩
    · exact ⟨Go.Proofs.Tryz.f25, Go.Proofs.Tryz.func25, chk25⟩
    · exact ⟨Go.Proofs.Tryz.f26, Go.Proofs.Tryz.func26, chk26⟩
    · exact ⟨Go.Proofs.Tryz.f27, Go.Proofs.Tryz.func27, chk27⟩
    · exact ⟨Go.Proofs.Tryz.f28, Go.Proofs.Tryz.func28, chk28⟩
    · exact ⟨Go.Proofs.Tryz.f29, Go.Proofs.Tryz.func29, chk29⟩
    · exact ⟨Go.Proofs.Tryz.f30, Go.Proofs.Tryz.func30, chk30⟩
    · exact ⟨Go.Proofs.Tryz.f31, Go.Proofs.Tryz.func31, chk31⟩
    · exact ⟨Go.Proofs.Tryz.f32, Go.Proofs.Tryz.func32, chk32⟩
    · exact ⟨Go.Proofs.Tryz.f33, Go.Proofs.Tryz.func33, chk33⟩
    · exact ⟨Go.Proofs.Tryz.f34, Go.Proofs.Tryz.func34, chk34⟩
    · exact ⟨Go.Proofs.Tryz.f35, Go.Proofs.Tryz.func35, chk35⟩
    · exact ⟨Go.Proofs.Tryz.f36, Go.Proofs.Tryz.func36, chk36⟩
    · exact ⟨Go.Proofs.Tryz.f37, Go.Proofs.Tryz.func37, chk37⟩
    · exact ⟨Go.Proofs.Tryz.f38, Go.Proofs.Tryz.func38, chk38⟩
    · exact ⟨Go.Proofs.Tryz.f39, Go.Proofs.Tryz.func39, chk39⟩
    · exact ⟨Go.Proofs.Tryz.f40, Go.Proofs.Tryz.func40, chk40⟩
    · exact ⟨Go.Proofs.Tryz.f41, Go.Proofs.Tryz.func41, chk41⟩
    · exact ⟨Go.Proofs.Tryz.f42, Go.Proofs.Tryz.func42, chk42⟩
    · exact ⟨Go.Proofs.Tryz.f43, Go.Proofs.Tryz.func43, chk43⟩
    · exact ⟨Go.Proofs.Tryz.f44, Go.Proofs.Tryz.func44, chk44⟩
    · exact ⟨Go.Proofs.Tryz.f45, Go.Proofs.Tryz.func45, chk45⟩
    · exact ⟨Go.Proofs.Tryz.f46, Go.Proofs.Tryz.func46, chk46⟩
    · exact ⟨Go.Proofs.Tryz.f47, Go.Proofs.Tryz.func47, chk47⟩
    · exact ⟨Go.Proofs.Tryz.f48, Go.Proofs.Tryz.func48, chk48⟩
    · exact ⟨Go.Proofs.Tryz.f49, Go.Proofs.Tryz.func49, chk49⟩
    · exact ⟨Go.Proofs.Tryz.f50, Go.Proofs.Tryz.func50, chk50⟩
    · exact ⟨Go.Proofs.Tryz.f51, Go.Proofs.Tryz.func51, chk51⟩
    · exact ⟨Go.Proofs.Tryz.f52, Go.Proofs.Tryz.func52, chk52⟩
    · exact ⟨Go.Proofs.Tryz.f53, Go.Proofs.Tryz.func53, chk53⟩
    · exact ⟨Go.Proofs.Tryz.f54, Go.Proofs.Tryz.func54, chk54⟩
    · exact ⟨Go.Proofs.Tryz.f55, Go.Proofs.Tryz.func55, chk55⟩
    · exact ⟨Go.Proofs.Tryz.f56, Go.Proofs.Tryz.func56, chk56⟩
    · exact ⟨Go.Proofs.Tryz.f57, Go.Proofs.Tryz.func57, chk57⟩
    · exact ⟨Go.Proofs.Tryz.f58, Go.Proofs.Tryz.func58, chk58⟩
    · exact ⟨Go.Proofs.Tryz.f59, Go.Proofs.Tryz.func59, chk59⟩
    · exact ⟨Go.Proofs.Tryz.f60, Go.Proofs.Tryz.func60, chk60⟩
    · exact ⟨Go.Proofs.Tryz.f61, Go.Proofs.Tryz.func61, chk61⟩
    · exact ⟨Go.Proofs.Tryz.f62, Go.Proofs.Tryz.func62, chk62⟩
    · exact ⟨Go.Proofs.Tryz.f63, Go.Proofs.Tryz.func63, chk63⟩
    · exact ⟨Go.Proofs.Tryz.f66, Go.Proofs.Tryz.func66, chk66⟩
    · exact ⟨Go.Proofs.Tryz.f67, Go.Proofs.Tryz.func67, chk67⟩
    · exact ⟨Go.Proofs.Tryz.f68, Go.Proofs.Tryz.func68, chk68⟩
    · exact ⟨Go.Proofs.Tryz.f69, Go.Proofs.Tryz.func69, chk69⟩
    · exact ⟨Go.Proofs.Tryz.f70, Go.Proofs.Tryz.func70, chk70⟩
    · exact ⟨Go.Proofs.Tryz.f71, Go.Proofs.Tryz.func71, chk71⟩
    · exact ⟨Go.Proofs.Tryz.f72, Go.Proofs.Tryz.func72, chk72⟩
    · exact ⟨Go.Proofs.Tryz.f73, Go.Proofs.Tryz.func73, chk73⟩
    · exact ⟨Go.Proofs.Tryz.f74, Go.Proofs.Tryz.func74, chk74⟩
    · exact ⟨Go.Proofs.Tryz.f75, Go.Proofs.Tryz.func75, chk75⟩
    · exact ⟨Go.Proofs.Tryz.f76, Go.Proofs.Tryz.func76, chk76⟩
    · exact ⟨Go.Proofs.Tryz.f77, Go.Proofs.Tryz.func77, chk77⟩
    · exact ⟨Go.Proofs.Tryz.f78, Go.Proofs.Tryz.func78, chk78⟩
    · exact ⟨Go.Proofs.Tryz.f79, Go.Proofs.Tryz.func79, chk79⟩
    · exact ⟨Go.Proofs.Tryz.f80, Go.Proofs.Tryz.func80, chk80⟩
    · exact ⟨Go.Proofs.Tryz.f81, Go.Proofs.Tryz.func81, chk81⟩
    · exact ⟨Go.Proofs.Tryz.f82, Go.Proofs.Tryz.func82, chk82⟩
    · exact ⟨Go.Proofs.Tryz.f83, Go.Proofs.Tryz.func83, chk83⟩
    · exact ⟨Go.Proofs.Tryz.f84, Go.Proofs.Tryz.func84, chk84⟩
    · exact ⟨Go.Proofs.Tryz.f85, Go.Proofs.Tryz.func85, chk85⟩
    · exact ⟨Go.Proofs.Tryz.f96, Go.Proofs.Tryz.func96, chk96⟩
    · exact ⟨Go.Proofs.Tryz.f97, Go.Proofs.Tryz.func97, chk97⟩
    · exact ⟨Go.Proofs.Tryz.f98, Go.Proofs.Tryz.func98, chk98⟩
    · exact ⟨Go.Proofs.Tryz.f99, Go.Proofs.Tryz.func99, chk99⟩
    · exact ⟨Go.Proofs.Tryz.f100, Go.Proofs.Tryz.func100, chk100⟩
    · exact ⟨Go.Proofs.Tryz.f101, Go.Proofs.Tryz.func101, chk101⟩
    · exact ⟨Go.Proofs.Tryz.f102, Go.Proofs.Tryz.func102, chk102⟩
    · exact ⟨Go.Proofs.Tryz.f104, Go.Proofs.Tryz.func104, chk104⟩
    · exact ⟨Go.Proofs.Tryz.f105, Go.Proofs.Tryz.func105, chk105⟩
    · exact ⟨Go.Proofs.Tryz.f106, Go.Proofs.Tryz.func106, chk106⟩
    · exact ⟨Go.Proofs.Tryz.f107, Go.Proofs.Tryz.func107, chk107⟩
    · exact ⟨Go.Proofs.Tryz.f108, Go.Proofs.Tryz.func108, chk108⟩
    · exact ⟨Go.Proofs.Tryz.f109, Go.Proofs.Tryz.func109, chk109⟩
    · exact ⟨Go.Proofs.Tryz.f115, Go.Proofs.Tryz.func115, chk115⟩
    · exact ⟨Go.Proofs.Tryz.f116, Go.Proofs.Tryz.func116, chk116⟩
    · exact ⟨Go.Proofs.Tryz.f117, Go.Proofs.Tryz.func117, chk117⟩
    · exact ⟨Go.Proofs.Tryz.f118, Go.Proofs.Tryz.func118, chk118⟩
    · exact ⟨Go.Proofs.Tryz.f119, Go.Proofs.Tryz.func119, chk119⟩
    · exact ⟨Go.Proofs.Tryz.f123, Go.Proofs.Tryz.func123, chk123⟩
    · exact ⟨Go.Proofs.Tryz.f124, Go.Proofs.Tryz.func124, chk124⟩
    · exact ⟨Go.Proofs.Tryz.f129, Go.Proofs.Tryz.func129, chk129⟩
    · exact ⟨Go.Proofs.Tryz.f131, Go.Proofs.Tryz.func131, chk131⟩

end Sm
