/-
  A layer of one's own: texts Link.
-/
import Derived.Test.YtmdfajhlofhmcaaGreatDoorSmLE
import Derived.Test.YtmdfajhlofhmcaaGreatDoorSmLf
import Derived.Test.YtmdfajhlofhmcaaGreatDoorProg
import Derived.KernelRfl
set_option linter.unusedVariables false
set_option maxRecDepth 100000
namespace Sm
open Go

def nuTab : List (Nat × Nat) := [(3, 371), (4, 372), (5, 373), (6, 374), (7, 375), (8, 292), (9, 293), (10, 294), (11, 295), (12, 296), (13, 297), (14, 298), (15, 299), (16, 300), (17, 301), (18, 302), (19, 303), (20, 304), (21, 305), (22, 306), (23, 307), (24, 308), (25, 309), (26, 310), (27, 311), (28, 312), (29, 313), (30, 314), (31, 315), (32, 164), (33, 150), (34, 163), (35, 192), (36, 316), (37, 317), (38, 318), (39, 319), (40, 162), (41, 320), (42, 321), (43, 322), (44, 323), (45, 324), (46, 325), (47, 326), (48, 327), (49, 328), (50, 329), (51, 330), (52, 331), (53, 332), (54, 333), (55, 335), (56, 334), (57, 364), (58, 336), (59, 186), (60, 339), (61, 337), (62, 338), (63, 340), (64, 341), (65, 342), (66, 343), (67, 344), (68, 345), (69, 160), (70, 346), (71, 347), (72, 348), (73, 349), (74, 350), (75, 351), (76, 183), (77, 166), (78, 167), (79, 182), (80, 181), (81, 201), (82, 202), (83, 211), (84, 352), (85, 179), (86, 180), (87, 194), (88, 353), (89, 354), (90, 355), (91, 357), (92, 356), (93, 358), (94, 170), (95, 359), (96, 199), (97, 360), (99, 90), (100, 361), (101, 362), (102, 363), (103, 365), (104, 366), (105, 367), (106, 154), (107, 197), (108, 173), (109, 185), (110, 196), (111, 195), (112, 210), (113, 368), (114, 187), (115, 191), (116, 209), (118, 369), (121, 206), (123, 189), (124, 205), (125, 204), (126, 370), (139, 214), (140, 218), (141, 176), (150, 219), (153, 221)]
def nu : Nat → Option Nat := lk nuTab

theorem chk3 : chkF Go.Proofs.Tryz.prog nu Go.Proofs.Tryz.f3 sf371 = true := by kernel_rfl
theorem chk4 : chkF Go.Proofs.Tryz.prog nu Go.Proofs.Tryz.f4 sf372 = true := by kernel_rfl
theorem chk5 : chkF Go.Proofs.Tryz.prog nu Go.Proofs.Tryz.f5 sf373 = true := by kernel_rfl
theorem chk6 : chkF Go.Proofs.Tryz.prog nu Go.Proofs.Tryz.f6 sf374 = true := by kernel_rfl
theorem chk7 : chkF Go.Proofs.Tryz.prog nu Go.Proofs.Tryz.f7 sf375 = true := by kernel_rfl
theorem chk8 : chkF Go.Proofs.Tryz.prog nu Go.Proofs.Tryz.f8 sf292 = true := by kernel_rfl
theorem chk9 : chkF Go.Proofs.Tryz.prog nu Go.Proofs.Tryz.f9 sf293 = true := by kernel_rfl
theorem chk10 : chkF Go.Proofs.Tryz.prog nu Go.Proofs.Tryz.f10 sf294 = true := by kernel_rfl
theorem chk11 : chkF Go.Proofs.Tryz.prog nu Go.Proofs.Tryz.f11 sf295 = true := by kernel_rfl
theorem chk12 : chkF Go.Proofs.Tryz.prog nu Go.Proofs.Tryz.f12 sf296 = true := by kernel_rfl
theorem chk13 : chkF Go.Proofs.Tryz.prog nu Go.Proofs.Tryz.f13 sf297 = true := by kernel_rfl
theorem chk14 : chkF Go.Proofs.Tryz.prog nu Go.Proofs.Tryz.f14 sf298 = true := by kernel_rfl
theorem chk15 : chkF Go.Proofs.Tryz.prog nu Go.Proofs.Tryz.f15 sf299 = true := by kernel_rfl
theorem chk16 : chkF Go.Proofs.Tryz.prog nu Go.Proofs.Tryz.f16 sf300 = true := by kernel_rfl
theorem chk17 : chkF Go.Proofs.Tryz.prog nu Go.Proofs.Tryz.f17 sf301 = true := by kernel_rfl
theorem chk18 : chkF Go.Proofs.Tryz.prog nu Go.Proofs.Tryz.f18 sf302 = true := by kernel_rfl
theorem chk19 : chkF Go.Proofs.Tryz.prog nu Go.Proofs.Tryz.f19 sf303 = true := by kernel_rfl
theorem chk20 : chkF Go.Proofs.Tryz.prog nu Go.Proofs.Tryz.f20 sf304 = true := by kernel_rfl
theorem chk21 : chkF Go.Proofs.Tryz.prog nu Go.Proofs.Tryz.f21 sf305 = true := by kernel_rfl
theorem chk22 : chkF Go.Proofs.Tryz.prog nu Go.Proofs.Tryz.f22 sf306 = true := by kernel_rfl
theorem chk23 : chkF Go.Proofs.Tryz.prog nu Go.Proofs.Tryz.f23 sf307 = true := by kernel_rfl
theorem chk24 : chkF Go.Proofs.Tryz.prog nu Go.Proofs.Tryz.f24 sf308 = true := by kernel_rfl
theorem chk25 : chkF Go.Proofs.Tryz.prog nu Go.Proofs.Tryz.f25 sf309 = true := by kernel_rfl
theorem chk26 : chkF Go.Proofs.Tryz.prog nu Go.Proofs.Tryz.f26 sf310 = true := by kernel_rfl
theorem chk27 : chkF Go.Proofs.Tryz.prog nu Go.Proofs.Tryz.f27 sf311 = true := by kernel_rfl
theorem chk28 : chkF Go.Proofs.Tryz.prog nu Go.Proofs.Tryz.f28 sf312 = true := by kernel_rfl
theorem chk29 : chkF Go.Proofs.Tryz.prog nu Go.Proofs.Tryz.f29 sf313 = true := by kernel_rfl
theorem chk30 : chkF Go.Proofs.Tryz.prog nu Go.Proofs.Tryz.f30 sf314 = true := by kernel_rfl
theorem chk31 : chkF Go.Proofs.Tryz.prog nu Go.Proofs.Tryz.f31 sf315 = true := by kernel_rfl
theorem chk32 : chkF Go.Proofs.Tryz.prog nu Go.Proofs.Tryz.f32 sf164 = true := by kernel_rfl
theorem chk33 : chkF Go.Proofs.Tryz.prog nu Go.Proofs.Tryz.f33 sf150 = true := by kernel_rfl
theorem chk34 : chkF Go.Proofs.Tryz.prog nu Go.Proofs.Tryz.f34 sf163 = true := by kernel_rfl
theorem chk35 : chkF Go.Proofs.Tryz.prog nu Go.Proofs.Tryz.f35 sf192 = true := by kernel_rfl
theorem chk36 : chkF Go.Proofs.Tryz.prog nu Go.Proofs.Tryz.f36 sf316 = true := by kernel_rfl
theorem chk37 : chkF Go.Proofs.Tryz.prog nu Go.Proofs.Tryz.f37 sf317 = true := by kernel_rfl
theorem chk38 : chkF Go.Proofs.Tryz.prog nu Go.Proofs.Tryz.f38 sf318 = true := by kernel_rfl
theorem chk39 : chkF Go.Proofs.Tryz.prog nu Go.Proofs.Tryz.f39 sf319 = true := by kernel_rfl
theorem chk40 : chkF Go.Proofs.Tryz.prog nu Go.Proofs.Tryz.f40 sf162 = true := by kernel_rfl
theorem chk41 : chkF Go.Proofs.Tryz.prog nu Go.Proofs.Tryz.f41 sf320 = true := by kernel_rfl
theorem chk42 : chkF Go.Proofs.Tryz.prog nu Go.Proofs.Tryz.f42 sf321 = true := by kernel_rfl
theorem chk43 : chkF Go.Proofs.Tryz.prog nu Go.Proofs.Tryz.f43 sf322 = true := by kernel_rfl
theorem chk44 : chkF Go.Proofs.Tryz.prog nu Go.Proofs.Tryz.f44 sf323 = true := by kernel_rfl
theorem chk45 : chkF Go.Proofs.Tryz.prog nu Go.Proofs.Tryz.f45 sf324 = true := by kernel_rfl
theorem chk46 : chkF Go.Proofs.Tryz.prog nu Go.Proofs.Tryz.f46 sf325 = true := by kernel_rfl
theorem chk47 : chkF Go.Proofs.Tryz.prog nu Go.Proofs.Tryz.f47 sf326 = true := by kernel_rfl
theorem chk48 : chkF Go.Proofs.Tryz.prog nu Go.Proofs.Tryz.f48 sf327 = true := by kernel_rfl
theorem chk49 : chkF Go.Proofs.Tryz.prog nu Go.Proofs.Tryz.f49 sf328 = true := by kernel_rfl
theorem chk50 : chkF Go.Proofs.Tryz.prog nu Go.Proofs.Tryz.f50 sf329 = true := by kernel_rfl
theorem chk51 : chkF Go.Proofs.Tryz.prog nu Go.Proofs.Tryz.f51 sf330 = true := by kernel_rfl
theorem chk52 : chkF Go.Proofs.Tryz.prog nu Go.Proofs.Tryz.f52 sf331 = true := by kernel_rfl
theorem chk53 : chkF Go.Proofs.Tryz.prog nu Go.Proofs.Tryz.f53 sf332 = true := by kernel_rfl
theorem chk54 : chkF Go.Proofs.Tryz.prog nu Go.Proofs.Tryz.f54 sf333 = true := by kernel_rfl
theorem chk55 : chkF Go.Proofs.Tryz.prog nu Go.Proofs.Tryz.f55 sf335 = true := by kernel_rfl
theorem chk56 : chkF Go.Proofs.Tryz.prog nu Go.Proofs.Tryz.f56 sf334 = true := by kernel_rfl
theorem chk57 : chkF Go.Proofs.Tryz.prog nu Go.Proofs.Tryz.f57 sf364 = true := by kernel_rfl
theorem chk58 : chkF Go.Proofs.Tryz.prog nu Go.Proofs.Tryz.f58 sf336 = true := by kernel_rfl
theorem chk59 : chkF Go.Proofs.Tryz.prog nu Go.Proofs.Tryz.f59 sf186 = true := by kernel_rfl
theorem chk60 : chkF Go.Proofs.Tryz.prog nu Go.Proofs.Tryz.f60 sf339 = true := by kernel_rfl
theorem chk61 : chkF Go.Proofs.Tryz.prog nu Go.Proofs.Tryz.f61 sf337 = true := by kernel_rfl
theorem chk62 : chkF Go.Proofs.Tryz.prog nu Go.Proofs.Tryz.f62 sf338 = true := by kernel_rfl
theorem chk63 : chkF Go.Proofs.Tryz.prog nu Go.Proofs.Tryz.f63 sf340 = true := by kernel_rfl
theorem chk64 : chkF Go.Proofs.Tryz.prog nu Go.Proofs.Tryz.f64 sf341 = true := by kernel_rfl
theorem chk65 : chkF Go.Proofs.Tryz.prog nu Go.Proofs.Tryz.f65 sf342 = true := by kernel_rfl
theorem chk66 : chkF Go.Proofs.Tryz.prog nu Go.Proofs.Tryz.f66 sf343 = true := by kernel_rfl
theorem chk67 : chkF Go.Proofs.Tryz.prog nu Go.Proofs.Tryz.f67 sf344 = true := by kernel_rfl
theorem chk68 : chkF Go.Proofs.Tryz.prog nu Go.Proofs.Tryz.f68 sf345 = true := by kernel_rfl
theorem chk69 : chkF Go.Proofs.Tryz.prog nu Go.Proofs.Tryz.f69 sf160 = true := by kernel_rfl
theorem chk70 : chkF Go.Proofs.Tryz.prog nu Go.Proofs.Tryz.f70 sf346 = true := by kernel_rfl
theorem chk71 : chkF Go.Proofs.Tryz.prog nu Go.Proofs.Tryz.f71 sf347 = true := by kernel_rfl
theorem chk72 : chkF Go.Proofs.Tryz.prog nu Go.Proofs.Tryz.f72 sf348 = true := by kernel_rfl
theorem chk73 : chkF Go.Proofs.Tryz.prog nu Go.Proofs.Tryz.f73 sf349 = true := by kernel_rfl
theorem chk74 : chkF Go.Proofs.Tryz.prog nu Go.Proofs.Tryz.f74 sf350 = true := by kernel_rfl
theorem chk75 : chkF Go.Proofs.Tryz.prog nu Go.Proofs.Tryz.f75 sf351 = true := by kernel_rfl
theorem chk76 : chkF Go.Proofs.Tryz.prog nu Go.Proofs.Tryz.f76 sf183 = true := by kernel_rfl
theorem chk77 : chkF Go.Proofs.Tryz.prog nu Go.Proofs.Tryz.f77 sf166 = true := by kernel_rfl
theorem chk78 : chkF Go.Proofs.Tryz.prog nu Go.Proofs.Tryz.f78 sf167 = true := by kernel_rfl
theorem chk79 : chkF Go.Proofs.Tryz.prog nu Go.Proofs.Tryz.f79 sf182 = true := by kernel_rfl
theorem chk80 : chkF Go.Proofs.Tryz.prog nu Go.Proofs.Tryz.f80 sf181 = true := by kernel_rfl
theorem chk81 : chkF Go.Proofs.Tryz.prog nu Go.Proofs.Tryz.f81 sf201 = true := by kernel_rfl
theorem chk82 : chkF Go.Proofs.Tryz.prog nu Go.Proofs.Tryz.f82 sf202 = true := by kernel_rfl
theorem chk83 : chkF Go.Proofs.Tryz.prog nu Go.Proofs.Tryz.f83 sf211 = true := by kernel_rfl
theorem chk84 : chkF Go.Proofs.Tryz.prog nu Go.Proofs.Tryz.f84 sf352 = true := by kernel_rfl
theorem chk85 : chkF Go.Proofs.Tryz.prog nu Go.Proofs.Tryz.f85 sf179 = true := by kernel_rfl
theorem chk86 : chkF Go.Proofs.Tryz.prog nu Go.Proofs.Tryz.f86 sf180 = true := by kernel_rfl
theorem chk87 : chkF Go.Proofs.Tryz.prog nu Go.Proofs.Tryz.f87 sf194 = true := by kernel_rfl
theorem chk88 : chkF Go.Proofs.Tryz.prog nu Go.Proofs.Tryz.f88 sf353 = true := by kernel_rfl
theorem chk89 : chkF Go.Proofs.Tryz.prog nu Go.Proofs.Tryz.f89 sf354 = true := by kernel_rfl
theorem chk90 : chkF Go.Proofs.Tryz.prog nu Go.Proofs.Tryz.f90 sf355 = true := by kernel_rfl
theorem chk91 : chkF Go.Proofs.Tryz.prog nu Go.Proofs.Tryz.f91 sf357 = true := by kernel_rfl
theorem chk92 : chkF Go.Proofs.Tryz.prog nu Go.Proofs.Tryz.f92 sf356 = true := by kernel_rfl
theorem chk93 : chkF Go.Proofs.Tryz.prog nu Go.Proofs.Tryz.f93 sf358 = true := by kernel_rfl
theorem chk94 : chkF Go.Proofs.Tryz.prog nu Go.Proofs.Tryz.f94 sf170 = true := by kernel_rfl
theorem chk95 : chkF Go.Proofs.Tryz.prog nu Go.Proofs.Tryz.f95 sf359 = true := by kernel_rfl
theorem chk96 : chkF Go.Proofs.Tryz.prog nu Go.Proofs.Tryz.f96 sf199 = true := by kernel_rfl
theorem chk97 : chkF Go.Proofs.Tryz.prog nu Go.Proofs.Tryz.f97 sf360 = true := by kernel_rfl
theorem chk99 : chkF Go.Proofs.Tryz.prog nu Go.Proofs.Tryz.f99 sf90 = true := by kernel_rfl
theorem chk100 : chkF Go.Proofs.Tryz.prog nu Go.Proofs.Tryz.f100 sf361 = true := by kernel_rfl
theorem chk101 : chkF Go.Proofs.Tryz.prog nu Go.Proofs.Tryz.f101 sf362 = true := by kernel_rfl
theorem chk102 : chkF Go.Proofs.Tryz.prog nu Go.Proofs.Tryz.f102 sf363 = true := by kernel_rfl
theorem chk103 : chkF Go.Proofs.Tryz.prog nu Go.Proofs.Tryz.f103 sf365 = true := by kernel_rfl
theorem chk104 : chkF Go.Proofs.Tryz.prog nu Go.Proofs.Tryz.f104 sf366 = true := by kernel_rfl
theorem chk105 : chkF Go.Proofs.Tryz.prog nu Go.Proofs.Tryz.f105 sf367 = true := by kernel_rfl
theorem chk106 : chkF Go.Proofs.Tryz.prog nu Go.Proofs.Tryz.f106 sf154 = true := by kernel_rfl
theorem chk107 : chkF Go.Proofs.Tryz.prog nu Go.Proofs.Tryz.f107 sf197 = true := by kernel_rfl
theorem chk108 : chkF Go.Proofs.Tryz.prog nu Go.Proofs.Tryz.f108 sf173 = true := by kernel_rfl
theorem chk109 : chkF Go.Proofs.Tryz.prog nu Go.Proofs.Tryz.f109 sf185 = true := by kernel_rfl
theorem chk110 : chkF Go.Proofs.Tryz.prog nu Go.Proofs.Tryz.f110 sf196 = true := by kernel_rfl
theorem chk111 : chkF Go.Proofs.Tryz.prog nu Go.Proofs.Tryz.f111 sf195 = true := by kernel_rfl
theorem chk112 : chkF Go.Proofs.Tryz.prog nu Go.Proofs.Tryz.f112 sf210 = true := by kernel_rfl
theorem chk113 : chkF Go.Proofs.Tryz.prog nu Go.Proofs.Tryz.f113 sf368 = true := by kernel_rfl
theorem chk114 : chkF Go.Proofs.Tryz.prog nu Go.Proofs.Tryz.f114 sf187 = true := by kernel_rfl
theorem chk115 : chkF Go.Proofs.Tryz.prog nu Go.Proofs.Tryz.f115 sf191 = true := by kernel_rfl
theorem chk116 : chkF Go.Proofs.Tryz.prog nu Go.Proofs.Tryz.f116 sf209 = true := by kernel_rfl
theorem chk118 : chkF Go.Proofs.Tryz.prog nu Go.Proofs.Tryz.f118 sf369 = true := by kernel_rfl
theorem chk121 : chkF Go.Proofs.Tryz.prog nu Go.Proofs.Tryz.f121 sf206 = true := by kernel_rfl
theorem chk123 : chkF Go.Proofs.Tryz.prog nu Go.Proofs.Tryz.f123 sf189 = true := by kernel_rfl
theorem chk124 : chkF Go.Proofs.Tryz.prog nu Go.Proofs.Tryz.f124 sf205 = true := by kernel_rfl
theorem chk125 : chkF Go.Proofs.Tryz.prog nu Go.Proofs.Tryz.f125 sf204 = true := by kernel_rfl
theorem chk126 : chkF Go.Proofs.Tryz.prog nu Go.Proofs.Tryz.f126 sf370 = true := by kernel_rfl
theorem chk139 : chkF Go.Proofs.Tryz.prog nu Go.Proofs.Tryz.f139 sf214 = true := by kernel_rfl
theorem chk140 : chkF Go.Proofs.Tryz.prog nu Go.Proofs.Tryz.f140 sf218 = true := by kernel_rfl
theorem chk141 : chkF Go.Proofs.Tryz.prog nu Go.Proofs.Tryz.f141 sf176 = true := by kernel_rfl
theorem chk150 : chkF Go.Proofs.Tryz.prog nu Go.Proofs.Tryz.f150 sf219 = true := by kernel_rfl
theorem chk153 : chkF Go.Proofs.Tryz.prog nu Go.Proofs.Tryz.f153 sf221 = true := by kernel_rfl

theorem lk_all {α : Type} {p : Nat → α → Prop} : ∀ {l : List (Nat × α)}, (∀ q ∈ l, p q.1 q.2) → ∀ n a, lk l n = some a → p n a
  | [], _, n, a, h => by simp [lk] at h
  | (k, b) :: l, hp, n, a, h => by
    simp only [lk] at h
    split at h
    · rename_i hk; subst hk; simp only [Option.some.injEq] at h; subst h; exact hp (k, b) (by simp)
    · exact lk_all (fun q hq => hp q (by simp [hq])) n a h

noncomputable def linked : Linked code where
  P := Go.Proofs.Tryz.prog
  ν := nu
  mixed := by kernel_rfl
  link := by
    refine lk_all (l := nuTab) ?_
    intro q hq
    simp only [nuTab, List.mem_cons, List.not_mem_nil, or_false] at hq
    rcases hq with rfl | rfl | rfl | rfl | rfl | rfl | rfl | rfl | rfl | rfl | rfl | rfl | rfl | rfl | rfl | rfl | rfl | rfl | rfl | rfl | rfl | rfl | rfl | rfl | rfl | rfl | rfl | rfl | rfl | rfl | rfl | rfl | rfl | rfl | rfl | rfl | rfl | rfl | rfl | rfl | rfl | rfl | rfl | rfl | rfl | rfl | rfl | rfl | rfl | rfl | rfl | rfl | rfl | rfl | rfl | rfl | rfl | rfl | rfl | rfl | rfl | rfl | rfl | rfl | rfl | rfl | rfl | rfl | rfl | rfl | rfl | rfl | rfl | rfl | rfl | rfl | rfl | rfl | rfl | rfl | rfl | rfl | rfl | rfl | rfl | rfl | rfl | rfl | rfl | rfl | rfl | rfl | rfl | rfl | rfl | rfl | rfl | rfl | rfl | rfl | rfl | rfl | rfl | rfl | rfl | rfl | rfl | rfl | rfl | rfl | rfl | rfl | rfl | rfl | rfl | rfl | rfl | rfl | rfl | rfl | rfl | rfl | rfl | rfl
    · exact ⟨Go.Proofs.Tryz.f3, Go.Proofs.Tryz.func3, chk3⟩
    · exact ⟨Go.Proofs.Tryz.f4, Go.Proofs.Tryz.func4, chk4⟩
    · exact ⟨Go.Proofs.Tryz.f5, Go.Proofs.Tryz.func5, chk5⟩
    · exact ⟨Go.Proofs.Tryz.f6, Go.Proofs.Tryz.func6, chk6⟩
    · exact ⟨Go.Proofs.Tryz.f7, Go.Proofs.Tryz.func7, chk7⟩
    · exact ⟨Go.Proofs.Tryz.f8, Go.Proofs.Tryz.func8, chk8⟩
    · exact ⟨Go.Proofs.Tryz.f9, Go.Proofs.Tryz.func9, chk9⟩
    · exact ⟨Go.Proofs.Tryz.f10, Go.Proofs.Tryz.func10, chk10⟩
    · exact ⟨Go.Proofs.Tryz.f11, Go.Proofs.Tryz.func11, chk11⟩
    · exact ⟨Go.Proofs.Tryz.f12, Go.Proofs.Tryz.func12, chk12⟩
    · exact ⟨Go.Proofs.Tryz.f13, Go.Proofs.Tryz.func13, chk13⟩
    · exact ⟨Go.Proofs.Tryz.f14, Go.Proofs.Tryz.func14, chk14⟩
    · exact ⟨Go.Proofs.Tryz.f15, Go.Proofs.Tryz.func15, chk15⟩
    · exact ⟨Go.Proofs.Tryz.f16, Go.Proofs.Tryz.func16, chk16⟩
    · exact ⟨Go.Proofs.Tryz.f17, Go.Proofs.Tryz.func17, chk17⟩
    · exact ⟨Go.Proofs.Tryz.f18, Go.Proofs.Tryz.func18, chk18⟩
    · exact ⟨Go.Proofs.Tryz.f19, Go.Proofs.Tryz.func19, chk19⟩
    · exact ⟨Go.Proofs.Tryz.f20, Go.Proofs.Tryz.func20, chk20⟩
    · exact ⟨Go.Proofs.Tryz.f21, Go.Proofs.Tryz.func21, chk21⟩
    · exact ⟨Go.Proofs.Tryz.f22, Go.Proofs.Tryz.func22, chk22⟩
    · exact ⟨Go.Proofs.Tryz.f23, Go.Proofs.Tryz.func23, chk23⟩
    · exact ⟨Go.Proofs.Tryz.f24, Go.Proofs.Tryz.func24, chk24⟩
    · exact ⟨Go.Proofs.Tryz.f25, Go.Proofs.Tryz.func25, chk25⟩
    · exact ⟨Go.Proofs.Tryz.f26, Go.Proofs.Tryz.func26, chk26⟩
    · exact ⟨Go.Proofs.Tryz.f27, Go.Proofs.Tryz.func27, chk27⟩
    · exact ⟨Go.Proofs.Tryz.f28, Go.Proofs.Tryz.func28, chk28⟩
    · exact ⟨Go.Proofs.Tryz.f29, Go.Proofs.Tryz.func29, chk29⟩
    · exact ⟨Go.Proofs.Tryz.f30, Go.Proofs.Tryz.func30, chk30⟩
    · exact ⟨Go.Proofs.Tryz.f31, Go.Proofs.Tryz.func31, chk31⟩
    · exact ⟨Go.Proofs.Tryz.f32, Go.Proofs.Tryz.func32, chk32⟩
    · exact ⟨Go.Proofs.Tryz.f33, Go.Proofs.Tryz.func33, chk33⟩
    · exact ⟨Go.Proofs.Tryz.f34, Go.Proofs.Tryz.func34, chk34⟩
    · exact ⟨Go.Proofs.Tryz.f35, Go.Proofs.Tryz.func35, chk35⟩
    · exact ⟨Go.Proofs.Tryz.f36, Go.Proofs.Tryz.func36, chk36⟩
    · exact ⟨Go.Proofs.Tryz.f37, Go.Proofs.Tryz.func37, chk37⟩
    · exact ⟨Go.Proofs.Tryz.f38, Go.Proofs.Tryz.func38, chk38⟩
    · exact ⟨Go.Proofs.Tryz.f39, Go.Proofs.Tryz.func39, chk39⟩
    · exact ⟨Go.Proofs.Tryz.f40, Go.Proofs.Tryz.func40, chk40⟩
    · exact ⟨Go.Proofs.Tryz.f41, Go.Proofs.Tryz.func41, chk41⟩
    · exact ⟨Go.Proofs.Tryz.f42, Go.Proofs.Tryz.func42, chk42⟩
    · exact ⟨Go.Proofs.Tryz.f43, Go.Proofs.Tryz.func43, chk43⟩
    · exact ⟨Go.Proofs.Tryz.f44, Go.Proofs.Tryz.func44, chk44⟩
    · exact ⟨Go.Proofs.Tryz.f45, Go.Proofs.Tryz.func45, chk45⟩
    · exact ⟨Go.Proofs.Tryz.f46, Go.Proofs.Tryz.func46, chk46⟩
    · exact ⟨Go.Proofs.Tryz.f47, Go.Proofs.Tryz.func47, chk47⟩
    · exact ⟨Go.Proofs.Tryz.f48, Go.Proofs.Tryz.func48, chk48⟩
    · exact ⟨Go.Proofs.Tryz.f49, Go.Proofs.Tryz.func49, chk49⟩
    · exact ⟨Go.Proofs.Tryz.f50, Go.Proofs.Tryz.func50, chk50⟩
    · exact ⟨Go.Proofs.Tryz.f51, Go.Proofs.Tryz.func51, chk51⟩
    · exact ⟨Go.Proofs.Tryz.f52, Go.Proofs.Tryz.func52, chk52⟩
    · exact ⟨Go.Proofs.Tryz.f53, Go.Proofs.Tryz.func53, chk53⟩
    · exact ⟨Go.Proofs.Tryz.f54, Go.Proofs.Tryz.func54, chk54⟩
    · exact ⟨Go.Proofs.Tryz.f55, Go.Proofs.Tryz.func55, chk55⟩
    · exact ⟨Go.Proofs.Tryz.f56, Go.Proofs.Tryz.func56, chk56⟩
    · exact ⟨Go.Proofs.Tryz.f57, Go.Proofs.Tryz.func57, chk57⟩
    · exact ⟨Go.Proofs.Tryz.f58, Go.Proofs.Tryz.func58, chk58⟩
    · exact ⟨Go.Proofs.Tryz.f59, Go.Proofs.Tryz.func59, chk59⟩
    · exact ⟨Go.Proofs.Tryz.f60, Go.Proofs.Tryz.func60, chk60⟩
    · exact ⟨Go.Proofs.Tryz.f61, Go.Proofs.Tryz.func61, chk61⟩
    · exact ⟨Go.Proofs.Tryz.f62, Go.Proofs.Tryz.func62, chk62⟩
    · exact ⟨Go.Proofs.Tryz.f63, Go.Proofs.Tryz.func63, chk63⟩
    · exact ⟨Go.Proofs.Tryz.f64, Go.Proofs.Tryz.func64, chk64⟩
    · exact ⟨Go.Proofs.Tryz.f65, Go.Proofs.Tryz.func65, chk65⟩
    · exact ⟨Go.Proofs.Tryz.f66, Go.Proofs.Tryz.func66, chk66⟩
    · exact ⟨Go.Proofs.Tryz.f67, Go.Proofs.Tryz.func67, chk67⟩
    · exact ⟨Go.Proofs.Tryz.f68, Go.Proofs.Tryz.func68, chk68⟩
    · exact ⟨Go.Proofs.Tryz.f69, Go.Proofs.Tryz.func69, chk69⟩
    · exact ⟨Go.Proofs.Tryz.f70, Go.Proofs.Tryz.func70, chk70⟩
    · exact ⟨Go.Proofs.Tryz.f71, Go.Proofs.Tryz.func71, chk71⟩
    · exact ⟨Go.Proofs.Tryz.f72, Go.Proofs.Tryz.func72, chk72⟩
    · exact ⟨Go.Proofs.Tryz.f73, Go.Proofs.Tryz.func73, chk73⟩
    · exact ⟨Go.Proofs.Tryz.f74, Go.Proofs.Tryz.func74, chk74⟩
    · exact ⟨Go.Proofs.Tryz.f75, Go.Proofs.Tryz.func75, chk75⟩
    · exact ⟨Go.Proofs.Tryz.f76, Go.Proofs.Tryz.func76, chk76⟩
    · exact ⟨Go.Proofs.Tryz.f77, Go.Proofs.Tryz.func77, chk77⟩
    · exact ⟨Go.Proofs.Tryz.f78, Go.Proofs.Tryz.func78, chk78⟩
    · exact ⟨Go.Proofs.Tryz.f79, Go.Proofs.Tryz.func79, chk79⟩
    · exact ⟨Go.Proofs.Tryz.f80, Go.Proofs.Tryz.func80, chk80⟩
    · exact ⟨Go.Proofs.Tryz.f81, Go.Proofs.Tryz.func81, chk81⟩
    · exact ⟨Go.Proofs.Tryz.f82, Go.Proofs.Tryz.func82, chk82⟩
    · exact ⟨Go.Proofs.Tryz.f83, Go.Proofs.Tryz.func83, chk83⟩
    · exact ⟨Go.Proofs.Tryz.f84, Go.Proofs.Tryz.func84, chk84⟩
    · exact ⟨Go.Proofs.Tryz.f85, Go.Proofs.Tryz.func85, chk85⟩
    · exact ⟨Go.Proofs.Tryz.f86, Go.Proofs.Tryz.func86, chk86⟩
    · exact ⟨Go.Proofs.Tryz.f87, Go.Proofs.Tryz.func87, chk87⟩
    · exact ⟨Go.Proofs.Tryz.f88, Go.Proofs.Tryz.func88, chk88⟩
    · exact ⟨Go.Proofs.Tryz.f89, Go.Proofs.Tryz.func89, chk89⟩
    · exact ⟨Go.Proofs.Tryz.f90, Go.Proofs.Tryz.func90, chk90⟩
    · exact ⟨Go.Proofs.Tryz.f91, Go.Proofs.Tryz.func91, chk91⟩
    · exact ⟨Go.Proofs.Tryz.f92, Go.Proofs.Tryz.func92, chk92⟩
    · exact ⟨Go.Proofs.Tryz.f93, Go.Proofs.Tryz.func93, chk93⟩
    · exact ⟨Go.Proofs.Tryz.f94, Go.Proofs.Tryz.func94, chk94⟩
    · exact ⟨Go.Proofs.Tryz.f95, Go.Proofs.Tryz.func95, chk95⟩
    · exact ⟨Go.Proofs.Tryz.f96, Go.Proofs.Tryz.func96, chk96⟩
    · exact ⟨Go.Proofs.Tryz.f97, Go.Proofs.Tryz.func97, chk97⟩
    · exact ⟨Go.Proofs.Tryz.f99, Go.Proofs.Tryz.func99, chk99⟩
    · exact ⟨Go.Proofs.Tryz.f100, Go.Proofs.Tryz.func100, chk100⟩
    · exact ⟨Go.Proofs.Tryz.f101, Go.Proofs.Tryz.func101, chk101⟩
    · exact ⟨Go.Proofs.Tryz.f102, Go.Proofs.Tryz.func102, chk102⟩
    · exact ⟨Go.Proofs.Tryz.f103, Go.Proofs.Tryz.func103, chk103⟩
    · exact ⟨Go.Proofs.Tryz.f104, Go.Proofs.Tryz.func104, chk104⟩
    · exact ⟨Go.Proofs.Tryz.f105, Go.Proofs.Tryz.func105, chk105⟩
    · exact ⟨Go.Proofs.Tryz.f106, Go.Proofs.Tryz.func106, chk106⟩
    · exact ⟨Go.Proofs.Tryz.f107, Go.Proofs.Tryz.func107, chk107⟩
    · exact ⟨Go.Proofs.Tryz.f108, Go.Proofs.Tryz.func108, chk108⟩
    · exact ⟨Go.Proofs.Tryz.f109, Go.Proofs.Tryz.func109, chk109⟩
    · exact ⟨Go.Proofs.Tryz.f110, Go.Proofs.Tryz.func110, chk110⟩
    · exact ⟨Go.Proofs.Tryz.f111, Go.Proofs.Tryz.func111, chk111⟩
    · exact ⟨Go.Proofs.Tryz.f112, Go.Proofs.Tryz.func112, chk112⟩
    · exact ⟨Go.Proofs.Tryz.f113, Go.Proofs.Tryz.func113, chk113⟩
    · exact ⟨Go.Proofs.Tryz.f114, Go.Proofs.Tryz.func114, chk114⟩
    · exact ⟨Go.Proofs.Tryz.f115, Go.Proofs.Tryz.func115, chk115⟩
    · exact ⟨Go.Proofs.Tryz.f116, Go.Proofs.Tryz.func116, chk116⟩
    · exact ⟨Go.Proofs.Tryz.f118, Go.Proofs.Tryz.func118, chk118⟩
    · exact ⟨Go.Proofs.Tryz.f121, Go.Proofs.Tryz.func121, chk121⟩
    · exact ⟨Go.Proofs.Tryz.f123, Go.Proofs.Tryz.func123, chk123⟩
    · exact ⟨Go.Proofs.Tryz.f124, Go.Proofs.Tryz.func124, chk124⟩
    · exact ⟨Go.Proofs.Tryz.f125, Go.Proofs.Tryz.func125, chk125⟩
    · exact ⟨Go.Proofs.Tryz.f126, Go.Proofs.Tryz.func126, chk126⟩
    · exact ⟨Go.Proofs.Tryz.f139, Go.Proofs.Tryz.func139, chk139⟩
    · exact ⟨Go.Proofs.Tryz.f140, Go.Proofs.Tryz.func140, chk140⟩
    · exact ⟨Go.Proofs.Tryz.f141, Go.Proofs.Tryz.func141, chk141⟩
    · exact ⟨Go.Proofs.Tryz.f150, Go.Proofs.Tryz.func150, chk150⟩
    · exact ⟨Go.Proofs.Tryz.f153, Go.Proofs.Tryz.func153, chk153⟩

end Sm
