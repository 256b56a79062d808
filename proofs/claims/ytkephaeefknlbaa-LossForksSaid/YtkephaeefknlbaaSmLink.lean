/-
  A layer of one's own: text Link.
-/
import Derived.Test.YtkephaeefknlbaaSmW
import Derived.Test.YtkephaeefknlbaaSmSf
import Derived.Test.YtkephaeefknlbaaProg
import Derived.KernelRfl
set_option linter.unusedVariables false
set_option maxRecDepth 100000
namespace Sm
open Go

def nuTab : List (Nat × Nat) := [(3, 143), (4, 144), (5, 145), (6, 146), (7, 147), (8, 101), (9, 102), (10, 103), (11, 104), (12, 105), (13, 106), (14, 107), (15, 108), (16, 109), (17, 110), (18, 111), (19, 112), (20, 113), (21, 114), (22, 115), (23, 116), (24, 117), (25, 118), (26, 119), (27, 120), (28, 122), (29, 121), (30, 124), (31, 123), (32, 125), (33, 126), (34, 138), (35, 127), (36, 128), (37, 129), (38, 130), (39, 131), (40, 132), (41, 133), (42, 134), (43, 135), (44, 136), (45, 137), (46, 141), (47, 140), (48, 139), (49, 142)]
def nu : Nat → Option Nat := lk nuTab

theorem chk3 : chkF Go.Proofs.Try.prog nu Go.Proofs.Try.f3 sf143 = true := by kernel_rfl
theorem chk4 : chkF Go.Proofs.Try.prog nu Go.Proofs.Try.f4 sf144 = true := by kernel_rfl
theorem chk5 : chkF Go.Proofs.Try.prog nu Go.Proofs.Try.f5 sf145 = true := by kernel_rfl
theorem chk6 : chkF Go.Proofs.Try.prog nu Go.Proofs.Try.f6 sf146 = true := by kernel_rfl
theorem chk7 : chkF Go.Proofs.Try.prog nu Go.Proofs.Try.f7 sf147 = true := by kernel_rfl
theorem chk8 : chkF Go.Proofs.Try.prog nu Go.Proofs.Try.f8 sf101 = true := by kernel_rfl
theorem chk9 : chkF Go.Proofs.Try.prog nu Go.Proofs.Try.f9 sf102 = true := by kernel_rfl
theorem chk10 : chkF Go.Proofs.Try.prog nu Go.Proofs.Try.f10 sf103 = true := by kernel_rfl
theorem chk11 : chkF Go.Proofs.Try.prog nu Go.Proofs.Try.f11 sf104 = true := by kernel_rfl
theorem chk12 : chkF Go.Proofs.Try.prog nu Go.Proofs.Try.f12 sf105 = true := by kernel_rfl
theorem chk13 : chkF Go.Proofs.Try.prog nu Go.Proofs.Try.f13 sf106 = true := by kernel_rfl
theorem chk14 : chkF Go.Proofs.Try.prog nu Go.Proofs.Try.f14 sf107 = true := by kernel_rfl
theorem chk15 : chkF Go.Proofs.Try.prog nu Go.Proofs.Try.f15 sf108 = true := by kernel_rfl
theorem chk16 : chkF Go.Proofs.Try.prog nu Go.Proofs.Try.f16 sf109 = true := by kernel_rfl
theorem chk17 : chkF Go.Proofs.Try.prog nu Go.Proofs.Try.f17 sf110 = true := by kernel_rfl
theorem chk18 : chkF Go.Proofs.Try.prog nu Go.Proofs.Try.f18 sf111 = true := by kernel_rfl
theorem chk19 : chkF Go.Proofs.Try.prog nu Go.Proofs.Try.f19 sf112 = true := by kernel_rfl
theorem chk20 : chkF Go.Proofs.Try.prog nu Go.Proofs.Try.f20 sf113 = true := by kernel_rfl
theorem chk21 : chkF Go.Proofs.Try.prog nu Go.Proofs.Try.f21 sf114 = true := by kernel_rfl
theorem chk22 : chkF Go.Proofs.Try.prog nu Go.Proofs.Try.f22 sf115 = true := by kernel_rfl
theorem chk23 : chkF Go.Proofs.Try.prog nu Go.Proofs.Try.f23 sf116 = true := by kernel_rfl
theorem chk24 : chkF Go.Proofs.Try.prog nu Go.Proofs.Try.f24 sf117 = true := by kernel_rfl
theorem chk25 : chkF Go.Proofs.Try.prog nu Go.Proofs.Try.f25 sf118 = true := by kernel_rfl
theorem chk26 : chkF Go.Proofs.Try.prog nu Go.Proofs.Try.f26 sf119 = true := by kernel_rfl
theorem chk27 : chkF Go.Proofs.Try.prog nu Go.Proofs.Try.f27 sf120 = true := by kernel_rfl
theorem chk28 : chkF Go.Proofs.Try.prog nu Go.Proofs.Try.f28 sf122 = true := by kernel_rfl
theorem chk29 : chkF Go.Proofs.Try.prog nu Go.Proofs.Try.f29 sf121 = true := by kernel_rfl
theorem chk30 : chkF Go.Proofs.Try.prog nu Go.Proofs.Try.f30 sf124 = true := by kernel_rfl
theorem chk31 : chkF Go.Proofs.Try.prog nu Go.Proofs.Try.f31 sf123 = true := by kernel_rfl
theorem chk32 : chkF Go.Proofs.Try.prog nu Go.Proofs.Try.f32 sf125 = true := by kernel_rfl
theorem chk33 : chkF Go.Proofs.Try.prog nu Go.Proofs.Try.f33 sf126 = true := by kernel_rfl
theorem chk34 : chkF Go.Proofs.Try.prog nu Go.Proofs.Try.f34 sf138 = true := by kernel_rfl
theorem chk35 : chkF Go.Proofs.Try.prog nu Go.Proofs.Try.f35 sf127 = true := by kernel_rfl
theorem chk36 : chkF Go.Proofs.Try.prog nu Go.Proofs.Try.f36 sf128 = true := by kernel_rfl
theorem chk37 : chkF Go.Proofs.Try.prog nu Go.Proofs.Try.f37 sf129 = true := by kernel_rfl
theorem chk38 : chkF Go.Proofs.Try.prog nu Go.Proofs.Try.f38 sf130 = true := by kernel_rfl
theorem chk39 : chkF Go.Proofs.Try.prog nu Go.Proofs.Try.f39 sf131 = true := by kernel_rfl
theorem chk40 : chkF Go.Proofs.Try.prog nu Go.Proofs.Try.f40 sf132 = true := by kernel_rfl
theorem chk41 : chkF Go.Proofs.Try.prog nu Go.Proofs.Try.f41 sf133 = true := by kernel_rfl
theorem chk42 : chkF Go.Proofs.Try.prog nu Go.Proofs.Try.f42 sf134 = true := by kernel_rfl
theorem chk43 : chkF Go.Proofs.Try.prog nu Go.Proofs.Try.f43 sf135 = true := by kernel_rfl
theorem chk44 : chkF Go.Proofs.Try.prog nu Go.Proofs.Try.f44 sf136 = true := by kernel_rfl
theorem chk45 : chkF Go.Proofs.Try.prog nu Go.Proofs.Try.f45 sf137 = true := by kernel_rfl
theorem chk46 : chkF Go.Proofs.Try.prog nu Go.Proofs.Try.f46 sf141 = true := by kernel_rfl
theorem chk47 : chkF Go.Proofs.Try.prog nu Go.Proofs.Try.f47 sf140 = true := by kernel_rfl
theorem chk48 : chkF Go.Proofs.Try.prog nu Go.Proofs.Try.f48 sf139 = true := by kernel_rfl
theorem chk49 : chkF Go.Proofs.Try.prog nu Go.Proofs.Try.f49 sf142 = true := by kernel_rfl

theorem lk_all {α : Type} {p : Nat → α → Prop} : ∀ {l : List (Nat × α)}, (∀ q ∈ l, p q.1 q.2) → ∀ n a, lk l n = some a → p n a
  | [], _, n, a, h => by simp [lk] at h
  | (k, b) :: l, hp, n, a, h => by
    simp only [lk] at h
    split at h
    · rename_i hk; subst hk; simp only [Option.some.injEq] at h; subst h; exact hp (k, b) (by simp)
    · exact lk_all (fun q hq => hp q (by simp [hq])) n a h

noncomputable def linked : Linked code where
  P := Go.Proofs.Try.prog
  ν := nu
  mixed := by kernel_rfl
  link := by
    refine lk_all (l := nuTab) ?_
    intro q hq
    simp only [nuTab, List.mem_cons, List.not_mem_nil, or_false] at hq
    rcases hq with rfl | rfl | rfl | rfl | rfl | rfl | rfl | rfl | rfl | rfl | rfl | rfl | rfl | rfl | rfl | rfl | rfl | rfl | rfl | rfl | rfl | rfl | rfl | rfl | rfl | rfl | rfl | rfl | rfl | rfl | rfl | rfl | rfl | rfl | rfl | rfl | rfl | rfl | rfl | rfl | rfl | rfl | rfl | rfl | rfl | rfl | rfl
    · exact ⟨Go.Proofs.Try.f3, Go.Proofs.Try.func3, chk3⟩
    · exact ⟨Go.Proofs.Try.f4, Go.Proofs.Try.func4, chk4⟩
    · exact ⟨Go.Proofs.Try.f5, Go.Proofs.Try.func5, chk5⟩
    · exact ⟨Go.Proofs.Try.f6, Go.Proofs.Try.func6, chk6⟩
    · exact ⟨Go.Proofs.Try.f7, Go.Proofs.Try.func7, chk7⟩
    · exact ⟨Go.Proofs.Try.f8, Go.Proofs.Try.func8, chk8⟩
    · exact ⟨Go.Proofs.Try.f9, Go.Proofs.Try.func9, chk9⟩
    · exact ⟨Go.Proofs.Try.f10, Go.Proofs.Try.func10, chk10⟩
    · exact ⟨Go.Proofs.Try.f11, Go.Proofs.Try.func11, chk11⟩
    · exact ⟨Go.Proofs.Try.f12, Go.Proofs.Try.func12, chk12⟩
    · exact ⟨Go.Proofs.Try.f13, Go.Proofs.Try.func13, chk13⟩
    · exact ⟨Go.Proofs.Try.f14, Go.Proofs.Try.func14, chk14⟩
    · exact ⟨Go.Proofs.Try.f15, Go.Proofs.Try.func15, chk15⟩
    · exact ⟨Go.Proofs.Try.f16, Go.Proofs.Try.func16, chk16⟩
    · exact ⟨Go.Proofs.Try.f17, Go.Proofs.Try.func17, chk17⟩
    · exact ⟨Go.Proofs.Try.f18, Go.Proofs.Try.func18, chk18⟩
    · exact ⟨Go.Proofs.Try.f19, Go.Proofs.Try.func19, chk19⟩
    · exact ⟨Go.Proofs.Try.f20, Go.Proofs.Try.func20, chk20⟩
    · exact ⟨Go.Proofs.Try.f21, Go.Proofs.Try.func21, chk21⟩
    · exact ⟨Go.Proofs.Try.f22, Go.Proofs.Try.func22, chk22⟩
    · exact ⟨Go.Proofs.Try.f23, Go.Proofs.Try.func23, chk23⟩
    · exact ⟨Go.Proofs.Try.f24, Go.Proofs.Try.func24, chk24⟩
    · exact ⟨Go.Proofs.Try.f25, Go.Proofs.Try.func25, chk25⟩
    · exact ⟨Go.Proofs.Try.f26, Go.Proofs.Try.func26, chk26⟩
    · exact ⟨Go.Proofs.Try.f27, Go.Proofs.Try.func27, chk27⟩
    · exact ⟨Go.Proofs.Try.f28, Go.Proofs.Try.func28, chk28⟩
    · exact ⟨Go.Proofs.Try.f29, Go.Proofs.Try.func29, chk29⟩
    · exact ⟨Go.Proofs.Try.f30, Go.Proofs.Try.func30, chk30⟩
    · exact ⟨Go.Proofs.Try.f31, Go.Proofs.Try.func31, chk31⟩
    · exact ⟨Go.Proofs.Try.f32, Go.Proofs.Try.func32, chk32⟩
    · exact ⟨Go.Proofs.Try.f33, Go.Proofs.Try.func33, chk33⟩
    · exact ⟨Go.Proofs.Try.f34, Go.Proofs.Try.func34, chk34⟩
    · exact ⟨Go.Proofs.Try.f35, Go.Proofs.Try.func35, chk35⟩
    · exact ⟨Go.Proofs.Try.f36, Go.Proofs.Try.func36, chk36⟩
    · exact ⟨Go.Proofs.Try.f37, Go.Proofs.Try.func37, chk37⟩
    · exact ⟨Go.Proofs.Try.f38, Go.Proofs.Try.func38, chk38⟩
    · exact ⟨Go.Proofs.Try.f39, Go.Proofs.Try.func39, chk39⟩
    · exact ⟨Go.Proofs.Try.f40, Go.Proofs.Try.func40, chk40⟩
    · exact ⟨Go.Proofs.Try.f41, Go.Proofs.Try.func41, chk41⟩
    · exact ⟨Go.Proofs.Try.f42, Go.Proofs.Try.func42, chk42⟩
    · exact ⟨Go.Proofs.Try.f43, Go.Proofs.Try.func43, chk43⟩
    · exact ⟨Go.Proofs.Try.f44, Go.Proofs.Try.func44, chk44⟩
    · exact ⟨Go.Proofs.Try.f45, Go.Proofs.Try.func45, chk45⟩
    · exact ⟨Go.Proofs.Try.f46, Go.Proofs.Try.func46, chk46⟩
    · exact ⟨Go.Proofs.Try.f47, Go.Proofs.Try.func47, chk47⟩
    · exact ⟨Go.Proofs.Try.f48, Go.Proofs.Try.func48, chk48⟩
    · exact ⟨Go.Proofs.Try.f49, Go.Proofs.Try.func49, chk49⟩

end Sm
