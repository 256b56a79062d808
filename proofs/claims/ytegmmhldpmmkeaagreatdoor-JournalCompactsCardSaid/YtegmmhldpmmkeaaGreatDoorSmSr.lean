/-
  Sr
-/
import Derived.Test.YtegmmhldpmmkeaaGreatDoorSmCl
import Derived.Test.YtegmmhldpmmkeaaGreatDoorSmSc
import Derived.Test.YtegmmhldpmmkeaaGreatDoorSmSk
import Derived.Test.YtegmmhldpmmkeaaGreatDoorSmSl
import Derived.Test.YtegmmhldpmmkeaaGreatDoorSmLink
set_option linter.unusedVariables false
set_option maxRecDepth 100000
namespace Sm
open Go Go.Proofs Go.Maps
theorem sortAt104 : SortAt1 Tryz.prog 104 where
 non := AnyF.slices_SortFunc_none { YtegmmhldpmmkeaaGreatDoor.sortE with }
 srt := fun enc h1 cf hO g cb blk off cap d w eg hcmp hH hblk hsz => Any.slices_SortFunc YtegmmhldpmmkeaaGreatDoor.sortE enc h1 cf hO g cb blk off cap d w eg hcmp hH hblk hsz
theorem colAt : ColAt Tryz.prog 102 154 := ⟨_, YtegmmhldpmmkeaaGreatDoor.colE.t26, fun R w Bm b nn D0 hB hc ho hs => by
 refine (CallsIn.calls (F := Fence.wide) (AnyZ.collect_in YtegmmhldpmmkeaaGreatDoor.colE Fence.wide 3 trivial trivial rfl (Nat.le_refl _) 154 #[.pointer (some ⟨Bm, 0, none⟩)] trivial (YtegmmhldpmmkeaaGreatDoor.keysE.f10.enters rfl) (fun ss => ss.Perm (strKeys D0)) (Maps.size D0)
   (Nat.le_trans hs (by decide)) (Nat.le_trans (Nat.mul_le_mul_right 16 hs) (by decide)) w (AnyZ.keys_gives YtegmmhldpmmkeaaGreatDoor.keysE Fence.wide 1 trivial rfl (Nat.le_refl _) Bm b nn D0 w hB hc ho)) (fun k => by simp [Fence.room, Fence.wide])).mono ?_
 rintro e w' ⟨v, ss, he, hS, hrow, _, hb⟩
 exact ⟨v, ss, he, hS, hrow, hb⟩⟩
def nuTabQ : List (Nat × Nat) := [(105, 363), (106, 163), (157, 182), (158, 181), (205, 196), (206, 195), (236, 205), (237, 204), (258, 214), (259, 218), (270, 219), (273, 221)]
def nuQ : Nat → Option Nat := lk nuTabQ
theorem chkQ105 : chkF Tryz.prog nuQ Tryz.f105 sf363 = true := by kernel_rfl
theorem chkQ106 : chkF Tryz.prog nuQ Tryz.f106 sf163 = true := by kernel_rfl
theorem chkQ157 : chkF Tryz.prog nuQ Tryz.f157 sf182 = true := by kernel_rfl
theorem chkQ158 : chkF Tryz.prog nuQ Tryz.f158 sf181 = true := by kernel_rfl
theorem chkQ205 : chkF Tryz.prog nuQ Tryz.f205 sf196 = true := by kernel_rfl
theorem chkQ206 : chkF Tryz.prog nuQ Tryz.f206 sf195 = true := by kernel_rfl
theorem chkQ236 : chkF Tryz.prog nuQ Tryz.f236 sf205 = true := by kernel_rfl
theorem chkQ237 : chkF Tryz.prog nuQ Tryz.f237 sf204 = true := by kernel_rfl
theorem chkQ258 : chkF Tryz.prog nuQ Tryz.f258 sf214 = true := by kernel_rfl
theorem chkQ259 : chkF Tryz.prog nuQ Tryz.f259 sf218 = true := by kernel_rfl
theorem chkQ270 : chkF Tryz.prog nuQ Tryz.f270 sf219 = true := by kernel_rfl
theorem chkQ273 : chkF Tryz.prog nuQ Tryz.f273 sf221 = true := by kernel_rfl
noncomputable def linkedQ : Linked code where
 P := Tryz.prog
 ν := nuQ
 mixed := by kernel_rfl
 link := by
   refine fun n g h => lk_all (p := fun n g => ∃ f, Tryz.prog.funcs[n]? = some f ∧ chkF Tryz.prog nuQ f (code g) = true) (l := nuTabQ) ?_ n g h.1
   intro q hq
   simp only [nuTabQ, List.mem_cons, List.not_mem_nil, or_false] at hq
   rcases hq with rfl | rfl | rfl | rfl | rfl | rfl | rfl | rfl | rfl | rfl | rfl | rfl
   · exact ⟨Tryz.f105, Tryz.func105, chkQ105⟩
   · exact ⟨Tryz.f106, Tryz.func106, chkQ106⟩
   · exact ⟨Tryz.f157, Tryz.func157, chkQ157⟩
   · exact ⟨Tryz.f158, Tryz.func158, chkQ158⟩
   · exact ⟨Tryz.f205, Tryz.func205, chkQ205⟩
   · exact ⟨Tryz.f206, Tryz.func206, chkQ206⟩
   · exact ⟨Tryz.f236, Tryz.func236, chkQ236⟩
   · exact ⟨Tryz.f237, Tryz.func237, chkQ237⟩
   · exact ⟨Tryz.f258, Tryz.func258, chkQ258⟩
   · exact ⟨Tryz.f259, Tryz.func259, chkQ259⟩
   · exact ⟨Tryz.f270, Tryz.func270, chkQ270⟩
   · exact ⟨Tryz.f273, Tryz.func273, chkQ273⟩
theorem lk_mem {g : Nat} : ∀ {tab : List (Nat × Nat)} {n : Nat}, lk tab n = some g → (n, g) ∈ tab
 | [], n, h => by simp [lk] at h
 | p :: tab, n, h => by
   rw [lk] at h
   split at h
   · rename_i h1
     obtain ⟨a, b⟩ := p
     simp only [Option.some.injEq] at h h1
     subst h
     simp_all
   · exact List.mem_cons_of_mem _ (lk_mem h)
theorem only {g n k : Nat} (hk : (nuTab.all fun p => !(p.2 == g) || p.1 == k) = true) (h : linked.ν n = some g) : n = k := by
 have h4 := List.all_eq_true.mp hk _ (lk_mem h)
 simpa using h4
theorem partQ : Part linked linkedQ 363 where
 P := rfl
 q := fun n h => by
   have h3 : (nuTabQ.all fun p => !(p.2 == 90)) = true := by decide +kernel
   have h4 := List.all_eq_true.mp h3 _ (lk_mem h)
   simp at h4
 c := fun n h => by
   have h2 : n = 105 := only (g := 363) (by decide +kernel) h.1
   subst h2; exact ⟨rfl, h.2⟩
 t := fun n j h => by
   have h3 : (nuTabQ.all fun p => decide (p.1 < 1000000)) = true := by decide +kernel
   have h4 := List.all_eq_true.mp h3 _ (lk_mem h)
   have h5 : gOff + n < 1000000 := of_decide_eq_true h4
   have h6 : gOff = 1000000 := rfl
   omega
noncomputable def cl : Cl linked where
 cl := collect_spec linked (gk := 369) fun nn h1 mm h2 => by
   have e1 : nn = 102 := only (by decide +kernel) h1
   have e2 : mm = 154 := only (by decide +kernel) h2
   subst e1 e2
   exact colAt
 s1 := fun n h => by
   have e1 : n = 104 := only (by decide +kernel) h
   subst e1
   exact sortAt104
 Q := linkedQ
 pt := partQ
end Sm
