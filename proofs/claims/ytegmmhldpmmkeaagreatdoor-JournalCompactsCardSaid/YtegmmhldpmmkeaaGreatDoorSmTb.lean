/-
  Tb
-/
import Derived.Test.YtegmmhldpmmkeaaGreatDoorSmGC
import Derived.Test.YtegmmhldpmmkeaaGreatDoorSmSr
import Derived.Lib.LaidTab
import Derived.Lib.ItoaMem
import Derived.Stop.LaidErr
set_option linter.unusedVariables false
set_option maxRecDepth 100000
namespace Sm
open Go Go.Proofs Go.RowKit
theorem repL_ints {ν : Nat → Option Nat} {K : Nat → Nat} {w : World} (k : IntKind) : ∀ l : List Nat, repL ν K w (l.map fun n : Nat => HV.v (.int k (n : Int))) (l.map fun n : Nat => Value.int k (n : Int))
 | [] => rfl
 | n :: l => ⟨_, _, rfl, rfl, repL_ints k l⟩
theorem one_ints (k : IntKind) : ∀ l : List Nat, (l.map fun n : Nat => HV.v (.int k (n : Int))).all HV.one = true
 | [] => rfl
 | n :: l => by rw [List.map_cons, List.all_cons, one_ints k l]; rfl
theorem tab_one {ν : Nat → Option Nat} {P : Program} {W : World} {name : String} {k : IntKind} {l : List Nat} {zs : List Int} {g : Nat} (hz : zs = l.map fun n : Nat => (n : Int)) (h : Lib.TabIs P W name k zs) (hg : P.globalNamed name = some g) (hl : 0 < l.length) :
   rep ν (sizes' W) W (.rp (l.map fun n : Nat => HV.v (.int k (n : Int)))) (.pointer (some ⟨g, 0, none⟩)) := by
 have hc : ∀ i (hi : i < l.length), W.cell? ⟨g, i, none⟩ = some (.int k ((l[i] : Nat) : Int)) := fun i hi => by
   have := h.cell hg i (by rw [hz, List.length_map]; exact hi)
   rw [this, hz]
   simp [List.getD, hi]
 refine ⟨g, 0, l.map fun n : Nat => Value.int k (n : Int), rfl, one_ints k l, repL_ints k l, ?_, fun j x hx => ?_⟩
 · have := cell_lt (hc (l.length - 1) (by omega))
   rw [List.length_map]; omega
 · rw [List.getElem?_map] at hx
   cases hj : l[j]? with
   | none => rw [hj] at hx; cases hx
   | some n =>
     rw [hj] at hx
     obtain ⟨hlt, rfl⟩ := List.getElem?_eq_some_iff.mp hj
     rw [Nat.zero_add, hc j hlt]
     exact hx
def crcTab : List Int := crcNat.map fun n : Nat => (n : Int)
theorem tabs_of {W : World} (h1 : Lib.TabIs Tryz.prog W "internal/strconv.uint64pow10" .u64 Lib.pow10Tab) (h2 : Lib.TabIs Tryz.prog W "sumpter/crc.table" .u32 crcTab) : Tabs nu (sizes' W) W := by
 intro n j h
 have hm := lk_mem h
 have hall : (nuTab.all fun p => decide (p.1 < 1000000) || (p == (1000000, 1000001) || p == (1000001, 1000000))) = true := by decide +kernel
 have h3 := List.all_eq_true.mp hall _ hm
 simp only [Bool.or_eq_true, beq_iff_eq, Prod.mk.injEq] at h3
 have hg : gOff = 1000000 := rfl
 rcases h3 with h3 | h3 | h3
 · have h3 : gOff + n < 1000000 := of_decide_eq_true h3
   omega
 · have e1 : n = 0 := by omega
   have e2 : j = 1 := by omega
   subst e1 e2
   exact tab_one (l := tenNat) (by decide +kernel) h1 (by kernel_rfl) (by decide)
 · have e1 : n = 1 := by omega
   have e2 : j = 0 := by omega
   subst e1 e2
   exact tab_one (l := crcNat) rfl h2 (by kernel_rfl) (by decide)
end Sm
