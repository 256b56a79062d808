/-
  A layer of one's own: texts G10.
-/
import Derived.Test.YtmdfajhlofhmcaaDoorSmGC
import Derived.Test.YtmdfajhlofhmcaaDoorSmTB
import Derived.Test.YtmdfajhlofhmcaaDoorSmDJ
import Derived.Test.YtmdfajhlofhmcaaDoorSmLink
set_option linter.unusedVariables false
namespace Sm
open Go Go.Proofs
theorem okWide_array {P : Program} {w : World} {r : Reach} {base : Nat} {t : TypeId} {v : Value} {m : Nat} {e : TypeId} (ht : P.underlying t = some (.array m e)) (h : Value.okWide P w r base t v) : ∃ cs, v = .agg cs ∧ cs.size = P.cellsOf t := by
  simp only [Value.okWide, ht] at h
  obtain ⟨cs, h1, h2, _⟩ := h
  exact ⟨cs, h1, h2⟩
theorem cells5 : Tryd.prog.cellsOf 5 = 1 := by kernel_rfl
theorem cells23 : Tryd.prog.cellsOf 23 = 3 := by kernel_rfl
theorem opn22 : Opn Tryd.prog nu 22 (fun l : List UInt8 => ∀ a ∈ l, True) (fun l => [.sl .no 1 (l.map U)]) 1 := opn_sl1 Tryd.underlying22 cells5 (opn_u8 Tryd.underlying5)
theorem opn23 : Opn Tryd.prog nu 23 (fun _ : UInt8 × UInt8 × UInt8 => True) (fun a => [U a.1, U a.2.1, U a.2.2]) 3 :=
  ⟨fun h => by
    obtain ⟨l, hl, _, hr⟩ := opn_arr1 (ν := nu) (ok := fun _ : UInt8 => True) (g := fun a : UInt8 => U a) Tryd.underlying23 cells5 cells23 (opn_u8 Tryd.underlying5) h
    match l, hl, hr with
    | [a, b, c], _, hr => exact ⟨(a, b, c), trivial, hr⟩, fun _ => rfl, fun _ => rfl⟩
end Sm
