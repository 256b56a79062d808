/-
  A layer of one's own: texts G9.
-/
import Derived.Test.YtmdfajhlofhmcaaGreatDoorSmGC
import Derived.Test.YtmdfajhlofhmcaaGreatDoorSmTB
import Derived.Test.YtmdfajhlofhmcaaGreatDoorSmDJ
import Derived.Test.YtmdfajhlofhmcaaGreatDoorSmLink
set_option linter.unusedVariables false
namespace Sm
open Go Go.Proofs
theorem cells9 : Tryz.prog.cellsOf 9 = 1 := by kernel_rfl
theorem cells4 : Tryz.prog.cellsOf 4 = 1 := by kernel_rfl
theorem cells3 : Tryz.prog.cellsOf 3 = 1 := by kernel_rfl
theorem cells5 : Tryz.prog.cellsOf 5 = 1 := by kernel_rfl
theorem cells23 : Tryz.prog.cellsOf 23 = 1 := by kernel_rfl
theorem cells25 : Tryz.prog.cellsOf 25 = 6 := by kernel_rfl
theorem opn9 : Opn Tryz.prog nu 9 (fun a : List UInt8 => a.length ≤ 9223372036854775807) (fun a => [S a]) 1 := opn_str Tryz.underlying9
theorem opn23 : Opn Tryz.prog nu 23 (fun l : List UInt8 => ∀ a ∈ l, True) (fun l => [.sl .no 1 (l.map U)]) 1 := opn_sl1 Tryz.underlying23 cells5 (opn_u8 Tryz.underlying5)
def cAk (a : Ak) : List HV := [U a.kind, S a.p, S a.q, .sl .no 1 (a.b.map U), I a.n, B a.done]
theorem opn25 : Opn Tryz.prog nu 25 (fun a : Ak => a.n ≤ 9223372036854775807) cAk 6 := by
  have h := opn_struct (ν := nu) Tryz.underlying25 (n := 1 + (1 + (1 + (1 + (1 + (1 + 0)))))) cells25 (fds_cons rfl cells5 (opn_u8 Tryz.underlying5) (fds_cons rfl cells9 opn9 (fds_cons rfl cells9 opn9 (fds_cons rfl cells23 opn23 (fds_cons rfl cells3 (opn_i64 Tryz.underlying3) (fds_cons rfl cells4 (opn_bool Tryz.underlying4) fds_nil))))))
  exact h.as _ _ (fun p => ⟨p.1, p.2.1, p.2.2.1, p.2.2.2.1, p.2.2.2.2.1, p.2.2.2.2.2.1⟩) (fun p hp => hp.2.2.2.2.1.2) (fun _ => rfl) (fun _ => rfl) (fun _ => rfl)
theorem opn22 : Opn Tryz.prog nu 22 (fun l : List Ak => ∀ a ∈ l, a.n ≤ 9223372036854775807) (fun l => [.sl .no 6 (l.map akV)]) 1 := opn_slag Tryz.underlying22 cells25 (by decide) opn25
theorem opn3 : Opn Tryz.prog nu 3 (fun a : Int => -9223372036854775808 ≤ a ∧ a ≤ 9223372036854775807) (fun a => [I a]) 1 := opn_i64 Tryz.underlying3
theorem opnU16 : Opn Tryz.prog nu 58 (fun a : Int => 0 ≤ a ∧ a ≤ 65535) (fun a => [.v (.int .u16 a)]) 1 := by
  have h := opn_int (ν := nu) (k := .u16) Tryz.underlying58
  refine h.as _ _ id (fun a ha => ?_) (fun _ => rfl) (fun _ => rfl) (fun _ => rfl)
  simp only [Lit.wf, Bool.and_eq_true, decide_eq_true_eq] at ha
  exact ha
end Sm
