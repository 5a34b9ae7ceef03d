/- FnTrits: the laws of trits, their turns and sums hold, whatever the bytes. No condition. -/
import Derived.Test.YtaieeaniadgjiaaQFnTritsx2
set_option linter.unusedVariables false
set_option linter.unusedSimpArgs false
namespace Go.Proofs.Ytaieeaniadgjiaa.Pure.InFnTrits
open Go.RowKit Go.Proofs.Ytaieeaniadgjiaa.QFnTrits Go.Proofs.YtaieeaniadgjiaaW.PrintWords Go.Proofs.YtaieeaniadgjiaaW.PrintLast Go.Proofs.YtaieeaniadgjiaaW.PrintMore

theorem wr {x : Int} (h1 : -9223372036854775808 ≤ x) (h2 : x ≤ 9223372036854775807) : wrap64 x = x := by unfold wrap64; omega
theorem wfB {a : Int} (h : (Lit.int .i64 a).wf = true) : -9223372036854775808 ≤ a ∧ a ≤ 9223372036854775807 := by
  have h' := h
  simp only [Lit.wf, Bool.and_eq_true, decide_eq_true_eq] at h'
  exact h'
/-- A trit. -/
def isT (a : Int) : Bool := decide (-1 ≤ a ∧ a ≤ 1)
theorem isT_iff {a : Int} : isT a = true ↔ (-1 ≤ a ∧ a ≤ 1) := by simp [isT]

theorem walk_all (x : List Int) : laws_FnTrits.l0 120 x [-1, 0, 1] 3 0 = some (decide ((x.length : Int) ≥ 0)) := by kernel_rfl
theorem FnTrits : laws_FnTrits.Pure := by
  intro l h1 h2 h3
  refine ⟨120, ?_⟩
  unfold laws_FnTrits.f
  split
  · rfl
  · have e : laws_trits.f = some [-1, 0, 1] := rfl
    rw [e]; simp only [Option.bind_some]
    have w := walk_all l
    have d : decide ((l.length : Int) ≥ 0) = true := decide_eq_true (by omega)
    rw [d] at w
    exact w

end Go.Proofs.Ytaieeaniadgjiaa.Pure.InFnTrits
namespace Go.Proofs.Ytaieeaniadgjiaa.Pure
theorem FnTrits : QFnTrits.laws_FnTrits.Pure := InFnTrits.FnTrits
end Go.Proofs.Ytaieeaniadgjiaa.Pure
