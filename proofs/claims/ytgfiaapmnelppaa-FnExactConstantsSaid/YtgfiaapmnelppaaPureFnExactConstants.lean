/- FnExactConstants: the program's constants are the reference's. No condition. -/
import Derived.Test.YtgfiaapmnelppaaPFnExactConstantsx1
set_option linter.unusedVariables false
set_option linter.unusedSimpArgs false
namespace Go.Proofs.Ytgfiaapmnelppaa.Pure.InFnExactConstants
open Go.RowKit Go.Proofs.Ytgfiaapmnelppaa.PFnExactConstants Go.Proofs.YtgfiaapmnelppaaW.PrintWords Go.Proofs.YtgfiaapmnelppaaW.PrintLast Go.Proofs.YtgfiaapmnelppaaW.PrintMore

theorem wr {x : Int} (h1 : -9223372036854775808 ≤ x) (h2 : x ≤ 9223372036854775807) : wrap64 x = x := by unfold wrap64; omega
theorem wfB {a : Int} (h : (Lit.int .i64 a).wf = true) : -9223372036854775808 ≤ a ∧ a ≤ 9223372036854775807 := by
  have h' := h
  simp only [Lit.wf, Bool.and_eq_true, decide_eq_true_eq] at h'
  exact h'
/-- A trit. -/
def isT (a : Int) : Bool := decide (-1 ≤ a ∧ a ≤ 1)
theorem isT_iff {a : Int} : isT a = true ↔ (-1 ≤ a ∧ a ≤ 1) := by simp [isT]

theorem FnExactConstants : laws_FnExactConstants.Pure := rfl

end Go.Proofs.Ytgfiaapmnelppaa.Pure.InFnExactConstants
namespace Go.Proofs.Ytgfiaapmnelppaa.Pure
theorem FnExactConstants : PFnExactConstants.laws_FnExactConstants.Pure := InFnExactConstants.FnExactConstants
end Go.Proofs.Ytgfiaapmnelppaa.Pure
