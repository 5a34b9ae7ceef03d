/- FnExactSignOf: SignOf of program and reference agree for every number. No condition. -/
import Derived.Test.YtgfiaapmnelppaaPFnExactSignOfx1
set_option linter.unusedVariables false
set_option linter.unusedSimpArgs false
namespace Go.Proofs.Ytgfiaapmnelppaa.Pure.InFnExactSignOf
open Go.RowKit Go.Proofs.Ytgfiaapmnelppaa.PFnExactSignOf Go.Proofs.YtgfiaapmnelppaaW.PrintWords Go.Proofs.YtgfiaapmnelppaaW.PrintLast Go.Proofs.YtgfiaapmnelppaaW.PrintMore

theorem wr {x : Int} (h1 : -9223372036854775808 ≤ x) (h2 : x ≤ 9223372036854775807) : wrap64 x = x := by unfold wrap64; omega
theorem wfB {a : Int} (h : (Lit.int .i64 a).wf = true) : -9223372036854775808 ≤ a ∧ a ≤ 9223372036854775807 := by
  have h' := h
  simp only [Lit.wf, Bool.and_eq_true, decide_eq_true_eq] at h'
  exact h'
/-- A trit. -/
def isT (a : Int) : Bool := decide (-1 ≤ a ∧ a ≤ 1)
theorem isT_iff {a : Int} : isT a = true ↔ (-1 ≤ a ∧ a ≤ 1) := by simp [isT]

/-- The sign of a number. -/
def sgn (n : Int) : Int := if n < 0 then -1 else if n > 0 then 1 else 0
theorem spec_SignOf_t (n : Int) : spec_SignOf.f n = some (sgn n) := by
  unfold spec_SignOf.f sgn; split
  · rfl
  · split <;> rfl
theorem impl_SignOf_t (n : Int) : impl_SignOf.f n = some (sgn n) := by
  unfold impl_SignOf.f sgn; split
  · rfl
  · split <;> rfl

theorem FnExactSignOf : laws_FnExactSignOf.Pure := by
  intro a _
  unfold laws_FnExactSignOf.f
  rw [spec_SignOf_t, impl_SignOf_t]; simp

end Go.Proofs.Ytgfiaapmnelppaa.Pure.InFnExactSignOf
namespace Go.Proofs.Ytgfiaapmnelppaa.Pure
theorem FnExactSignOf : PFnExactSignOf.laws_FnExactSignOf.Pure := InFnExactSignOf.FnExactSignOf
end Go.Proofs.Ytgfiaapmnelppaa.Pure
