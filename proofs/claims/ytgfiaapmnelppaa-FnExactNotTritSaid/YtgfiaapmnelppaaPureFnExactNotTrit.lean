/- FnExactNotTrit: NotTrit of program and reference agree for every number. No condition. -/
import Derived.Test.YtgfiaapmnelppaaPFnExactNotTritx1
set_option linter.unusedVariables false
set_option linter.unusedSimpArgs false
namespace Go.Proofs.Ytgfiaapmnelppaa.Pure.InFnExactNotTrit
open Go.RowKit Go.Proofs.Ytgfiaapmnelppaa.PFnExactNotTrit Go.Proofs.YtgfiaapmnelppaaW.PrintWords Go.Proofs.YtgfiaapmnelppaaW.PrintLast Go.Proofs.YtgfiaapmnelppaaW.PrintMore

theorem wr {x : Int} (h1 : -9223372036854775808 ≤ x) (h2 : x ≤ 9223372036854775807) : wrap64 x = x := by unfold wrap64; omega
theorem wfB {a : Int} (h : (Lit.int .i64 a).wf = true) : -9223372036854775808 ≤ a ∧ a ≤ 9223372036854775807 := by
  have h' := h
  simp only [Lit.wf, Bool.and_eq_true, decide_eq_true_eq] at h'
  exact h'
/-- A trit. -/
def isT (a : Int) : Bool := decide (-1 ≤ a ∧ a ≤ 1)
theorem isT_iff {a : Int} : isT a = true ↔ (-1 ≤ a ∧ a ≤ 1) := by simp [isT]

theorem spec_l1In_t (a b c : Int) : spec_l1In.f a b c = some (decide (b ≤ a ∧ a ≤ c)) := by
  unfold spec_l1In.f
  by_cases h : a ≥ b
  · have h' : b ≤ a := h
    rw [if_pos h]; simp [h']
  · have h' : ¬ b ≤ a := h
    rw [if_neg h]; simp [h']

theorem spec_IsTrit_t (a : Int) : spec_IsTrit.f a = some (isT a) := by
  unfold spec_IsTrit.f; rw [spec_l1In_t]; rfl

theorem impl_IsTrit_t (a : Int) : impl_IsTrit.f a = some (isT a) := by
  unfold impl_IsTrit.f isT
  by_cases h : a ≥ -1
  · have h' : -1 ≤ a := h
    rw [if_pos h]; simp [h']
  · have h' : ¬ -1 ≤ a := h
    rw [if_neg h]; simp [h']

theorem FnExactNotTrit : laws_FnExactNotTrit.Pure := by
  intro a _
  unfold laws_FnExactNotTrit.f spec_NotTrit.f impl_NotTrit.f
  rw [spec_IsTrit_t, impl_IsTrit_t]; cases isT a <;> simp

end Go.Proofs.Ytgfiaapmnelppaa.Pure.InFnExactNotTrit
namespace Go.Proofs.Ytgfiaapmnelppaa.Pure
theorem FnExactNotTrit : PFnExactNotTrit.laws_FnExactNotTrit.Pure := InFnExactNotTrit.FnExactNotTrit
end Go.Proofs.Ytgfiaapmnelppaa.Pure
