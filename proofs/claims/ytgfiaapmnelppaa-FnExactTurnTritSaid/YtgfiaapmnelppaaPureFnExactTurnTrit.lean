/- FnExactTurnTrit: TurnTrit of program and reference agree for every number. No condition. -/
import Derived.Test.YtgfiaapmnelppaaPFnExactTurnTritx1
set_option linter.unusedVariables false
set_option linter.unusedSimpArgs false
namespace Go.Proofs.Ytgfiaapmnelppaa.Pure.InFnExactTurnTrit
open Go.RowKit Go.Proofs.Ytgfiaapmnelppaa.PFnExactTurnTrit Go.Proofs.YtgfiaapmnelppaaW.PrintWords Go.Proofs.YtgfiaapmnelppaaW.PrintLast Go.Proofs.YtgfiaapmnelppaaW.PrintMore

theorem wr {x : Int} (h1 : -9223372036854775808 ≤ x) (h2 : x ≤ 9223372036854775807) : wrap64 x = x := by unfold wrap64; omega
theorem wfB {a : Int} (h : (Lit.int .i64 a).wf = true) : -9223372036854775808 ≤ a ∧ a ≤ 9223372036854775807 := by
  have h' := h
  simp only [Lit.wf, Bool.and_eq_true, decide_eq_true_eq] at h'
  exact h'
/-- A trit. -/
def isT (a : Int) : Bool := decide (-1 ≤ a ∧ a ≤ 1)
theorem isT_iff {a : Int} : isT a = true ↔ (-1 ≤ a ∧ a ≤ 1) := by simp [isT]

theorem spec_l1In_t (a b c : Int) : spec_l1In.f a b c = some (decide (b ≤ a ∧ a ≤ c)) := by
  unfold spec_l1In.f
  by_cases h : a ≥ b
  · have h' : b ≤ a := h
    rw [if_pos h]; simp [h']
  · have h' : ¬ b ≤ a := h
    rw [if_neg h]; simp [h']

theorem spec_IsTrit_t (a : Int) : spec_IsTrit.f a = some (isT a) := by
  unfold spec_IsTrit.f; rw [spec_l1In_t]; rfl

theorem impl_IsTrit_t (a : Int) : impl_IsTrit.f a = some (isT a) := by
  unfold impl_IsTrit.f isT
  by_cases h : a ≥ -1
  · have h' : -1 ≤ a := h
    rw [if_pos h]; simp [h']
  · have h' : ¬ -1 ≤ a := h
    rw [if_neg h]; simp [h']

/-- The trit of a small number, and the carry. -/
def crd (n : Int) : Int × Int := if n > 1 then (n - 3, 1) else if n < -1 then (n + 3, -1) else (n, 0)
theorem impl_carried_t (n : Int) (h : -1000 ≤ n ∧ n ≤ 1000) : impl_carried.f n = some (crd n) := by
  unfold impl_carried.f crd
  by_cases h1 : n > 1
  · rw [if_pos h1, if_pos h1, wr (by omega) (by omega)]
  · rw [if_neg h1, if_neg h1]
    by_cases h2 : n < -1
    · rw [if_pos h2, if_pos h2, wr (by omega) (by omega)]
    · rw [if_neg h2, if_neg h2]

theorem FnExactTurnTrit : laws_FnExactTurnTrit.Pure := by
  intro a _
  unfold laws_FnExactTurnTrit.f spec_TurnTrit.f impl_TurnTrit.f
  rw [spec_IsTrit_t, impl_IsTrit_t]
  by_cases h : isT a = true
  · have hb := isT_iff.mp h
    rw [wr (by omega) (by omega), impl_carried_t _ (by omega), h]
    obtain rfl | rfl | rfl : a = -1 ∨ a = 0 ∨ a = 1 := by omega
    all_goals rfl
  · have h' : isT a = false := by simpa using h
    rw [h']; rfl

end Go.Proofs.Ytgfiaapmnelppaa.Pure.InFnExactTurnTrit
namespace Go.Proofs.Ytgfiaapmnelppaa.Pure
theorem FnExactTurnTrit : PFnExactTurnTrit.laws_FnExactTurnTrit.Pure := InFnExactTurnTrit.FnExactTurnTrit
end Go.Proofs.Ytgfiaapmnelppaa.Pure
