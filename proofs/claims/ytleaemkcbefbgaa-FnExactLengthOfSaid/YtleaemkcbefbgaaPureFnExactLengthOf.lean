/- FnExactLengthOf: LengthOf of program and reference agree for every number. No condition. -/
import Derived.Test.YtleaemkcbefbgaaPFnExactLengthOfx1
set_option linter.unusedVariables false
set_option linter.unusedSimpArgs false
namespace Go.Proofs.Ytleaemkcbefbgaa.Pure.InFnExactLengthOf
open Go.RowKit Go.Proofs.Ytleaemkcbefbgaa.PFnExactLengthOf Go.Proofs.YtleaemkcbefbgaaW.PrintWords Go.Proofs.YtleaemkcbefbgaaW.PrintLast Go.Proofs.YtleaemkcbefbgaaW.PrintMore

theorem wr {x : Int} (h1 : -9223372036854775808 ≤ x) (h2 : x ≤ 9223372036854775807) : wrap64 x = x := by unfold wrap64; omega
theorem wfB {a : Int} (h : (Lit.int .i64 a).wf = true) : -9223372036854775808 ≤ a ∧ a ≤ 9223372036854775807 := by
  have h' := h
  simp only [Lit.wf, Bool.and_eq_true, decide_eq_true_eq] at h'
  exact h'
/-- A trit. -/
def isT (a : Int) : Bool := decide (-1 ≤ a ∧ a ≤ 1)
theorem isT_iff {a : Int} : isT a = true ↔ (-1 ≤ a ∧ a ≤ 1) := by simp [isT]

/-- (3^k - 1) / 2. -/
def lim : Nat → Int
  | 0 => 0
  | k + 1 => 3 * lim k + 1
/-- 3^k. -/
def pw : Nat → Int
  | 0 => 1
  | k + 1 => pw k * 3
theorem pw_lim (k : Nat) : pw k = 2 * lim k + 1 := by
  induction k with
  | zero => rfl
  | succ k ih => simp only [pw, lim]; omega
theorem lim_mono {j k : Nat} (h : j ≤ k) : lim j ≤ lim k := by
  induction k with
  | zero => have : j = 0 := by omega
            subst this; exact Int.le_refl _
  | succ k ih =>
    by_cases e : j = k + 1
    · subst e; exact Int.le_refl _
    · have := ih (by omega)
      have h0 : ∀ m, 0 ≤ lim m := by
        intro m; induction m with
        | zero => exact Int.le_refl _
        | succ m im => simp only [lim]; omega
      have := h0 k
      simp only [lim]; omega
theorem lim_nonneg (k : Nat) : 0 ≤ lim k := lim_mono (Nat.zero_le k)
theorem lim30 : lim 30 = 102945566047324 := by decide
theorem lim_le {k : Nat} (h : k ≤ 30) : lim k ≤ 102945566047324 := by rw [← lim30]; exact lim_mono h
/-- LimitOf. -/
def limOf (k : Int) : Int := if 1 ≤ k ∧ k ≤ 30 then lim k.toNat else 0

theorem spec_l1In_t (a b c : Int) : spec_l1In.f a b c = some (decide (b ≤ a ∧ a ≤ c)) := by
  unfold spec_l1In.f
  by_cases h : a ≥ b
  · have h' : b ≤ a := h
    rw [if_pos h]; simp [h']
  · have h' : ¬ b ≤ a := h
    rw [if_neg h]; simp [h']

theorem spec_LimitOf_l0 (n : Nat) (hn : n ≤ 30) (d : Nat) : ∀ (k j : Nat), j + d = n → d < k →
    spec_LimitOf.l0 k (n : Int) (lim j) (j : Int) = some (lim n) := by
  induction d with
  | zero =>
    intro k j hj hk
    obtain ⟨k, rfl⟩ : ∃ m, k = m + 1 := ⟨k - 1, by omega⟩
    simp only [spec_LimitOf.l0]
    rw [if_neg (by omega), show j = n by omega]
  | succ d ih =>
    intro k j hj hk
    obtain ⟨k, rfl⟩ : ∃ m, k = m + 1 := ⟨k - 1, by omega⟩
    simp only [spec_LimitOf.l0]
    have := lim_le (k := j) (by omega)
    have := lim_nonneg j
    rw [if_pos (by omega), wr (x := 3 * lim j) (by omega) (by omega), wr (x := 3 * lim j + 1) (by omega) (by omega), wr (by omega) (by omega)]
    have e := ih k (j + 1) (by omega) (by omega)
    exact_mod_cast e
theorem spec_LimitOf_t (k : Nat) (hk : 31 < k) (n : Int) : spec_LimitOf.f k n = some (limOf n) := by
  unfold spec_LimitOf.f limOf
  rw [spec_l1In_t]; simp only [Option.bind_some]
  by_cases h : 1 ≤ n ∧ n ≤ 30
  · rw [if_pos (by simpa using h), if_pos h]
    obtain ⟨m, rfl⟩ : ∃ m : Nat, n = m := ⟨n.toNat, by omega⟩
    have e := spec_LimitOf_l0 m (by omega) m k 0 (by omega) (by omega)
    simpa [lim] using e
  · rw [if_neg (by simpa using h), if_neg h]

theorem impl_power_l0 (n : Nat) (hn : n ≤ 38) (d : Nat) : ∀ (k j : Nat), j + d = n → d < k →
    impl_power.l0 k (pw j) (n : Int) (j : Int) = some (pw n) := by
  induction d with
  | zero =>
    intro k j hj hk
    obtain ⟨k, rfl⟩ : ∃ m, k = m + 1 := ⟨k - 1, by omega⟩
    simp only [impl_power.l0]
    rw [if_neg (by omega), show j = n by omega]
  | succ d ih =>
    intro k j hj hk
    obtain ⟨k, rfl⟩ : ∃ m, k = m + 1 := ⟨k - 1, by omega⟩
    simp only [impl_power.l0]
    have h1 := lim_mono (j := j) (k := 37) (by omega)
    have h2 : lim 37 = 225141952945498681 := by decide
    have := lim_nonneg j
    have h3 := pw_lim j
    rw [if_pos (by omega), wr (x := pw j * 3) (by omega) (by omega), wr (by omega) (by omega)]
    have e := ih k (j + 1) (by omega) (by omega)
    exact_mod_cast e
theorem impl_power_t (k : Nat) (n : Nat) (hn : n ≤ 38) (hk : n < k) : impl_power.f k (n : Int) = some (pw n) := by
  have e := impl_power_l0 n hn n k 0 (by omega) hk
  unfold impl_power.f; simpa [pw] using e

theorem impl_LimitOf_t (k : Nat) (hk : 31 < k) (n : Int) : impl_LimitOf.f k n = some (limOf n) := by
  unfold impl_LimitOf.f limOf
  by_cases h1 : n < 1
  · rw [if_pos h1, if_neg (by omega)]
  · rw [if_neg h1]
    by_cases h2 : n > 30
    · rw [if_pos h2, if_neg (by omega)]
    · rw [if_neg h2, if_pos (by omega)]
      obtain ⟨m, rfl⟩ : ∃ m : Nat, n = m := ⟨n.toNat, by omega⟩
      have hm : m ≤ 30 := by omega
      rw [impl_power_t k m (by omega) (by omega)]
      have h3 := pw_lim m
      have := lim_le hm
      have := lim_nonneg m
      simp only [Option.bind_some, Int.toNat_natCast]
      rw [wr (x := pw m - 1) (by omega) (by omega), h3, Int.tdiv_eq_ediv_of_nonneg (by omega), wr (by omega) (by omega)]
      congr 1; omega

theorem limOf_nonneg (k : Int) : 0 ≤ limOf k ∧ limOf k ≤ 102945566047324 := by
  unfold limOf; split
  · exact ⟨lim_nonneg _, lim_le (by omega)⟩
  · omega

theorem impl_fits_t (k : Nat) (hk : 31 < k) (n m : Int) : impl_fits.f k n m = some (decide (-limOf m ≤ n ∧ n ≤ limOf m)) := by
  unfold impl_fits.f
  have := limOf_nonneg m
  rw [impl_LimitOf_t k hk]; simp only [Option.bind_some]
  rw [wr (by omega) (by omega)]
  by_cases h : n ≥ -limOf m
  · have h' : -limOf m ≤ n := h
    rw [if_pos h]; simp [h']
  · have h' : ¬ -limOf m ≤ n := h
    rw [if_neg h]; simp only [h', false_and, decide_false]

theorem step_l0 (n : Int) (d : Nat) : ∀ (k : Nat) (i : Int), 1 ≤ i → i + d = 31 → d + 32 < k → ∃ r, spec_LengthOf.l0 k n i = some r ∧ impl_LengthOf.l0 k n i = some r := by
  induction d with
  | zero =>
    intro k i h1 hi hk
    obtain ⟨k, rfl⟩ : ∃ m, k = m + 1 := ⟨k - 1, by omega⟩
    simp only [spec_LengthOf.l0, impl_LengthOf.l0]
    rw [if_neg (by omega), if_neg (by omega)]; exact ⟨0, rfl, rfl⟩
  | succ d ih =>
    intro k i h1 hi hk
    obtain ⟨k, rfl⟩ : ∃ m, k = m + 1 := ⟨k - 1, by omega⟩
    simp only [spec_LengthOf.l0, impl_LengthOf.l0]
    have := limOf_nonneg i
    rw [if_pos (by omega), if_pos (by omega), spec_LimitOf_t k (by omega), impl_fits_t k (by omega)]
    simp only [Option.bind_some, spec_l1In_t]
    rw [wr (x := -limOf i) (by omega) (by omega)]
    by_cases h : decide (-limOf i ≤ n ∧ n ≤ limOf i) = true
    · rw [if_pos h, if_pos h]; exact ⟨i, rfl, rfl⟩
    · rw [if_neg h, if_neg h, wr (by omega) (by omega)]; exact ih k (i + 1) (by omega) (by omega) (by omega)
theorem FnExactLengthOf : laws_FnExactLengthOf.Pure := by
  intro n _
  refine ⟨100, ?_⟩
  unfold laws_FnExactLengthOf.f spec_LengthOf.f impl_LengthOf.f
  obtain ⟨r, h1, h2⟩ := step_l0 n 30 100 1 (by omega) (by omega) (by omega)
  rw [h1, h2]; simp

end Go.Proofs.Ytleaemkcbefbgaa.Pure.InFnExactLengthOf
namespace Go.Proofs.Ytleaemkcbefbgaa.Pure
theorem FnExactLengthOf : PFnExactLengthOf.laws_FnExactLengthOf.Pure := InFnExactLengthOf.FnExactLengthOf
end Go.Proofs.Ytleaemkcbefbgaa.Pure
