/- FnExactFullAdd: FullAdd of program and reference agree for every three numbers. No condition. -/
import Derived.Test.YtleaemkcbefbgaaPFnExactFullAddx1
set_option linter.unusedVariables false
set_option linter.unusedSimpArgs false
namespace Go.Proofs.Ytleaemkcbefbgaa.Pure.InFnExactFullAdd
open Go.RowKit Go.Proofs.Ytleaemkcbefbgaa.PFnExactFullAdd Go.Proofs.YtleaemkcbefbgaaW.PrintWords Go.Proofs.YtleaemkcbefbgaaW.PrintLast Go.Proofs.YtleaemkcbefbgaaW.PrintMore

theorem wr {x : Int} (h1 : -9223372036854775808 ≤ x) (h2 : x ≤ 9223372036854775807) : wrap64 x = x := by unfold wrap64; omega
theorem wfB {a : Int} (h : (Lit.int .i64 a).wf = true) : -9223372036854775808 ≤ a ∧ a ≤ 9223372036854775807 := by
  have h' := h
  simp only [Lit.wf, Bool.and_eq_true, decide_eq_true_eq] at h'
  exact h'
/-- A trit. -/
def isT (a : Int) : Bool := decide (-1 ≤ a ∧ a ≤ 1)
theorem isT_iff {a : Int} : isT a = true ↔ (-1 ≤ a ∧ a ≤ 1) := by simp [isT]

theorem spec_l1In_t (a b c : Int) : spec_l1In.f a b c = some (decide (b ≤ a ∧ a ≤ c)) := by
  unfold spec_l1In.f
  by_cases h : a ≥ b
  · have h' : b ≤ a := h
    rw [if_pos h]; simp [h']
  · have h' : ¬ b ≤ a := h
    rw [if_neg h]; simp [h']

theorem spec_IsTrit_t (a : Int) : spec_IsTrit.f a = some (isT a) := by
  unfold spec_IsTrit.f; rw [spec_l1In_t]; rfl

theorem spec_l1Two_t (a b : Int) : spec_l1Two.f a b = some (isT a && isT b) := by
  unfold spec_l1Two.f; rw [spec_IsTrit_t, spec_IsTrit_t]; cases isT a <;> simp

theorem impl_IsTrit_t (a : Int) : impl_IsTrit.f a = some (isT a) := by
  unfold impl_IsTrit.f isT
  by_cases h : a ≥ -1
  · have h' : -1 ≤ a := h
    rw [if_pos h]; simp [h']
  · have h' : ¬ -1 ≤ a := h
    rw [if_neg h]; simp [h']

theorem rd_nat (l : List Int) (j : Nat) : rd l (j : Int) = l.getD j 0 := by unfold rd; simp
theorem drop_cons (l : List Int) (j : Nat) (h : j < l.length) : l.drop j = l.getD j 0 :: l.drop (j + 1) := by
  rw [List.drop_eq_getElem_cons h]; simp [List.getD_eq_getElem?_getD, h]
theorem take_snoc (l : List Int) (j : Nat) (h : j < l.length) : l.take (j + 1) = l.take j ++ [l.getD j 0] := by
  rw [List.take_succ_eq_append_getElem h]; simp [List.getD_eq_getElem?_getD, h]

theorem impl_trits_l0 (l : List Int) (hl : l.length ≤ 9000000000000000000) (d : Nat) : ∀ (k j : Nat), j + d = l.length → d < k →
    impl_trits.l0 k l (l.length : Int) (j : Int) = some ((l.drop j).all isT) := by
  induction d with
  | zero =>
    intro k j hj hk
    obtain ⟨k, rfl⟩ : ∃ m, k = m + 1 := ⟨k - 1, by omega⟩
    simp only [impl_trits.l0]
    rw [if_neg (by omega), List.drop_eq_nil_of_le (by omega)]; rfl
  | succ d ih =>
    intro k j hj hk
    obtain ⟨k, rfl⟩ : ∃ m, k = m + 1 := ⟨k - 1, by omega⟩
    simp only [impl_trits.l0]
    rw [if_pos (by omega), if_pos (by omega), if_pos (by omega), impl_IsTrit_t, rd_nat, drop_cons l j (by omega)]
    simp only [Option.bind_some, List.all_cons]
    have e := ih k (j + 1) (by omega) (by omega)
    rw [wr (by omega) (by omega)]
    cases isT (l.getD j 0) with
    | false => rfl
    | true => simp only [if_true, Bool.true_and]; exact_mod_cast e
theorem impl_trits_t (k : Nat) (l : List Int) (hl : l.length ≤ 9000000000000000000) (hk : l.length < k) : impl_trits.f k l = some (l.all isT) := by
  have e := impl_trits_l0 l hl l.length k 0 (by omega) hk
  unfold impl_trits.f; simpa using e

/-- The trit of a small number, and the carry. -/
def crd (n : Int) : Int × Int := if n > 1 then (n - 3, 1) else if n < -1 then (n + 3, -1) else (n, 0)
theorem impl_carried_t (n : Int) (h : -1000 ≤ n ∧ n ≤ 1000) : impl_carried.f n = some (crd n) := by
  unfold impl_carried.f crd
  by_cases h1 : n > 1
  · rw [if_pos h1, if_pos h1, wr (by omega) (by omega)]
  · rw [if_neg h1, if_neg h1]
    by_cases h2 : n < -1
    · rw [if_pos h2, if_pos h2, wr (by omega) (by omega)]
    · rw [if_neg h2, if_neg h2]

theorem spec_l1Parts_1a (n c : Int) (k : Nat) (hk : 1 < k) (h : ¬ n < -1) : spec_l1Parts.l1 k n c = some (n, c) := by
  obtain ⟨k, rfl⟩ : ∃ m, k = m + 1 := ⟨k - 1, by omega⟩
  simp only [spec_l1Parts.l1]; rw [if_neg h]
theorem spec_l1Parts_1b (n c : Int) (k : Nat) (hk : 2 < k) (h : n < -1) (hn : -4 ≤ n) (hc : -5 ≤ c ∧ c ≤ 5) : spec_l1Parts.l1 k n c = some (n + 3, c - 1) := by
  obtain ⟨k, rfl⟩ : ∃ m, k = m + 1 := ⟨k - 1, by omega⟩
  simp only [spec_l1Parts.l1]; rw [if_pos h, wr (by omega) (by omega), wr (by omega) (by omega)]
  exact spec_l1Parts_1a _ _ _ (by omega) (by omega)
theorem spec_l1Parts_t (k : Nat) (hk : 5 < k) (n : Int) (h : -4 ≤ n ∧ n ≤ 4) : spec_l1Parts.f k n = some (crd n) := by
  unfold spec_l1Parts.f crd
  obtain ⟨k, rfl⟩ : ∃ m, k = m + 1 := ⟨k - 1, by omega⟩
  simp only [spec_l1Parts.l0]
  by_cases h1 : n > 1
  · rw [if_pos h1, if_pos h1, wr (by omega) (by omega), wr (by omega) (by omega)]
    obtain ⟨k, rfl⟩ : ∃ m, k = m + 1 := ⟨k - 1, by omega⟩
    simp only [spec_l1Parts.l0]
    rw [if_neg (by omega)]
    exact spec_l1Parts_1a _ _ _ (by omega) (by omega)
  · rw [if_neg h1, if_neg h1]
    by_cases h2 : n < -1
    · rw [if_pos h2]; exact spec_l1Parts_1b _ _ _ (by omega) h2 (by omega) (by omega)
    · rw [if_neg h2]; exact spec_l1Parts_1a _ _ _ (by omega) h2

theorem FnExactFullAdd : laws_FnExactFullAdd.Pure := by
  intro a b c _ _ _
  refine ⟨9, ?_⟩
  unfold laws_FnExactFullAdd.f spec_FullAdd.f impl_FullAdd.f
  rw [spec_l1Two_t, spec_IsTrit_t, impl_trits_t _ _ (by simp) (by simp)]
  simp only [List.all_cons, List.all_nil, Bool.and_true, Option.bind_some]
  by_cases h : (isT a && (isT b && isT c)) = true
  · have h1 : isT a = true ∧ isT b = true ∧ isT c = true := by simpa using h
    have ha := isT_iff.mp h1.1
    have hb := isT_iff.mp h1.2.1
    have hc := isT_iff.mp h1.2.2
    rw [h1.1, h1.2.1, h1.2.2, wr (x := a + b) (by omega) (by omega), wr (by omega) (by omega), impl_carried_t _ (by omega), spec_l1Parts_t _ (by omega) _ (by omega)]
    simp
  · have h' : (isT a && (isT b && isT c)) = false := by simpa using h
    rw [h']
    cases ha : isT a <;> cases hb : isT b <;> cases hc : isT c <;> simp_all

end Go.Proofs.Ytleaemkcbefbgaa.Pure.InFnExactFullAdd
namespace Go.Proofs.Ytleaemkcbefbgaa.Pure
theorem FnExactFullAdd : PFnExactFullAdd.laws_FnExactFullAdd.Pure := InFnExactFullAdd.FnExactFullAdd
end Go.Proofs.Ytleaemkcbefbgaa.Pure
