/- FnExactIsRedundant: IsRedundant of program and reference agree for every list, and the list stays as it was. No condition. -/
import Derived.Test.YtleaemkcbefbgaaQFnExactIsRedundantx1
set_option linter.unusedVariables false
set_option linter.unusedSimpArgs false
namespace Go.Proofs.Ytleaemkcbefbgaa.Pure.InFnExactIsRedundant
open Go.RowKit Go.Proofs.Ytleaemkcbefbgaa.QFnExactIsRedundant Go.Proofs.YtleaemkcbefbgaaW.PrintWords Go.Proofs.YtleaemkcbefbgaaW.PrintLast Go.Proofs.YtleaemkcbefbgaaW.PrintMore

theorem wr {x : Int} (h1 : -9223372036854775808 ≤ x) (h2 : x ≤ 9223372036854775807) : wrap64 x = x := by unfold wrap64; omega
theorem wfB {a : Int} (h : (Lit.int .i64 a).wf = true) : -9223372036854775808 ≤ a ∧ a ≤ 9223372036854775807 := by
  have h' := h
  simp only [Lit.wf, Bool.and_eq_true, decide_eq_true_eq] at h'
  exact h'
/-- A trit. -/
def isT (a : Int) : Bool := decide (-1 ≤ a ∧ a ≤ 1)
theorem isT_iff {a : Int} : isT a = true ↔ (-1 ≤ a ∧ a ≤ 1) := by simp [isT]

theorem rd_nat (l : List Int) (j : Nat) : rd l (j : Int) = l.getD j 0 := by unfold rd; simp
theorem drop_cons (l : List Int) (j : Nat) (h : j < l.length) : l.drop j = l.getD j 0 :: l.drop (j + 1) := by
  rw [List.drop_eq_getElem_cons h]; simp [List.getD_eq_getElem?_getD, h]
theorem take_snoc (l : List Int) (j : Nat) (h : j < l.length) : l.take (j + 1) = l.take j ++ [l.getD j 0] := by
  rw [List.take_succ_eq_append_getElem h]; simp [List.getD_eq_getElem?_getD, h]

theorem laws_toIntS_l0 (l : List Int) (hl : l.length ≤ 35184372088832) (d : Nat) : ∀ (k j : Nat), j + d = l.length → d < k →
    laws_toIntS.l0 k l (l.take j ++ List.replicate (l.length - j) 0) (j : Int) = some l := by
  induction d with
  | zero =>
    intro k j hj hk
    obtain ⟨k, rfl⟩ : ∃ m, k = m + 1 := ⟨k - 1, by omega⟩
    simp only [laws_toIntS.l0]
    rw [if_neg (by omega), show j = l.length by omega]; simp
  | succ d ih =>
    intro k j hj hk
    obtain ⟨k, rfl⟩ : ∃ m, k = m + 1 := ⟨k - 1, by omega⟩
    simp only [laws_toIntS.l0]
    rw [if_pos (by omega), if_pos (by omega), if_pos (by simp; omega), rd_nat, wr (by omega) (by omega)]
    have e := ih k (j + 1) (by omega) (by omega)
    have s : (l.take j ++ List.replicate (l.length - j) 0).set ((j : Int)).toNat (l.getD j 0) = l.take (j + 1) ++ List.replicate (l.length - (j + 1)) 0 := by
      have hlen : (l.take j).length = j := by simp; omega
      rw [show ((j : Int)).toNat = j from by simp, List.set_append_right _ _ (by omega), take_snoc l j (by omega),
        show l.length - j = (l.length - (j + 1)) + 1 by omega, List.replicate_succ, hlen]
      simp
    rw [s]; exact_mod_cast e
theorem laws_toIntS_t (k : Nat) (l : List Int) (hl : l.length ≤ 35184372088832) (hk : l.length < k) : laws_toIntS.f k l = some l := by
  have e := laws_toIntS_l0 l hl l.length k 0 (by omega) hk
  unfold laws_toIntS.f
  rw [if_pos (by omega), if_pos (by simpa using hl)]
  simpa using e

theorem laws_eqIntS_l0 (a b : List Int) (hab : a.length = b.length) (hl : a.length ≤ 9000000000000000000) (d : Nat) : ∀ (k j : Nat), j + d = a.length → d < k →
    laws_eqIntS.l0 k a b (j : Int) = some (decide (a.drop j = b.drop j)) := by
  induction d with
  | zero =>
    intro k j hj hk
    obtain ⟨k, rfl⟩ : ∃ m, k = m + 1 := ⟨k - 1, by omega⟩
    simp only [laws_eqIntS.l0]
    rw [if_neg (by omega), List.drop_eq_nil_of_le (by omega), List.drop_eq_nil_of_le (by omega)]; simp
  | succ d ih =>
    intro k j hj hk
    obtain ⟨k, rfl⟩ : ∃ m, k = m + 1 := ⟨k - 1, by omega⟩
    simp only [laws_eqIntS.l0]
    rw [if_pos (by omega), if_pos (by omega), if_pos (by omega), rd_nat, rd_nat, wr (by omega) (by omega), drop_cons a j (by omega), drop_cons b j (by omega)]
    have e := ih k (j + 1) (by omega) (by omega)
    by_cases h : a.getD j 0 = b.getD j 0
    · rw [if_pos h, h]; simp only [List.cons.injEq, true_and]; exact_mod_cast e
    · rw [if_neg h]; simp only [List.cons.injEq, h, false_and, decide_false]
theorem laws_eqIntS_t (k : Nat) (a b : List Int) (hl : a.length ≤ 9000000000000000000) (hk : a.length < k) : laws_eqIntS.f k a b = some (decide (a = b)) := by
  unfold laws_eqIntS.f
  by_cases h : a.length = b.length
  · rw [if_pos (by omega)]
    have e := laws_eqIntS_l0 a b h hl a.length k 0 (by omega) hk
    simpa using e
  · rw [if_neg (by omega)]
    have : ¬ a = b := fun e => h (by rw [e])
    simp [this]

theorem spec_l1In_t (a b c : Int) : spec_l1In.f a b c = some (decide (b ≤ a ∧ a ≤ c)) := by
  unfold spec_l1In.f
  by_cases h : a ≥ b
  · have h' : b ≤ a := h
    rw [if_pos h]; simp [h']
  · have h' : ¬ b ≤ a := h
    rw [if_neg h]; simp [h']

theorem redB_iff {l : List Int} : redB l = true ↔ (1 ≤ l.length ∧ l.length ≤ 30 ∧ ∀ x ∈ l, -2 ≤ x ∧ x ≤ 2) := by
  simp [redB, isR, List.all_eq_true, and_assoc]
theorem spec_IsRedundant_l0 (l : List Int) (hl : l.length ≤ 9000000000000000000) (d : Nat) : ∀ (k j : Nat), j + d = l.length → d < k →
    spec_IsRedundant.l0 k l l (l.length : Int) (j : Int) = some ((l.drop j).all isR && (decide (1 ≤ l.length) && decide (l.length ≤ 30))) := by
  induction d with
  | zero =>
    intro k j hj hk
    obtain ⟨k, rfl⟩ : ∃ m, k = m + 1 := ⟨k - 1, by omega⟩
    simp only [spec_IsRedundant.l0]
    rw [if_neg (by omega), List.drop_eq_nil_of_le (by omega), spec_l1In_t]; simp
    have : (1 : Int) ≤ (l.length : Int) ↔ 1 ≤ l.length := by omega
    have : (l.length : Int) ≤ 30 ↔ l.length ≤ 30 := by omega
    simp [*]
  | succ d ih =>
    intro k j hj hk
    obtain ⟨k, rfl⟩ : ∃ m, k = m + 1 := ⟨k - 1, by omega⟩
    simp only [spec_IsRedundant.l0]
    rw [if_pos (by omega), if_pos (by omega), if_pos (by omega), spec_l1In_t, rd_nat, drop_cons l j (by omega)]
    simp only [Option.bind_some, List.all_cons]
    have e := ih k (j + 1) (by omega) (by omega)
    have t : decide (-2 ≤ l.getD j 0 ∧ l.getD j 0 ≤ 2) = isR (l.getD j 0) := by simp [isR]
    rw [wr (by omega) (by omega), t]
    cases isR (l.getD j 0) with
    | false => rfl
    | true => simp only [if_true, Bool.true_and]; exact_mod_cast e
theorem spec_IsRedundant_t (k : Nat) (l : List Int) (hl : l.length ≤ 9000000000000000000) (hk : l.length < k) : spec_IsRedundant.f k l = some (redB l) := by
  have e := spec_IsRedundant_l0 l hl l.length k 0 (by omega) hk
  unfold spec_IsRedundant.f redB
  simp only [List.drop_zero] at e
  rw [Bool.and_comm] at e
  exact e

theorem FnExactIsRedundant : laws_FnExactIsRedundant.Pure := by
  intro l h1 h2 h3
  refine ⟨l.length + 40, ?_⟩
  unfold laws_FnExactIsRedundant.f
  split
  · rfl
  · rw [laws_toIntS_t _ l (by omega) (by omega)]; simp only [Option.bind_some]
    rw [spec_IsRedundant_t _ l (by omega) (by omega), laws_eqIntS_t _ l l (by omega) (by omega)]; simp [impl_IsRedundant.f]

end Go.Proofs.Ytleaemkcbefbgaa.Pure.InFnExactIsRedundant
namespace Go.Proofs.Ytleaemkcbefbgaa.Pure
theorem FnExactIsRedundant : QFnExactIsRedundant.laws_FnExactIsRedundant.Pure := InFnExactIsRedundant.FnExactIsRedundant
end Go.Proofs.Ytleaemkcbefbgaa.Pure
