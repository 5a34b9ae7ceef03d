/- FnExactValueRedundant: ValueRedundant of program and reference agree for every list, and the list stays as it was. No condition. -/
import Derived.Test.YtleaemkcbefbgaaQFnExactValueRedundantx2
set_option linter.unusedVariables false
set_option linter.unusedSimpArgs false
namespace Go.Proofs.Ytleaemkcbefbgaa.Pure.InFnExactValueRedundant
open Go.RowKit Go.Proofs.Ytleaemkcbefbgaa.QFnExactValueRedundant Go.Proofs.YtleaemkcbefbgaaW.PrintWords Go.Proofs.YtleaemkcbefbgaaW.PrintLast Go.Proofs.YtleaemkcbefbgaaW.PrintMore

theorem wr {x : Int} (h1 : -9223372036854775808 ≤ x) (h2 : x ≤ 9223372036854775807) : wrap64 x = x := by unfold wrap64; omega
theorem wfB {a : Int} (h : (Lit.int .i64 a).wf = true) : -9223372036854775808 ≤ a ∧ a ≤ 9223372036854775807 := by
  have h' := h
  simp only [Lit.wf, Bool.and_eq_true, decide_eq_true_eq] at h'
  exact h'
/-- A trit. -/
def isT (a : Int) : Bool := decide (-1 ≤ a ∧ a ≤ 1)
theorem isT_iff {a : Int} : isT a = true ↔ (-1 ≤ a ∧ a ≤ 1) := by simp [isT]

theorem rd_nat (l : List Int) (j : Nat) : rd l (j : Int) = l.getD j 0 := by unfold rd; simp
theorem drop_cons (l : List Int) (j : Nat) (h : j < l.length) : l.drop j = l.getD j 0 :: l.drop (j + 1) := by
  rw [List.drop_eq_getElem_cons h]; simp [List.getD_eq_getElem?_getD, h]
theorem take_snoc (l : List Int) (j : Nat) (h : j < l.length) : l.take (j + 1) = l.take j ++ [l.getD j 0] := by
  rw [List.take_succ_eq_append_getElem h]; simp [List.getD_eq_getElem?_getD, h]

theorem laws_toIntS_l0 (l : List Int) (hl : l.length ≤ 35184372088832) (d : Nat) : ∀ (k j : Nat), j + d = l.length → d < k →
    laws_toIntS.l0 k l (l.take j ++ List.replicate (l.length - j) 0) (j : Int) = some l := by
  induction d with
  | zero =>
    intro k j hj hk
    obtain ⟨k, rfl⟩ : ∃ m, k = m + 1 := ⟨k - 1, by omega⟩
    simp only [laws_toIntS.l0]
    rw [if_neg (by omega), show j = l.length by omega]; simp
  | succ d ih =>
    intro k j hj hk
    obtain ⟨k, rfl⟩ : ∃ m, k = m + 1 := ⟨k - 1, by omega⟩
    simp only [laws_toIntS.l0]
    rw [if_pos (by omega), if_pos (by omega), if_pos (by simp; omega), rd_nat, wr (by omega) (by omega)]
    have e := ih k (j + 1) (by omega) (by omega)
    have s : (l.take j ++ List.replicate (l.length - j) 0).set ((j : Int)).toNat (l.getD j 0) = l.take (j + 1) ++ List.replicate (l.length - (j + 1)) 0 := by
      have hlen : (l.take j).length = j := by simp; omega
      rw [show ((j : Int)).toNat = j from by simp, List.set_append_right _ _ (by omega), take_snoc l j (by omega),
        show l.length - j = (l.length - (j + 1)) + 1 by omega, List.replicate_succ, hlen]
      simp
    rw [s]; exact_mod_cast e
theorem laws_toIntS_t (k : Nat) (l : List Int) (hl : l.length ≤ 35184372088832) (hk : l.length < k) : laws_toIntS.f k l = some l := by
  have e := laws_toIntS_l0 l hl l.length k 0 (by omega) hk
  unfold laws_toIntS.f
  rw [if_pos (by omega), if_pos (by simpa using hl)]
  simpa using e

theorem laws_eqIntS_l0 (a b : List Int) (hab : a.length = b.length) (hl : a.length ≤ 9000000000000000000) (d : Nat) : ∀ (k j : Nat), j + d = a.length → d < k →
    laws_eqIntS.l0 k a b (j : Int) = some (decide (a.drop j = b.drop j)) := by
  induction d with
  | zero =>
    intro k j hj hk
    obtain ⟨k, rfl⟩ : ∃ m, k = m + 1 := ⟨k - 1, by omega⟩
    simp only [laws_eqIntS.l0]
    rw [if_neg (by omega), List.drop_eq_nil_of_le (by omega), List.drop_eq_nil_of_le (by omega)]; simp
  | succ d ih =>
    intro k j hj hk
    obtain ⟨k, rfl⟩ : ∃ m, k = m + 1 := ⟨k - 1, by omega⟩
    simp only [laws_eqIntS.l0]
    rw [if_pos (by omega), if_pos (by omega), if_pos (by omega), rd_nat, rd_nat, wr (by omega) (by omega), drop_cons a j (by omega), drop_cons b j (by omega)]
    have e := ih k (j + 1) (by omega) (by omega)
    by_cases h : a.getD j 0 = b.getD j 0
    · rw [if_pos h, h]; simp only [List.cons.injEq, true_and]; exact_mod_cast e
    · rw [if_neg h]; simp only [List.cons.injEq, h, false_and, decide_false]
theorem laws_eqIntS_t (k : Nat) (a b : List Int) (hl : a.length ≤ 9000000000000000000) (hk : a.length < k) : laws_eqIntS.f k a b = some (decide (a = b)) := by
  unfold laws_eqIntS.f
  by_cases h : a.length = b.length
  · rw [if_pos (by omega)]
    have e := laws_eqIntS_l0 a b h hl a.length k 0 (by omega) hk
    simpa using e
  · rw [if_neg (by omega)]
    have : ¬ a = b := fun e => h (by rw [e])
    simp [this]

theorem spec_l1In_t (a b c : Int) : spec_l1In.f a b c = some (decide (b ≤ a ∧ a ≤ c)) := by
  unfold spec_l1In.f
  by_cases h : a ≥ b
  · have h' : b ≤ a := h
    rw [if_pos h]; simp [h']
  · have h' : ¬ b ≤ a := h
    rw [if_neg h]; simp [h']

theorem redB_iff {l : List Int} : redB l = true ↔ (1 ≤ l.length ∧ l.length ≤ 30 ∧ ∀ x ∈ l, -2 ≤ x ∧ x ≤ 2) := by
  simp [redB, isR, List.all_eq_true, and_assoc]
theorem spec_IsRedundant_l0 (l : List Int) (hl : l.length ≤ 9000000000000000000) (d : Nat) : ∀ (k j : Nat), j + d = l.length → d < k →
    spec_IsRedundant.l0 k l l (l.length : Int) (j : Int) = some ((l.drop j).all isR && (decide (1 ≤ l.length) && decide (l.length ≤ 30))) := by
  induction d with
  | zero =>
    intro k j hj hk
    obtain ⟨k, rfl⟩ : ∃ m, k = m + 1 := ⟨k - 1, by omega⟩
    simp only [spec_IsRedundant.l0]
    rw [if_neg (by omega), List.drop_eq_nil_of_le (by omega), spec_l1In_t]; simp
    have : (1 : Int) ≤ (l.length : Int) ↔ 1 ≤ l.length := by omega
    have : (l.length : Int) ≤ 30 ↔ l.length ≤ 30 := by omega
    simp [*]
  | succ d ih =>
    intro k j hj hk
    obtain ⟨k, rfl⟩ : ∃ m, k = m + 1 := ⟨k - 1, by omega⟩
    simp only [spec_IsRedundant.l0]
    rw [if_pos (by omega), if_pos (by omega), if_pos (by omega), spec_l1In_t, rd_nat, drop_cons l j (by omega)]
    simp only [Option.bind_some, List.all_cons]
    have e := ih k (j + 1) (by omega) (by omega)
    have t : decide (-2 ≤ l.getD j 0 ∧ l.getD j 0 ≤ 2) = isR (l.getD j 0) := by simp [isR]
    rw [wr (by omega) (by omega), t]
    cases isR (l.getD j 0) with
    | false => rfl
    | true => simp only [if_true, Bool.true_and]; exact_mod_cast e
theorem spec_IsRedundant_t (k : Nat) (l : List Int) (hl : l.length ≤ 9000000000000000000) (hk : l.length < k) : spec_IsRedundant.f k l = some (redB l) := by
  have e := spec_IsRedundant_l0 l hl l.length k 0 (by omega) hk
  unfold spec_IsRedundant.f redB
  simp only [List.drop_zero] at e
  rw [Bool.and_comm] at e
  exact e

/-- A word. -/
def isW (l : List Int) : Bool := decide (1 ≤ l.length) && decide (l.length ≤ 30) && l.all isT
theorem isW_iff {l : List Int} : isW l = true ↔ (1 ≤ l.length ∧ l.length ≤ 30 ∧ ∀ x ∈ l, -1 ≤ x ∧ x ≤ 1) := by
  simp [isW, isT, List.all_eq_true, and_assoc]
/-- The value of digits, the lowest first. -/
def val : List Int → Int
  | [] => 0
  | a :: l => 3 * val l + a

/-- (3^k - 1) / 2. -/
def lim : Nat → Int
  | 0 => 0
  | k + 1 => 3 * lim k + 1
/-- 3^k. -/
def pw : Nat → Int
  | 0 => 1
  | k + 1 => pw k * 3
theorem pw_lim (k : Nat) : pw k = 2 * lim k + 1 := by
  induction k with
  | zero => rfl
  | succ k ih => simp only [pw, lim]; omega
theorem lim_mono {j k : Nat} (h : j ≤ k) : lim j ≤ lim k := by
  induction k with
  | zero => have : j = 0 := by omega
            subst this; exact Int.le_refl _
  | succ k ih =>
    by_cases e : j = k + 1
    · subst e; exact Int.le_refl _
    · have := ih (by omega)
      have h0 : ∀ m, 0 ≤ lim m := by
        intro m; induction m with
        | zero => exact Int.le_refl _
        | succ m im => simp only [lim]; omega
      have := h0 k
      simp only [lim]; omega
theorem lim_nonneg (k : Nat) : 0 ≤ lim k := lim_mono (Nat.zero_le k)
theorem lim30 : lim 30 = 102945566047324 := by decide
theorem lim_le {k : Nat} (h : k ≤ 30) : lim k ≤ 102945566047324 := by rw [← lim30]; exact lim_mono h
/-- LimitOf. -/
def limOf (k : Int) : Int := if 1 ≤ k ∧ k ≤ 30 then lim k.toNat else 0

theorem val_drop (l : List Int) (j : Nat) (h : j < l.length) : val (l.drop j) = 3 * val (l.drop (j + 1)) + l.getD j 0 := by
  rw [drop_cons l j h]; rfl
/-- Digits from -d to d have a value within d times the limit. -/
theorem val_bound (d : Int) (hd : 0 ≤ d) (l : List Int) (h : ∀ x ∈ l, -d ≤ x ∧ x ≤ d) : -(d * lim l.length) ≤ val l ∧ val l ≤ d * lim l.length := by
  induction l with
  | nil => simp [val, lim]
  | cons a l ih =>
    have h1 := ih (fun x hx => h x (List.mem_cons_of_mem _ hx))
    have h2 := h a (List.mem_cons_self ..)
    simp only [val, List.length_cons, lim]
    have e : d * (3 * lim l.length + 1) = 3 * (d * lim l.length) + d := by rw [Int.mul_add, Int.mul_one, Int.mul_left_comm]
    rw [e]; omega
theorem val_bound30 (d : Int) (hd : 0 ≤ d) (hd2 : d ≤ 2) (l : List Int) (hl : l.length ≤ 30) (h : ∀ x ∈ l, -d ≤ x ∧ x ≤ d) : -300000000000000 ≤ val l ∧ val l ≤ 300000000000000 := by
  have h1 := val_bound d hd l h
  have h2 := lim_le hl
  have h3 := lim_nonneg l.length
  have h4 : d * lim l.length ≤ 2 * lim l.length := Int.mul_le_mul_of_nonneg_right hd2 h3
  omega
theorem mem_getD (l : List Int) (j : Nat) (h : j < l.length) : l.getD j 0 ∈ l := by
  rw [List.getD_eq_getElem?_getD, List.getElem?_eq_getElem h]; exact List.getElem_mem h

theorem spec_l2Value_l0 (d : Int) (hd : 0 ≤ d) (hd2 : d ≤ 2) (l : List Int) (hl : l.length ≤ 30) (hb : ∀ x ∈ l, -d ≤ x ∧ x ≤ d) (j : Nat) : ∀ (k : Nat), j ≤ l.length → j < k →
    spec_l2Value.l0 k l (val (l.drop j)) ((j : Int) - 1) = some (val l) := by
  induction j with
  | zero =>
    intro k hj hk
    obtain ⟨k, rfl⟩ : ∃ m, k = m + 1 := ⟨k - 1, by omega⟩
    simp only [spec_l2Value.l0]
    rw [if_neg (by omega)]; simp
  | succ j ih =>
    intro k hj hk
    obtain ⟨k, rfl⟩ : ∃ m, k = m + 1 := ⟨k - 1, by omega⟩
    simp only [spec_l2Value.l0]
    have e := ih k (by omega) (by omega)
    have b1 := val_bound30 d hd hd2 (l.drop (j + 1)) (by simp; omega) (fun x hx => hb x (List.mem_of_mem_drop hx))
    have b2 := hb _ (mem_getD l j (by omega))
    have v := val_drop l j (by omega)
    rw [if_pos (by omega), if_pos (by omega), if_pos (by omega), show ((j + 1 : Nat) : Int) - 1 = (j : Int) by omega, rd_nat,
      wr (x := 3 * val (l.drop (j + 1))) (by omega) (by omega), wr (x := _ + _) (by omega) (by omega), wr (x := (j : Int) - 1) (by omega) (by omega), ← v]
    exact e
theorem spec_l2Value_t (d : Int) (hd : 0 ≤ d) (hd2 : d ≤ 2) (k : Nat) (l : List Int) (hl : l.length ≤ 30) (hb : ∀ x ∈ l, -d ≤ x ∧ x ≤ d) (hk : 30 < k) : spec_l2Value.f k l = some (val l) := by
  have e := spec_l2Value_l0 d hd hd2 l hl hb l.length k (by omega) (by omega)
  unfold spec_l2Value.f
  rw [wr (by omega) (by omega)]
  simpa [val] using e

theorem impl_value_l0 (d : Int) (hd : 0 ≤ d) (hd2 : d ≤ 2) (l : List Int) (hl : l.length ≤ 30) (hb : ∀ x ∈ l, -d ≤ x ∧ x ≤ d) (j : Nat) : ∀ (k : Nat), j ≤ l.length → j < k →
    impl_value.l0 k l (val (l.drop j)) ((j : Int) - 1) = some (val l) := by
  induction j with
  | zero =>
    intro k hj hk
    obtain ⟨k, rfl⟩ : ∃ m, k = m + 1 := ⟨k - 1, by omega⟩
    simp only [impl_value.l0]
    rw [if_neg (by omega)]; simp
  | succ j ih =>
    intro k hj hk
    obtain ⟨k, rfl⟩ : ∃ m, k = m + 1 := ⟨k - 1, by omega⟩
    simp only [impl_value.l0]
    have e := ih k (by omega) (by omega)
    have b1 := val_bound30 d hd hd2 (l.drop (j + 1)) (by simp; omega) (fun x hx => hb x (List.mem_of_mem_drop hx))
    have b2 := hb _ (mem_getD l j (by omega))
    have v := val_drop l j (by omega)
    rw [if_pos (by omega), if_pos (by omega), if_pos (by omega), show ((j + 1 : Nat) : Int) - 1 = (j : Int) by omega, rd_nat,
      wr (x := 3 * val (l.drop (j + 1))) (by omega) (by omega), wr (x := _ + _) (by omega) (by omega), wr (x := (j : Int) - 1) (by omega) (by omega), ← v]
    exact e
theorem impl_value_t (d : Int) (hd : 0 ≤ d) (hd2 : d ≤ 2) (k : Nat) (l : List Int) (hl : l.length ≤ 30) (hb : ∀ x ∈ l, -d ≤ x ∧ x ≤ d) (hk : 30 < k) : impl_value.f k l = some (val l) := by
  have e := impl_value_l0 d hd hd2 l hl hb l.length k (by omega) (by omega)
  unfold impl_value.f
  rw [wr (by omega) (by omega)]
  simpa [val] using e

theorem FnExactValueRedundant : laws_FnExactValueRedundant.Pure := by
  intro l h1 h2 h3
  refine ⟨l.length + 40, ?_⟩
  unfold laws_FnExactValueRedundant.f
  split
  · rfl
  · rw [laws_toIntS_t _ l (by omega) (by omega)]; simp only [Option.bind_some]
    unfold impl_ValueRedundant.f spec_ValueRedundant.f impl_IsRedundant.f
    rw [spec_IsRedundant_t _ l (by omega) (by omega), laws_eqIntS_t _ l l (by omega) (by omega)]
    simp only [Option.bind_some]
    by_cases h : redB l = true
    · have hw := redB_iff.mp h
      rw [if_pos h, if_pos h, impl_value_t 2 (by omega) (by omega) _ l hw.2.1 hw.2.2 (by omega), spec_l2Value_t 2 (by omega) (by omega) _ l hw.2.1 hw.2.2 (by omega)]; simp
    · rw [if_neg h, if_neg h]; simp

end Go.Proofs.Ytleaemkcbefbgaa.Pure.InFnExactValueRedundant
namespace Go.Proofs.Ytleaemkcbefbgaa.Pure
theorem FnExactValueRedundant : QFnExactValueRedundant.laws_FnExactValueRedundant.Pure := InFnExactValueRedundant.FnExactValueRedundant
end Go.Proofs.Ytleaemkcbefbgaa.Pure
