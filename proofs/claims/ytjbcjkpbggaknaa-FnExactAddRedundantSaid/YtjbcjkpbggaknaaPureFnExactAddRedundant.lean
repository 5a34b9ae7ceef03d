/- FnExactAddRedundant: AddRedundant of program and reference agree for all arguments, the lists stay as they were, and the results share no memory. No condition. -/
import Derived.Test.YtjbcjkpbggaknaaQFnExactAddRedundantx3
set_option linter.unusedVariables false
set_option linter.unusedSimpArgs false
namespace Go.Proofs.Ytjbcjkpbggaknaa.Pure.InFnExactAddRedundant
open Go.RowKit Go.Proofs.Ytjbcjkpbggaknaa.QFnExactAddRedundant Go.Proofs.YtjbcjkpbggaknaaW.PrintWords Go.Proofs.YtjbcjkpbggaknaaW.PrintLast Go.Proofs.YtjbcjkpbggaknaaW.PrintMore

theorem lt0a (n : Nat) : (1 + (n : Int) < 0) = False := by simp; omega
theorem lt0b (n m : Nat) : (1 + (n : Int) + (m : Int) < 0) = False := by simp; omega
theorem lt0c (n m q : Nat) : (1 + (n : Int) + (m : Int) + (q : Int) < 0) = False := by simp; omega

theorem wr {x : Int} (h1 : -9223372036854775808 ≤ x) (h2 : x ≤ 9223372036854775807) : wrap64 x = x := by unfold wrap64; omega
theorem wfB {a : Int} (h : (Lit.int .i64 a).wf = true) : -9223372036854775808 ≤ a ∧ a ≤ 9223372036854775807 := by
  have h' := h
  simp only [Lit.wf, Bool.and_eq_true, decide_eq_true_eq] at h'
  exact h'
/-- A trit. -/
def isT (a : Int) : Bool := decide (-1 ≤ a ∧ a ≤ 1)
theorem isT_iff {a : Int} : isT a = true ↔ (-1 ≤ a ∧ a ≤ 1) := by simp [isT]

theorem rd_nat (l : List Int) (j : Nat) : rd l (j : Int) = l.getD j 0 := by unfold rd; simp
theorem drop_cons (l : List Int) (j : Nat) (h : j < l.length) : l.drop j = l.getD j 0 :: l.drop (j + 1) := by
  rw [List.drop_eq_getElem_cons h]; simp [List.getD_eq_getElem?_getD, h]
theorem take_snoc (l : List Int) (j : Nat) (h : j < l.length) : l.take (j + 1) = l.take j ++ [l.getD j 0] := by
  rw [List.take_succ_eq_append_getElem h]; simp [List.getD_eq_getElem?_getD, h]

theorem laws_toIntS_l0 (l : List Int) (hl : l.length ≤ 35184372088832) (d : Nat) : ∀ (k j : Nat), j + d = l.length → d < k →
    laws_toIntS.l0 k l (l.take j ++ List.replicate (l.length - j) 0) (j : Int) = some l := by
  induction d with
  | zero =>
    intro k j hj hk
    obtain ⟨k, rfl⟩ : ∃ m, k = m + 1 := ⟨k - 1, by omega⟩
    simp only [laws_toIntS.l0]
    rw [if_neg (by omega), show j = l.length by omega]; simp
  | succ d ih =>
    intro k j hj hk
    obtain ⟨k, rfl⟩ : ∃ m, k = m + 1 := ⟨k - 1, by omega⟩
    simp only [laws_toIntS.l0]
    rw [if_pos (by omega), if_pos (by omega), if_pos (by simp; omega), rd_nat, wr (by omega) (by omega)]
    have e := ih k (j + 1) (by omega) (by omega)
    have s : (l.take j ++ List.replicate (l.length - j) 0).set ((j : Int)).toNat (l.getD j 0) = l.take (j + 1) ++ List.replicate (l.length - (j + 1)) 0 := by
      have hlen : (l.take j).length = j := by simp; omega
      rw [show ((j : Int)).toNat = j from by simp, List.set_append_right _ _ (by omega), take_snoc l j (by omega),
        show l.length - j = (l.length - (j + 1)) + 1 by omega, List.replicate_succ, hlen]
      simp
    rw [s]; exact_mod_cast e
theorem laws_toIntS_t (k : Nat) (l : List Int) (hl : l.length ≤ 35184372088832) (hk : l.length < k) : laws_toIntS.f k l = some l := by
  have e := laws_toIntS_l0 l hl l.length k 0 (by omega) hk
  unfold laws_toIntS.f
  rw [if_pos (by omega), if_pos (by simpa using hl)]
  simpa using e

theorem laws_eqIntS_l0 (a b : List Int) (hab : a.length = b.length) (hl : a.length ≤ 9000000000000000000) (d : Nat) : ∀ (k j : Nat), j + d = a.length → d < k →
    laws_eqIntS.l0 k a b (j : Int) = some (decide (a.drop j = b.drop j)) := by
  induction d with
  | zero =>
    intro k j hj hk
    obtain ⟨k, rfl⟩ : ∃ m, k = m + 1 := ⟨k - 1, by omega⟩
    simp only [laws_eqIntS.l0]
    rw [if_neg (by omega), List.drop_eq_nil_of_le (by omega), List.drop_eq_nil_of_le (by omega)]; simp
  | succ d ih =>
    intro k j hj hk
    obtain ⟨k, rfl⟩ : ∃ m, k = m + 1 := ⟨k - 1, by omega⟩
    simp only [laws_eqIntS.l0]
    rw [if_pos (by omega), if_pos (by omega), if_pos (by omega), rd_nat, rd_nat, wr (by omega) (by omega), drop_cons a j (by omega), drop_cons b j (by omega)]
    have e := ih k (j + 1) (by omega) (by omega)
    by_cases h : a.getD j 0 = b.getD j 0
    · rw [if_pos h, h]; simp only [List.cons.injEq, true_and]; exact_mod_cast e
    · rw [if_neg h]; simp only [List.cons.injEq, h, false_and, decide_false]
theorem laws_eqIntS_t (k : Nat) (a b : List Int) (hl : a.length ≤ 9000000000000000000) (hk : a.length < k) : laws_eqIntS.f k a b = some (decide (a = b)) := by
  unfold laws_eqIntS.f
  by_cases h : a.length = b.length
  · rw [if_pos (by omega)]
    have e := laws_eqIntS_l0 a b h hl a.length k 0 (by omega) hk
    simpa using e
  · rw [if_neg (by omega)]
    have : ¬ a = b := fun e => h (by rw [e])
    simp [this]

/-- The numbers from s on. -/
def marks : Int → Nat → List Int
  | _, 0 => []
  | s, n + 1 => s :: marks (s + 1) n
theorem marks_len (n : Nat) : ∀ s, (marks s n).length = n := by
  induction n with
  | zero => intro s; rfl
  | succ n ih => intro s; simp [marks, ih]
theorem marks_snoc (n : Nat) : ∀ s, marks s (n + 1) = marks s n ++ [s + n] := by
  induction n with
  | zero => intro s; simp [marks]
  | succ n ih => intro s; rw [marks, ih (s + 1)]; simp only [marks, List.cons_append]; congr 3; omega
theorem marks_get (n : Nat) : ∀ (s : Int) (j : Nat), j < n → (marks s n).getD j 0 = s + j := by
  induction n with
  | zero => intro s j h; omega
  | succ n ih =>
    intro s j h
    cases j with
    | zero => simp [marks]
    | succ j => have := ih (s + 1) j (by omega); simp only [marks, List.getD_cons_succ]; rw [this]; omega
theorem laws_markIntS_l0 (l : List Int) (s : Int) (hs : 0 ≤ s ∧ s ≤ 100000000) (hl : l.length ≤ 1000000000000) (d : Nat) : ∀ (k j : Nat), j + d = l.length → d < k →
    laws_markIntS.l0 k (marks s j ++ l.drop j) (s + j) (j : Int) = some (s + l.length, marks s l.length) := by
  induction d with
  | zero =>
    intro k j hj hk
    obtain ⟨k, rfl⟩ : ∃ m, k = m + 1 := ⟨k - 1, by omega⟩
    simp only [laws_markIntS.l0]
    rw [if_neg (by simp [marks_len]; omega), List.drop_eq_nil_of_le (by omega), show j = l.length by omega]; simp
  | succ d ih =>
    intro k j hj hk
    obtain ⟨k, rfl⟩ : ∃ m, k = m + 1 := ⟨k - 1, by omega⟩
    simp only [laws_markIntS.l0]
    rw [if_pos (by simp [marks_len]; omega), if_pos (by omega), wr (x := s + (j : Int) + 1) (by omega) (by omega), wr (x := (j : Int) + 1) (by omega) (by omega)]
    have e := ih k (j + 1) (by omega) (by omega)
    have t : (marks s j ++ l.drop j).set ((j : Int)).toNat (s + j) = marks s (j + 1) ++ l.drop (j + 1) := by
      rw [show ((j : Int)).toNat = j from by simp, List.set_append_right _ _ (by rw [marks_len]; omega), marks_len, drop_cons l j (by omega), marks_snoc]
      simp
    rw [t, show s + (j : Int) + 1 = s + ((j + 1 : Nat) : Int) by omega]; exact_mod_cast e
theorem laws_markIntS_t (k : Nat) (l : List Int) (s : Int) (hs : 0 ≤ s ∧ s ≤ 100000000) (hl : l.length ≤ 1000000000000) (hk : l.length < k) : laws_markIntS.f k l s = some (s + l.length, marks s l.length) := by
  have e := laws_markIntS_l0 l s hs hl l.length k 0 (by omega) hk
  unfold laws_markIntS.f; simpa [marks] using e
theorem laws_heldIntS_l0 (n : Nat) (s : Int) (hs : 0 ≤ s ∧ s ≤ 100000000) (hl : n ≤ 1000000000000) (d : Nat) : ∀ (k j : Nat), j + d = n → d < k →
    laws_heldIntS.l0 k (marks s n) (s + j) (j : Int) = some (s + n) := by
  induction d with
  | zero =>
    intro k j hj hk
    obtain ⟨k, rfl⟩ : ∃ m, k = m + 1 := ⟨k - 1, by omega⟩
    simp only [laws_heldIntS.l0]
    rw [if_neg (by simp [marks_len]; omega), show j = n by omega]
  | succ d ih =>
    intro k j hj hk
    obtain ⟨k, rfl⟩ : ∃ m, k = m + 1 := ⟨k - 1, by omega⟩
    simp only [laws_heldIntS.l0]
    rw [if_pos (by simp [marks_len]; omega), if_pos (by omega), rd_nat, marks_get n s j (by omega), if_pos rfl, wr (x := s + (j : Int) + 1) (by omega) (by omega), wr (x := (j : Int) + 1) (by omega) (by omega)]
    have e := ih k (j + 1) (by omega) (by omega)
    rw [show s + (j : Int) + 1 = s + ((j + 1 : Nat) : Int) by omega]; exact_mod_cast e
theorem laws_heldIntS_t (k : Nat) (n : Nat) (s : Int) (hs : 0 ≤ s ∧ s ≤ 100000000) (hl : n ≤ 1000000000000) (hk : n < k) : laws_heldIntS.f k (marks s n) s = some (s + n) := by
  have e := laws_heldIntS_l0 n s hs hl n k 0 (by omega) hk
  unfold laws_heldIntS.f; simpa using e



theorem spec_l1In_t (a b c : Int) : spec_l1In.f a b c = some (decide (b ≤ a ∧ a ≤ c)) := by
  unfold spec_l1In.f
  by_cases h : a ≥ b
  · have h' : b ≤ a := h
    rw [if_pos h]; simp [h']
  · have h' : ¬ b ≤ a := h
    rw [if_neg h]; simp [h']

theorem redB_iff {l : List Int} : redB l = true ↔ (1 ≤ l.length ∧ l.length ≤ 30 ∧ ∀ x ∈ l, -2 ≤ x ∧ x ≤ 2) := by
  simp [redB, isR, List.all_eq_true, and_assoc]
theorem spec_IsRedundant_l0 (l : List Int) (hl : l.length ≤ 9000000000000000000) (d : Nat) : ∀ (k j : Nat), j + d = l.length → d < k →
    spec_IsRedundant.l0 k l l (l.length : Int) (j : Int) = some ((l.drop j).all isR && (decide (1 ≤ l.length) && decide (l.length ≤ 30))) := by
  induction d with
  | zero =>
    intro k j hj hk
    obtain ⟨k, rfl⟩ : ∃ m, k = m + 1 := ⟨k - 1, by omega⟩
    simp only [spec_IsRedundant.l0]
    rw [if_neg (by omega), List.drop_eq_nil_of_le (by omega), spec_l1In_t]; simp
    have : (1 : Int) ≤ (l.length : Int) ↔ 1 ≤ l.length := by omega
    have : (l.length : Int) ≤ 30 ↔ l.length ≤ 30 := by omega
    simp [*]
  | succ d ih =>
    intro k j hj hk
    obtain ⟨k, rfl⟩ : ∃ m, k = m + 1 := ⟨k - 1, by omega⟩
    simp only [spec_IsRedundant.l0]
    rw [if_pos (by omega), if_pos (by omega), if_pos (by omega), spec_l1In_t, rd_nat, drop_cons l j (by omega)]
    simp only [Option.bind_some, List.all_cons]
    have e := ih k (j + 1) (by omega) (by omega)
    have t : decide (-2 ≤ l.getD j 0 ∧ l.getD j 0 ≤ 2) = isR (l.getD j 0) := by simp [isR]
    rw [wr (by omega) (by omega), t]
    cases isR (l.getD j 0) with
    | false => rfl
    | true => simp only [if_true, Bool.true_and]; exact_mod_cast e
theorem spec_IsRedundant_t (k : Nat) (l : List Int) (hl : l.length ≤ 9000000000000000000) (hk : l.length < k) : spec_IsRedundant.f k l = some (redB l) := by
  have e := spec_IsRedundant_l0 l hl l.length k 0 (by omega) hk
  unfold spec_IsRedundant.f redB
  simp only [List.drop_zero] at e
  rw [Bool.and_comm] at e
  exact e

/-- The trit of a small number, and the carry. -/
def crd (n : Int) : Int × Int := if n > 1 then (n - 3, 1) else if n < -1 then (n + 3, -1) else (n, 0)
theorem impl_carried_t (n : Int) (h : -1000 ≤ n ∧ n ≤ 1000) : impl_carried.f n = some (crd n) := by
  unfold impl_carried.f crd
  by_cases h1 : n > 1
  · rw [if_pos h1, if_pos h1, wr (by omega) (by omega)]
  · rw [if_neg h1, if_neg h1]
    by_cases h2 : n < -1
    · rw [if_pos h2, if_pos h2, wr (by omega) (by omega)]
    · rw [if_neg h2, if_neg h2]

/-- The digits of a redundant sum, from a place on. -/
def addR : List Int → List Int → Int → List Int
  | a :: xs, b :: ys, t => ((crd (a + b)).1 + t) :: addR xs ys (crd (a + b)).2
  | _, _, t => [t]
theorem addR_len (a : List Int) : ∀ (b : List Int) (t : Int), (addR a b t).length ≤ a.length + 1 := by
  induction a with
  | nil => intro b t; simp [addR]
  | cons x xs ih =>
    intro b t
    cases b with
    | nil => simp [addR]
    | cons y ys => simp only [addR, List.length_cons]; have := ih ys (crd (x + y)).2; omega
/-- AddRedundant. -/
def addRed (a b : List Int) : List Int × Bool := if redB a = true ∧ redB b = true ∧ a.length = b.length ∧ a.length < 30 then (addR a b 0, true) else ([], false)
theorem addRed_len (a b : List Int) : (addRed a b).1.length ≤ 30 := by
  unfold addRed; split
  · rename_i h; have := addR_len a b 0; simp only; omega
  · simp
theorem crd_b (n : Int) (h : -4 ≤ n ∧ n ≤ 4) : -1 ≤ (crd n).1 ∧ (crd n).1 ≤ 1 ∧ -1 ≤ (crd n).2 ∧ (crd n).2 ≤ 1 := by
  unfold crd; split
  · simp; omega
  · split <;> simp <;> omega

theorem mem_getD (l : List Int) (j : Nat) (h : j < l.length) : l.getD j 0 ∈ l := by
  rw [List.getD_eq_getElem?_getD, List.getElem?_eq_getElem h]; exact List.getElem_mem h
theorem impl_AddRedundant_l0 (a b : List Int) (hab : a.length = b.length) (hl : a.length ≤ 30) (ha : ∀ x ∈ a, -2 ≤ x ∧ x ≤ 2) (hb : ∀ x ∈ b, -2 ≤ x ∧ x ≤ 2) (d : Nat) : ∀ (k j : Nat) (acc : List Int) (t : Int), j + d = a.length → d < k → acc.length = j → -1 ≤ t → t ≤ 1 →
    impl_AddRedundant.l0 k a b acc t (a.length : Int) (j : Int) = some (acc ++ addR (a.drop j) (b.drop j) t, true) := by
  induction d with
  | zero =>
    intro k j acc t hj hk hc _ _
    obtain ⟨k, rfl⟩ : ∃ m, k = m + 1 := ⟨k - 1, by omega⟩
    simp only [impl_AddRedundant.l0]
    rw [if_neg (by omega), if_pos (by omega), List.drop_of_length_le (by omega)]; rfl
  | succ d ih =>
    intro k j acc t hj hk hc t1 t2
    obtain ⟨k, rfl⟩ : ∃ m, k = m + 1 := ⟨k - 1, by omega⟩
    simp only [impl_AddRedundant.l0]
    have m1 := ha _ (mem_getD a j (by omega))
    have m2 := hb _ (mem_getD b j (by omega))
    have c := crd_b (a.getD j 0 + b.getD j 0) (by omega)
    have e := ih k (j + 1) (acc ++ [(crd (a.getD j 0 + b.getD j 0)).1 + t]) (crd (a.getD j 0 + b.getD j 0)).2 (by omega) (by omega) (by simp; omega) (by omega) (by omega)
    rw [drop_cons a j (by omega), drop_cons b j (by omega)]
    simp only [addR]
    rw [if_pos (by omega), if_pos (by omega), if_pos (by omega), if_pos (by omega), rd_nat, rd_nat, wr (x := a.getD j 0 + b.getD j 0) (by omega) (by omega), impl_carried_t _ (by omega)]
    simp only [Option.bind_some]
    rw [if_pos (by omega), wr (x := (crd (a.getD j 0 + b.getD j 0)).1 + t) (by omega) (by omega), wr (x := (j : Int) + 1) (by omega) (by omega)]
    rw [List.append_assoc] at e
    exact_mod_cast e
theorem spec_AddRedundant_l0 (a b : List Int) (hab : a.length = b.length) (hl : a.length ≤ 30) (ha : ∀ x ∈ a, -2 ≤ x ∧ x ≤ 2) (hb : ∀ x ∈ b, -2 ≤ x ∧ x ≤ 2) (d : Nat) : ∀ (k j : Nat) (acc : List Int) (t : Int), j + d = a.length → d < k → acc.length = j → -1 ≤ t → t ≤ 1 →
    spec_AddRedundant.l0 k b acc t a (a.length : Int) (j : Int) = some (acc ++ addR (a.drop j) (b.drop j) t, true) := by
  induction d with
  | zero =>
    intro k j acc t hj hk hc _ _
    obtain ⟨k, rfl⟩ : ∃ m, k = m + 1 := ⟨k - 1, by omega⟩
    simp only [spec_AddRedundant.l0]
    rw [if_neg (by omega), if_pos (by omega), List.drop_of_length_le (by omega)]; rfl
  | succ d ih =>
    intro k j acc t hj hk hc t1 t2
    obtain ⟨k, rfl⟩ : ∃ m, k = m + 1 := ⟨k - 1, by omega⟩
    simp only [spec_AddRedundant.l0]
    have m1 := ha _ (mem_getD a j (by omega))
    have m2 := hb _ (mem_getD b j (by omega))
    have c := crd_b (a.getD j 0 + b.getD j 0) (by omega)
    have e := ih k (j + 1) (acc ++ [(crd (a.getD j 0 + b.getD j 0)).1 + t]) (crd (a.getD j 0 + b.getD j 0)).2 (by omega) (by omega) (by simp; omega) (by omega) (by omega)
    rw [List.append_assoc] at e
    rw [drop_cons a j (by omega), drop_cons b j (by omega)]
    simp only [addR]
    rw [if_pos (by omega), if_pos (by omega), if_pos (by omega), if_pos (by omega), rd_nat, rd_nat, wr (x := a.getD j 0 + b.getD j 0) (by omega) (by omega), wr (x := (j : Int) + 1) (by omega) (by omega)]
    generalize hs : a.getD j 0 + b.getD j 0 = s at *
    by_cases c1 : s ≥ 2
    · have h1 : crd s = (s - 3, 1) := by unfold crd; rw [if_pos (by omega)]
      rw [h1] at e ⊢
      rw [if_pos c1, if_neg (by omega), if_pos (by omega), wr (x := s - 3 * 1) (by omega) (by omega), wr (by omega) (by omega), show s - 3 * 1 + t = s - 3 + t by omega]
      exact_mod_cast e
    · rw [if_neg c1]
      by_cases c2 : s ≤ -2
      · have h1 : crd s = (s + 3, -1) := by unfold crd; rw [if_neg (by omega), if_pos (by omega)]
        rw [h1] at e ⊢
        rw [if_pos c2, if_pos (by omega), wr (x := s - 3 * -1) (by omega) (by omega), wr (by omega) (by omega), show s - 3 * -1 + t = s + 3 + t by omega]
        exact_mod_cast e
      · have h1 : crd s = (s, 0) := by unfold crd; rw [if_neg (by omega), if_neg (by omega)]
        rw [h1] at e ⊢
        rw [if_neg c2, if_pos (by omega), wr (x := s) (by omega) (by omega), wr (by omega) (by omega)]
        exact_mod_cast e
theorem impl_AddRedundant_t (k : Nat) (a b : List Int) (hk : 50 < k) : impl_AddRedundant.f k a b = some (addRed a b) := by
  unfold impl_AddRedundant.f addRed impl_IsRedundant.f
  obtain ⟨k, rfl⟩ : ∃ m, k = m + 1 := ⟨k - 1, by omega⟩
  simp only [Option.bind_some, impl_AddRedundant.j0]
  by_cases h1 : redB a = true
  · rw [if_pos h1]
    by_cases h2 : redB b = true
    · rw [if_pos h2]
      have w1 := redB_iff.mp h1
      have w2 := redB_iff.mp h2
      by_cases h3 : a.length = b.length
      · rw [if_pos (by omega)]
        by_cases h4 : a.length < 30
        · rw [if_neg (by simp; omega), if_pos ⟨h1, h2, h3, h4⟩]
          have e := impl_AddRedundant_l0 a b h3 (by omega) w1.2.2 w2.2.2 a.length k 0 [] 0 (by omega) (by omega) rfl (by omega) (by omega)
          simpa using e
        · rw [if_pos (by simp; omega), if_neg (fun x => h4 x.2.2.2)]
      · rw [if_neg (by omega)]; simp only [if_true]; rw [if_neg (fun x => h3 x.2.2.1)]
    · rw [if_neg h2]; simp only [if_true]; rw [if_neg (fun x => h2 x.2.1)]
  · rw [if_neg h1]; simp only [if_true]; rw [if_neg (fun x => h1 x.1)]
theorem spec_AddRedundant_t (k : Nat) (a b : List Int) (ha : a.length ≤ 9000000000000000000) (hb : b.length ≤ 9000000000000000000) (hk : 50 + a.length + b.length < k) : spec_AddRedundant.f k a b = some (addRed a b) := by
  unfold spec_AddRedundant.f addRed
  obtain ⟨k, rfl⟩ : ∃ m, k = m + 1 := ⟨k - 1, by omega⟩
  rw [spec_IsRedundant_t _ a ha (by omega), spec_IsRedundant_t _ b hb (by omega)]
  simp only [Option.bind_some, spec_AddRedundant.j0]
  by_cases h1 : redB a = true
  · rw [if_pos h1]
    by_cases h2 : redB b = true
    · rw [if_pos h2]
      have w1 := redB_iff.mp h1
      have w2 := redB_iff.mp h2
      by_cases h3 : a.length = b.length
      · rw [if_pos (by omega)]
        by_cases h4 : a.length < 30
        · rw [if_neg (by simp; omega), if_pos ⟨h1, h2, h3, h4⟩]
          have e := spec_AddRedundant_l0 a b h3 (by omega) w1.2.2 w2.2.2 a.length k 0 [] 0 (by omega) (by omega) rfl (by omega) (by omega)
          simpa using e
        · rw [if_pos (by simp; omega), if_neg (fun x => h4 x.2.2.2)]
      · rw [if_neg (by omega)]; simp only [if_true]; rw [if_neg (fun x => h3 x.2.2.1)]
    · rw [if_neg h2]; simp only [if_true]; rw [if_neg (fun x => h2 x.2.1)]
  · rw [if_neg h1]; simp only [if_true]; rw [if_neg (fun x => h1 x.1)]
theorem FnExactAddRedundant : laws_FnExactAddRedundant.Pure := by
  intro a b h1 h2 h3 _ _ _
  refine ⟨a.length + b.length + 200, ?_⟩
  unfold laws_FnExactAddRedundant.f
  split
  · rfl
  · split
    · rfl
    · have hl := addRed_len a b
      simp (disch := omega) only [laws_toIntS_t, Option.bind_some, spec_AddRedundant_t, impl_AddRedundant_t, laws_eqIntS_t, decide_true, if_true, laws_markIntS_t, laws_heldIntS_t, lt0a, lt0b, if_false, Bool.not_true, Bool.false_eq_true, bne_self_eq_false]
      simp (disch := omega) only [laws_FnExactAddRedundant.j0, laws_toIntS_t, Option.bind_some, spec_AddRedundant_t, impl_AddRedundant_t, laws_eqIntS_t, decide_true, if_true, laws_markIntS_t, laws_heldIntS_t, lt0a, lt0b, if_false, Bool.not_true, Bool.false_eq_true, bne_self_eq_false]
      simp (disch := omega) only [laws_FnExactAddRedundant.j1, laws_toIntS_t, Option.bind_some, spec_AddRedundant_t, impl_AddRedundant_t, laws_eqIntS_t, decide_true, if_true, laws_markIntS_t, laws_heldIntS_t, lt0a, lt0b, if_false, Bool.not_true, Bool.false_eq_true, bne_self_eq_false]
      simp (disch := omega) only [laws_FnExactAddRedundant.j2, laws_toIntS_t, Option.bind_some, spec_AddRedundant_t, impl_AddRedundant_t, laws_eqIntS_t, decide_true, if_true, laws_markIntS_t, laws_heldIntS_t, lt0a, lt0b, if_false, Bool.not_true, Bool.false_eq_true, bne_self_eq_false]

end Go.Proofs.Ytjbcjkpbggaknaa.Pure.InFnExactAddRedundant
namespace Go.Proofs.Ytjbcjkpbggaknaa.Pure
theorem FnExactAddRedundant : QFnExactAddRedundant.laws_FnExactAddRedundant.Pure := InFnExactAddRedundant.FnExactAddRedundant
end Go.Proofs.Ytjbcjkpbggaknaa.Pure
