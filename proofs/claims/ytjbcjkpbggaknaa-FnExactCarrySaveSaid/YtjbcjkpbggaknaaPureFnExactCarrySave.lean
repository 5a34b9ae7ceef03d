/- FnExactCarrySave: CarrySave of program and reference agree for all arguments, the lists stay as they were, and the results share no memory. No condition. -/
import Derived.Test.YtjbcjkpbggaknaaQFnExactCarrySavex4
set_option linter.unusedVariables false
set_option linter.unusedSimpArgs false
namespace Go.Proofs.Ytjbcjkpbggaknaa.Pure.InFnExactCarrySave
open Go.RowKit Go.Proofs.Ytjbcjkpbggaknaa.QFnExactCarrySave Go.Proofs.YtjbcjkpbggaknaaW.PrintWords Go.Proofs.YtjbcjkpbggaknaaW.PrintLast Go.Proofs.YtjbcjkpbggaknaaW.PrintMore

theorem lt0a (n : Nat) : (1 + (n : Int) < 0) = False := by simp; omega
theorem lt0b (n m : Nat) : (1 + (n : Int) + (m : Int) < 0) = False := by simp; omega
theorem lt0c (n m q : Nat) : (1 + (n : Int) + (m : Int) + (q : Int) < 0) = False := by simp; omega

theorem wr {x : Int} (h1 : -9223372036854775808 ≤ x) (h2 : x ≤ 9223372036854775807) : wrap64 x = x := by unfold wrap64; omega
theorem wfB {a : Int} (h : (Lit.int .i64 a).wf = true) : -9223372036854775808 ≤ a ∧ a ≤ 9223372036854775807 := by
  have h' := h
  simp only [Lit.wf, Bool.and_eq_true, decide_eq_true_eq] at h'
  exact h'
/-- A trit. -/
def isT (a : Int) : Bool := decide (-1 ≤ a ∧ a ≤ 1)
theorem isT_iff {a : Int} : isT a = true ↔ (-1 ≤ a ∧ a ≤ 1) := by simp [isT]

theorem rd_nat (l : List Int) (j : Nat) : rd l (j : Int) = l.getD j 0 := by unfold rd; simp
theorem drop_cons (l : List Int) (j : Nat) (h : j < l.length) : l.drop j = l.getD j 0 :: l.drop (j + 1) := by
  rw [List.drop_eq_getElem_cons h]; simp [List.getD_eq_getElem?_getD, h]
theorem take_snoc (l : List Int) (j : Nat) (h : j < l.length) : l.take (j + 1) = l.take j ++ [l.getD j 0] := by
  rw [List.take_succ_eq_append_getElem h]; simp [List.getD_eq_getElem?_getD, h]

theorem laws_toIntS_l0 (l : List Int) (hl : l.length ≤ 35184372088832) (d : Nat) : ∀ (k j : Nat), j + d = l.length → d < k →
    laws_toIntS.l0 k l (l.take j ++ List.replicate (l.length - j) 0) (j : Int) = some l := by
  induction d with
  | zero =>
    intro k j hj hk
    obtain ⟨k, rfl⟩ : ∃ m, k = m + 1 := ⟨k - 1, by omega⟩
    simp only [laws_toIntS.l0]
    rw [if_neg (by omega), show j = l.length by omega]; simp
  | succ d ih =>
    intro k j hj hk
    obtain ⟨k, rfl⟩ : ∃ m, k = m + 1 := ⟨k - 1, by omega⟩
    simp only [laws_toIntS.l0]
    rw [if_pos (by omega), if_pos (by omega), if_pos (by simp; omega), rd_nat, wr (by omega) (by omega)]
    have e := ih k (j + 1) (by omega) (by omega)
    have s : (l.take j ++ List.replicate (l.length - j) 0).set ((j : Int)).toNat (l.getD j 0) = l.take (j + 1) ++ List.replicate (l.length - (j + 1)) 0 := by
      have hlen : (l.take j).length = j := by simp; omega
      rw [show ((j : Int)).toNat = j from by simp, List.set_append_right _ _ (by omega), take_snoc l j (by omega),
        show l.length - j = (l.length - (j + 1)) + 1 by omega, List.replicate_succ, hlen]
      simp
    rw [s]; exact_mod_cast e
theorem laws_toIntS_t (k : Nat) (l : List Int) (hl : l.length ≤ 35184372088832) (hk : l.length < k) : laws_toIntS.f k l = some l := by
  have e := laws_toIntS_l0 l hl l.length k 0 (by omega) hk
  unfold laws_toIntS.f
  rw [if_pos (by omega), if_pos (by simpa using hl)]
  simpa using e

theorem laws_eqIntS_l0 (a b : List Int) (hab : a.length = b.length) (hl : a.length ≤ 9000000000000000000) (d : Nat) : ∀ (k j : Nat), j + d = a.length → d < k →
    laws_eqIntS.l0 k a b (j : Int) = some (decide (a.drop j = b.drop j)) := by
  induction d with
  | zero =>
    intro k j hj hk
    obtain ⟨k, rfl⟩ : ∃ m, k = m + 1 := ⟨k - 1, by omega⟩
    simp only [laws_eqIntS.l0]
    rw [if_neg (by omega), List.drop_eq_nil_of_le (by omega), List.drop_eq_nil_of_le (by omega)]; simp
  | succ d ih =>
    intro k j hj hk
    obtain ⟨k, rfl⟩ : ∃ m, k = m + 1 := ⟨k - 1, by omega⟩
    simp only [laws_eqIntS.l0]
    rw [if_pos (by omega), if_pos (by omega), if_pos (by omega), rd_nat, rd_nat, wr (by omega) (by omega), drop_cons a j (by omega), drop_cons b j (by omega)]
    have e := ih k (j + 1) (by omega) (by omega)
    by_cases h : a.getD j 0 = b.getD j 0
    · rw [if_pos h, h]; simp only [List.cons.injEq, true_and]; exact_mod_cast e
    · rw [if_neg h]; simp only [List.cons.injEq, h, false_and, decide_false]
theorem laws_eqIntS_t (k : Nat) (a b : List Int) (hl : a.length ≤ 9000000000000000000) (hk : a.length < k) : laws_eqIntS.f k a b = some (decide (a = b)) := by
  unfold laws_eqIntS.f
  by_cases h : a.length = b.length
  · rw [if_pos (by omega)]
    have e := laws_eqIntS_l0 a b h hl a.length k 0 (by omega) hk
    simpa using e
  · rw [if_neg (by omega)]
    have : ¬ a = b := fun e => h (by rw [e])
    simp [this]

/-- The numbers from s on. -/
def marks : Int → Nat → List Int
  | _, 0 => []
  | s, n + 1 => s :: marks (s + 1) n
theorem marks_len (n : Nat) : ∀ s, (marks s n).length = n := by
  induction n with
  | zero => intro s; rfl
  | succ n ih => intro s; simp [marks, ih]
theorem marks_snoc (n : Nat) : ∀ s, marks s (n + 1) = marks s n ++ [s + n] := by
  induction n with
  | zero => intro s; simp [marks]
  | succ n ih => intro s; rw [marks, ih (s + 1)]; simp only [marks, List.cons_append]; congr 3; omega
theorem marks_get (n : Nat) : ∀ (s : Int) (j : Nat), j < n → (marks s n).getD j 0 = s + j := by
  induction n with
  | zero => intro s j h; omega
  | succ n ih =>
    intro s j h
    cases j with
    | zero => simp [marks]
    | succ j => have := ih (s + 1) j (by omega); simp only [marks, List.getD_cons_succ]; rw [this]; omega
theorem laws_markIntS_l0 (l : List Int) (s : Int) (hs : 0 ≤ s ∧ s ≤ 100000000) (hl : l.length ≤ 1000000000000) (d : Nat) : ∀ (k j : Nat), j + d = l.length → d < k →
    laws_markIntS.l0 k (marks s j ++ l.drop j) (s + j) (j : Int) = some (s + l.length, marks s l.length) := by
  induction d with
  | zero =>
    intro k j hj hk
    obtain ⟨k, rfl⟩ : ∃ m, k = m + 1 := ⟨k - 1, by omega⟩
    simp only [laws_markIntS.l0]
    rw [if_neg (by simp [marks_len]; omega), List.drop_eq_nil_of_le (by omega), show j = l.length by omega]; simp
  | succ d ih =>
    intro k j hj hk
    obtain ⟨k, rfl⟩ : ∃ m, k = m + 1 := ⟨k - 1, by omega⟩
    simp only [laws_markIntS.l0]
    rw [if_pos (by simp [marks_len]; omega), if_pos (by omega), wr (x := s + (j : Int) + 1) (by omega) (by omega), wr (x := (j : Int) + 1) (by omega) (by omega)]
    have e := ih k (j + 1) (by omega) (by omega)
    have t : (marks s j ++ l.drop j).set ((j : Int)).toNat (s + j) = marks s (j + 1) ++ l.drop (j + 1) := by
      rw [show ((j : Int)).toNat = j from by simp, List.set_append_right _ _ (by rw [marks_len]; omega), marks_len, drop_cons l j (by omega), marks_snoc]
      simp
    rw [t, show s + (j : Int) + 1 = s + ((j + 1 : Nat) : Int) by omega]; exact_mod_cast e
theorem laws_markIntS_t (k : Nat) (l : List Int) (s : Int) (hs : 0 ≤ s ∧ s ≤ 100000000) (hl : l.length ≤ 1000000000000) (hk : l.length < k) : laws_markIntS.f k l s = some (s + l.length, marks s l.length) := by
  have e := laws_markIntS_l0 l s hs hl l.length k 0 (by omega) hk
  unfold laws_markIntS.f; simpa [marks] using e
theorem laws_heldIntS_l0 (n : Nat) (s : Int) (hs : 0 ≤ s ∧ s ≤ 100000000) (hl : n ≤ 1000000000000) (d : Nat) : ∀ (k j : Nat), j + d = n → d < k →
    laws_heldIntS.l0 k (marks s n) (s + j) (j : Int) = some (s + n) := by
  induction d with
  | zero =>
    intro k j hj hk
    obtain ⟨k, rfl⟩ : ∃ m, k = m + 1 := ⟨k - 1, by omega⟩
    simp only [laws_heldIntS.l0]
    rw [if_neg (by simp [marks_len]; omega), show j = n by omega]
  | succ d ih =>
    intro k j hj hk
    obtain ⟨k, rfl⟩ : ∃ m, k = m + 1 := ⟨k - 1, by omega⟩
    simp only [laws_heldIntS.l0]
    rw [if_pos (by simp [marks_len]; omega), if_pos (by omega), rd_nat, marks_get n s j (by omega), if_pos rfl, wr (x := s + (j : Int) + 1) (by omega) (by omega), wr (x := (j : Int) + 1) (by omega) (by omega)]
    have e := ih k (j + 1) (by omega) (by omega)
    rw [show s + (j : Int) + 1 = s + ((j + 1 : Nat) : Int) by omega]; exact_mod_cast e
theorem laws_heldIntS_t (k : Nat) (n : Nat) (s : Int) (hs : 0 ≤ s ∧ s ≤ 100000000) (hl : n ≤ 1000000000000) (hk : n < k) : laws_heldIntS.f k (marks s n) s = some (s + n) := by
  have e := laws_heldIntS_l0 n s hs hl n k 0 (by omega) hk
  unfold laws_heldIntS.f; simpa using e



/-- A word. -/
def isW (l : List Int) : Bool := decide (1 ≤ l.length) && decide (l.length ≤ 30) && l.all isT
theorem isW_iff {l : List Int} : isW l = true ↔ (1 ≤ l.length ∧ l.length ≤ 30 ∧ ∀ x ∈ l, -1 ≤ x ∧ x ≤ 1) := by
  simp [isW, isT, List.all_eq_true, and_assoc]
/-- The value of digits, the lowest first. -/
def val : List Int → Int
  | [] => 0
  | a :: l => 3 * val l + a

theorem spec_l1In_t (a b c : Int) : spec_l1In.f a b c = some (decide (b ≤ a ∧ a ≤ c)) := by
  unfold spec_l1In.f
  by_cases h : a ≥ b
  · have h' : b ≤ a := h
    rw [if_pos h]; simp [h']
  · have h' : ¬ b ≤ a := h
    rw [if_neg h]; simp [h']

theorem spec_IsTrit_t (a : Int) : spec_IsTrit.f a = some (isT a) := by
  unfold spec_IsTrit.f; rw [spec_l1In_t]; rfl

theorem spec_IsWord_l0 (l : List Int) (hl : l.length ≤ 9000000000000000000) (d : Nat) : ∀ (k j : Nat), j + d = l.length → d < k →
    spec_IsWord.l0 k l l (l.length : Int) (j : Int) = some ((l.drop j).all isT && (decide (1 ≤ l.length) && decide (l.length ≤ 30))) := by
  induction d with
  | zero =>
    intro k j hj hk
    obtain ⟨k, rfl⟩ : ∃ m, k = m + 1 := ⟨k - 1, by omega⟩
    simp only [spec_IsWord.l0]
    rw [if_neg (by omega), List.drop_eq_nil_of_le (by omega), spec_l1In_t]; simp
    have : (1 : Int) ≤ (l.length : Int) ↔ 1 ≤ l.length := by omega
    have : (l.length : Int) ≤ 30 ↔ l.length ≤ 30 := by omega
    simp [*]
  | succ d ih =>
    intro k j hj hk
    obtain ⟨k, rfl⟩ : ∃ m, k = m + 1 := ⟨k - 1, by omega⟩
    simp only [spec_IsWord.l0]
    rw [if_pos (by omega), if_pos (by omega), if_pos (by omega), spec_IsTrit_t, rd_nat, drop_cons l j (by omega)]
    simp only [Option.bind_some, List.all_cons]
    have e := ih k (j + 1) (by omega) (by omega)
    rw [wr (by omega) (by omega)]
    cases isT (l.getD j 0) with
    | false => rfl
    | true => simp only [if_true, Bool.true_and]; exact_mod_cast e
theorem spec_IsWord_t (k : Nat) (l : List Int) (hl : l.length ≤ 9000000000000000000) (hk : l.length < k) : spec_IsWord.f k l = some (isW l) := by
  have e := spec_IsWord_l0 l hl l.length k 0 (by omega) hk
  unfold spec_IsWord.f isW
  simp only [List.drop_zero] at e
  rw [Bool.and_comm] at e
  exact e

theorem spec_l3Fit_t (k : Nat) (a b : List Int) (ha : a.length ≤ 9000000000000000000) (hb : b.length ≤ 9000000000000000000) (hk : a.length + b.length < k) : spec_l3Fit.f k a b = some (isW a && isW b && decide (a.length = b.length)) := by
  unfold spec_l3Fit.f
  rw [spec_IsWord_t k a ha (by omega), spec_IsWord_t k b hb (by omega)]; simp only [Option.bind_some]
  cases isW a
  · rfl
  · cases isW b
    · rfl
    · simp only [if_true, Bool.true_and]; congr 1; rw [Bool.eq_iff_iff]; simp; omega

theorem spec_l1Two_t (a b : Int) : spec_l1Two.f a b = some (isT a && isT b) := by
  unfold spec_l1Two.f; rw [spec_IsTrit_t, spec_IsTrit_t]; cases isT a <;> simp

/-- The trit of a small number, and the carry. -/
def crd (n : Int) : Int × Int := if n > 1 then (n - 3, 1) else if n < -1 then (n + 3, -1) else (n, 0)
theorem impl_carried_t (n : Int) (h : -1000 ≤ n ∧ n ≤ 1000) : impl_carried.f n = some (crd n) := by
  unfold impl_carried.f crd
  by_cases h1 : n > 1
  · rw [if_pos h1, if_pos h1, wr (by omega) (by omega)]
  · rw [if_neg h1, if_neg h1]
    by_cases h2 : n < -1
    · rw [if_pos h2, if_pos h2, wr (by omega) (by omega)]
    · rw [if_neg h2, if_neg h2]

theorem spec_l1Parts_1a (n c : Int) (k : Nat) (hk : 1 < k) (h : ¬ n < -1) : spec_l1Parts.l1 k n c = some (n, c) := by
  obtain ⟨k, rfl⟩ : ∃ m, k = m + 1 := ⟨k - 1, by omega⟩
  simp only [spec_l1Parts.l1]; rw [if_neg h]
theorem spec_l1Parts_1b (n c : Int) (k : Nat) (hk : 2 < k) (h : n < -1) (hn : -4 ≤ n) (hc : -5 ≤ c ∧ c ≤ 5) : spec_l1Parts.l1 k n c = some (n + 3, c - 1) := by
  obtain ⟨k, rfl⟩ : ∃ m, k = m + 1 := ⟨k - 1, by omega⟩
  simp only [spec_l1Parts.l1]; rw [if_pos h, wr (by omega) (by omega), wr (by omega) (by omega)]
  exact spec_l1Parts_1a _ _ _ (by omega) (by omega)
theorem spec_l1Parts_t (k : Nat) (hk : 5 < k) (n : Int) (h : -4 ≤ n ∧ n ≤ 4) : spec_l1Parts.f k n = some (crd n) := by
  unfold spec_l1Parts.f crd
  obtain ⟨k, rfl⟩ : ∃ m, k = m + 1 := ⟨k - 1, by omega⟩
  simp only [spec_l1Parts.l0]
  by_cases h1 : n > 1
  · rw [if_pos h1, if_pos h1, wr (by omega) (by omega), wr (by omega) (by omega)]
    obtain ⟨k, rfl⟩ : ∃ m, k = m + 1 := ⟨k - 1, by omega⟩
    simp only [spec_l1Parts.l0]
    rw [if_neg (by omega)]
    exact spec_l1Parts_1a _ _ _ (by omega) (by omega)
  · rw [if_neg h1, if_neg h1]
    by_cases h2 : n < -1
    · rw [if_pos h2]; exact spec_l1Parts_1b _ _ _ (by omega) h2 (by omega) (by omega)
    · rw [if_neg h2]; exact spec_l1Parts_1a _ _ _ (by omega) h2

theorem spec_FullAdd_t (k : Nat) (a b c : Int) (ha : -1 ≤ a ∧ a ≤ 1) (hb : -1 ≤ b ∧ b ≤ 1) (hc : -1 ≤ c ∧ c ≤ 1) (hk : 8 < k) : spec_FullAdd.f k a b c = some (crd (a + b + c)) := by
  unfold spec_FullAdd.f
  rw [spec_l1Two_t, spec_IsTrit_t]
  simp only [Option.bind_some, isT_iff.mpr ha, isT_iff.mpr hb, isT_iff.mpr hc, Bool.and_true, if_true]
  rw [wr (x := a + b) (by omega) (by omega), wr (by omega) (by omega), spec_l1Parts_t _ (by omega) _ (by omega)]; rfl

/-- Three words saved as two: the trits, and the carries. -/
def csL : List Int → List Int → List Int → List Int × List Int
  | a :: xs, b :: ys, c :: zs => ((crd (a + b + c)).1 :: (csL xs ys zs).1, (crd (a + b + c)).2 :: (csL xs ys zs).2)
  | _, _, _ => ([], [])
theorem csL_len (a : List Int) : ∀ (b c : List Int), (csL a b c).1.length ≤ a.length ∧ (csL a b c).2.length ≤ a.length := by
  induction a with
  | nil => intro b c; simp [csL]
  | cons x xs ih =>
    intro b c
    cases b with
    | nil => simp [csL]
    | cons y ys =>
      cases c with
      | nil => simp [csL]
      | cons z zs => simp only [csL, List.length_cons]; have := ih ys zs; omega
theorem csL_len2 (a : List Int) : ∀ (b c : List Int), a.length = b.length → a.length = c.length → (csL a b c).2.length = a.length := by
  induction a with
  | nil => intro b c _ _; simp [csL]
  | cons x xs ih =>
    intro b c hb hc
    cases b with
    | nil => simp at hb
    | cons y ys =>
      cases c with
      | nil => simp at hc
      | cons z zs => simp only [csL, List.length_cons] at *; have := ih ys zs (by omega) (by omega); omega
/-- CarrySave. -/
def csW (a b c : List Int) : List Int × List Int × Bool := if isW a = true ∧ isW b = true ∧ isW c = true ∧ a.length = b.length ∧ a.length = c.length then ((csL a b c).1, (0 :: (csL a b c).2).take a.length, true) else ([], [], false)
theorem csW_len (a b c : List Int) : (csW a b c).1.length ≤ 30 ∧ (csW a b c).2.1.length ≤ 30 := by
  unfold csW; split
  · rename_i h; have hw := isW_iff.mp h.1; have := csL_len a b c; simp only [List.length_take]; omega
  · simp
theorem mem_getD1 (l : List Int) (j : Nat) (h : j < l.length) : l.getD j 0 ∈ l := by
  rw [List.getD_eq_getElem?_getD, List.getElem?_eq_getElem h]; exact List.getElem_mem h

theorem impl_IsTrit_t (a : Int) : impl_IsTrit.f a = some (isT a) := by
  unfold impl_IsTrit.f isT
  by_cases h : a ≥ -1
  · have h' : -1 ≤ a := h
    rw [if_pos h]; simp [h']
  · have h' : ¬ -1 ≤ a := h
    rw [if_neg h]; simp [h']

theorem impl_trits_l0 (l : List Int) (hl : l.length ≤ 9000000000000000000) (d : Nat) : ∀ (k j : Nat), j + d = l.length → d < k →
    impl_trits.l0 k l (l.length : Int) (j : Int) = some ((l.drop j).all isT) := by
  induction d with
  | zero =>
    intro k j hj hk
    obtain ⟨k, rfl⟩ : ∃ m, k = m + 1 := ⟨k - 1, by omega⟩
    simp only [impl_trits.l0]
    rw [if_neg (by omega), List.drop_eq_nil_of_le (by omega)]; rfl
  | succ d ih =>
    intro k j hj hk
    obtain ⟨k, rfl⟩ : ∃ m, k = m + 1 := ⟨k - 1, by omega⟩
    simp only [impl_trits.l0]
    rw [if_pos (by omega), if_pos (by omega), if_pos (by omega), impl_IsTrit_t, rd_nat, drop_cons l j (by omega)]
    simp only [Option.bind_some, List.all_cons]
    have e := ih k (j + 1) (by omega) (by omega)
    rw [wr (by omega) (by omega)]
    cases isT (l.getD j 0) with
    | false => rfl
    | true => simp only [if_true, Bool.true_and]; exact_mod_cast e
theorem impl_trits_t (k : Nat) (l : List Int) (hl : l.length ≤ 9000000000000000000) (hk : l.length < k) : impl_trits.f k l = some (l.all isT) := by
  have e := impl_trits_l0 l hl l.length k 0 (by omega) hk
  unfold impl_trits.f; simpa using e

theorem impl_FullAdd_t (k : Nat) (a b c : Int) (ha : -1 ≤ a ∧ a ≤ 1) (hb : -1 ≤ b ∧ b ≤ 1) (hc : -1 ≤ c ∧ c ≤ 1) (hk : 5 < k) : impl_FullAdd.f k a b c = some (crd (a + b + c)) := by
  unfold impl_FullAdd.f
  rw [impl_trits_t k _ (by simp) (by simp; omega)]
  simp only [List.all_cons, List.all_nil, Bool.and_true, Option.bind_some, isT_iff.mpr ha, isT_iff.mpr hb, isT_iff.mpr hc, if_true]
  rw [wr (x := a + b) (by omega) (by omega), wr (by omega) (by omega), impl_carried_t _ (by omega)]; rfl
theorem crd_trit (n : Int) (h : -3 ≤ n ∧ n ≤ 3) : (-1 ≤ (crd n).1 ∧ (crd n).1 ≤ 1) ∧ (-1 ≤ (crd n).2 ∧ (crd n).2 ≤ 1) := by
  unfold crd; split
  · simp; omega
  · split <;> simp <;> omega

theorem impl_IsWord_t (k : Nat) (l : List Int) (hk : 30 < k) : impl_IsWord.f k l = some (isW l) := by
  unfold impl_IsWord.f isW
  by_cases h1 : 1 ≤ l.length
  · rw [if_pos (by omega)]
    by_cases h2 : l.length ≤ 30
    · rw [if_pos (by omega), impl_trits_t k l (by omega) (by omega)]; simp [h1, h2]
    · rw [if_neg (by omega)]; simp [h2]
  · rw [if_neg (by omega)]; simp [h1]

theorem same2 (a b : List Int) : impl_sameLength.f [a, b] = some (isW a && isW b && decide (b.length = a.length)) := by
  simp [impl_sameLength.f, goodS, impl_IsWord_t, Bool.and_assoc]
theorem same3 (a b c : List Int) : impl_sameLength.f [a, b, c] = some (isW a && (isW b && decide (b.length = a.length)) && (isW c && decide (c.length = a.length))) := by
  simp [impl_sameLength.f, goodS, impl_IsWord_t, Bool.and_assoc]

theorem impl_CarrySave_l0 (a b c : List Int) (hab : a.length = b.length) (hac : a.length = c.length) (hl : a.length ≤ 30) (ha : ∀ x ∈ a, -1 ≤ x ∧ x ≤ 1) (hb : ∀ x ∈ b, -1 ≤ x ∧ x ≤ 1) (hc : ∀ x ∈ c, -1 ≤ x ∧ x ≤ 1) (d : Nat) : ∀ (k j : Nat) (s1 s2 : List Int), j + d = a.length → d + 10 < k → s1.length = j → s2.length = j + 1 →
    impl_CarrySave.l0 k a b c s1 s2 (a.length : Int) (j : Int) = some (s1 ++ (csL (a.drop j) (b.drop j) (c.drop j)).1, (s2 ++ (csL (a.drop j) (b.drop j) (c.drop j)).2).take a.length, true) := by
  induction d with
  | zero =>
    intro k j s1 s2 hj hk _ _
    obtain ⟨k, rfl⟩ : ∃ m, k = m + 1 := ⟨k - 1, by omega⟩
    simp only [impl_CarrySave.l0]
    rw [if_neg (by omega), if_pos (by omega), if_pos (by omega), List.drop_of_length_le (by omega)]; simp [csL]
  | succ d ih =>
    intro k j s1 s2 hj hk l1 l2
    obtain ⟨k, rfl⟩ : ∃ m, k = m + 1 := ⟨k - 1, by omega⟩
    simp only [impl_CarrySave.l0]
    have m1 := ha _ (mem_getD1 a j (by omega))
    have m2 := hb _ (mem_getD1 b j (by omega))
    have m3 := hc _ (mem_getD1 c j (by omega))
    have e := ih k (j + 1) (s1 ++ [(crd (a.getD j 0 + b.getD j 0 + c.getD j 0)).1]) (s2 ++ [(crd (a.getD j 0 + b.getD j 0 + c.getD j 0)).2]) (by omega) (by omega) (by simp; omega) (by simp; omega)
    rw [drop_cons a j (by omega), drop_cons b j (by omega), drop_cons c j (by omega)]
    simp only [csL]
    rw [if_pos (by omega), if_pos (by omega), if_pos (by omega), if_pos (by omega), if_pos (by omega), rd_nat, rd_nat, rd_nat, impl_FullAdd_t k _ _ _ m1 m2 m3 (by omega)]
    simp only [Option.bind_some]
    rw [if_pos (by omega), if_pos (by omega), wr (x := (j : Int) + 1) (by omega) (by omega)]
    rw [List.append_assoc, List.append_assoc] at e
    exact_mod_cast e
theorem impl_CarrySave_t (k : Nat) (a b c : List Int) (hk : 60 < k) : impl_CarrySave.f k a b c = some (csW a b c) := by
  unfold impl_CarrySave.f csW
  rw [same3]; simp only [Option.bind_some]
  by_cases h1 : isW a = true ∧ isW b = true ∧ isW c = true ∧ a.length = b.length ∧ a.length = c.length
  · have wa := isW_iff.mp h1.1
    have wb := isW_iff.mp h1.2.1
    have wc := isW_iff.mp h1.2.2.1
    have e := impl_CarrySave_l0 a b c h1.2.2.2.1 h1.2.2.2.2 wa.2.1 wa.2.2 wb.2.2 wc.2.2 a.length k 0 [] [0] (by omega) (by omega) rfl rfl
    simp only [List.drop_zero, List.nil_append, Int.natCast_zero, List.cons_append] at e
    rw [if_pos (by simp only [h1.1, h1.2.1, h1.2.2.1, Bool.true_and, Bool.and_eq_true, decide_eq_true_eq]; omega), if_pos h1]; exact e
  · rw [if_neg (by simp only [Bool.and_eq_true, decide_eq_true_eq]; exact fun x => h1 ⟨x.1.1, x.1.2.1, x.2.1, x.1.2.2.symm, x.2.2.symm⟩), if_neg h1]

theorem spec_CarrySave_l0 (a b c : List Int) (hab : a.length = b.length) (hac : a.length = c.length) (hl : a.length ≤ 30) (ha : ∀ x ∈ a, -1 ≤ x ∧ x ≤ 1) (hb : ∀ x ∈ b, -1 ≤ x ∧ x ≤ 1) (hc : ∀ x ∈ c, -1 ≤ x ∧ x ≤ 1) (d : Nat) : ∀ (k j : Nat) (s1 s2 : List Int), j + d = a.length → d + 10 < k → s1.length = j → s2.length = j + 1 →
    spec_CarrySave.l0 k a b c s1 s2 a (a.length : Int) (j : Int) = some (s1 ++ (csL (a.drop j) (b.drop j) (c.drop j)).1, (s2 ++ (csL (a.drop j) (b.drop j) (c.drop j)).2).take a.length, true) := by
  induction d with
  | zero =>
    intro k j s1 s2 hj hk _ _
    obtain ⟨k, rfl⟩ : ∃ m, k = m + 1 := ⟨k - 1, by omega⟩
    simp only [spec_CarrySave.l0]
    rw [if_neg (by omega), if_pos (by omega), if_pos (by omega), List.drop_of_length_le (by omega)]; simp [csL]
  | succ d ih =>
    intro k j s1 s2 hj hk l1 l2
    obtain ⟨k, rfl⟩ : ∃ m, k = m + 1 := ⟨k - 1, by omega⟩
    simp only [spec_CarrySave.l0]
    have m1 := ha _ (mem_getD1 a j (by omega))
    have m2 := hb _ (mem_getD1 b j (by omega))
    have m3 := hc _ (mem_getD1 c j (by omega))
    have e := ih k (j + 1) (s1 ++ [(crd (a.getD j 0 + b.getD j 0 + c.getD j 0)).1]) (s2 ++ [(crd (a.getD j 0 + b.getD j 0 + c.getD j 0)).2]) (by omega) (by omega) (by simp; omega) (by simp; omega)
    rw [drop_cons a j (by omega), drop_cons b j (by omega), drop_cons c j (by omega)]
    simp only [csL]
    rw [if_pos (by omega), if_pos (by omega), if_pos (by omega), if_pos (by omega), if_pos (by omega), rd_nat, rd_nat, rd_nat, spec_FullAdd_t k _ _ _ m1 m2 m3 (by omega)]
    simp only [Option.bind_some]
    rw [if_pos (by omega), if_pos (by omega), wr (x := (j : Int) + 1) (by omega) (by omega)]
    rw [List.append_assoc, List.append_assoc] at e
    exact_mod_cast e
theorem spec_CarrySave_t (k : Nat) (a b c : List Int) (ha : a.length ≤ 9000000000000000000) (hb : b.length ≤ 9000000000000000000) (hc : c.length ≤ 9000000000000000000) (hk : a.length + b.length + c.length + 60 < k) : spec_CarrySave.f k a b c = some (csW a b c) := by
  unfold spec_CarrySave.f csW
  obtain ⟨k, rfl⟩ : ∃ m, k = m + 1 := ⟨k - 1, by omega⟩
  rw [spec_l3Fit_t _ a b ha hb (by omega), spec_l3Fit_t _ a c ha hc (by omega)]; simp only [Option.bind_some, spec_CarrySave.j0]
  by_cases h1 : isW a = true ∧ isW b = true ∧ isW c = true ∧ a.length = b.length ∧ a.length = c.length
  · have wa := isW_iff.mp h1.1
    have wb := isW_iff.mp h1.2.1
    have wc := isW_iff.mp h1.2.2.1
    have e := spec_CarrySave_l0 a b c h1.2.2.2.1 h1.2.2.2.2 wa.2.1 wa.2.2 wb.2.2 wc.2.2 a.length k 0 [] [0] (by omega) (by omega) rfl rfl
    simp only [List.drop_zero, List.nil_append, Int.natCast_zero, List.cons_append] at e
    rw [if_pos (by simp only [h1.1, h1.2.1, Bool.true_and, decide_eq_true_eq]; omega), if_neg (by simp only [h1.1, h1.2.2.1, Bool.true_and, Bool.not_eq_true', decide_eq_false_iff_not]; omega), if_pos h1]; exact e
  · rw [if_neg h1]
    by_cases h2 : (isW a && isW b && decide (a.length = b.length)) = true
    · rw [if_pos h2, if_pos]
      simp only [Bool.and_eq_true, decide_eq_true_eq] at h2
      rw [Bool.not_eq_true', Bool.eq_false_iff]
      simp only [ne_eq, Bool.and_eq_true, decide_eq_true_eq]
      exact fun x => h1 ⟨h2.1.1, h2.1.2, x.1.2, h2.2, x.2⟩
    · rw [if_neg h2]; simp only [if_true]
theorem FnExactCarrySave : laws_FnExactCarrySave.Pure := by
  intro a b c h1 h2 h3 _ _ _ _ _ _
  refine ⟨a.length + b.length + c.length + 200, ?_⟩
  unfold laws_FnExactCarrySave.f
  split
  · rfl
  · split
    · rfl
    · split
      · rfl
      · have hl := csW_len a b c
        simp (disch := omega) only [laws_toIntS_t, Option.bind_some, spec_CarrySave_t, impl_CarrySave_t, laws_eqIntS_t, decide_true, if_true, laws_markIntS_t, laws_heldIntS_t, lt0a, lt0b, lt0c, if_false, Bool.not_true, Bool.false_eq_true, bne_self_eq_false]
        simp (disch := omega) only [laws_FnExactCarrySave.j0, laws_toIntS_t, Option.bind_some, spec_CarrySave_t, impl_CarrySave_t, laws_eqIntS_t, decide_true, if_true, laws_markIntS_t, laws_heldIntS_t, lt0a, lt0b, lt0c, if_false, Bool.not_true, Bool.false_eq_true, bne_self_eq_false]
        simp (disch := omega) only [laws_FnExactCarrySave.j1, laws_toIntS_t, Option.bind_some, spec_CarrySave_t, impl_CarrySave_t, laws_eqIntS_t, decide_true, if_true, laws_markIntS_t, laws_heldIntS_t, lt0a, lt0b, lt0c, if_false, Bool.not_true, Bool.false_eq_true, bne_self_eq_false]
        simp (disch := omega) only [laws_FnExactCarrySave.j2, laws_toIntS_t, Option.bind_some, spec_CarrySave_t, impl_CarrySave_t, laws_eqIntS_t, decide_true, if_true, laws_markIntS_t, laws_heldIntS_t, lt0a, lt0b, lt0c, if_false, Bool.not_true, Bool.false_eq_true, bne_self_eq_false]

end Go.Proofs.Ytjbcjkpbggaknaa.Pure.InFnExactCarrySave
namespace Go.Proofs.Ytjbcjkpbggaknaa.Pure
theorem FnExactCarrySave : QFnExactCarrySave.laws_FnExactCarrySave.Pure := InFnExactCarrySave.FnExactCarrySave
end Go.Proofs.Ytjbcjkpbggaknaa.Pure
