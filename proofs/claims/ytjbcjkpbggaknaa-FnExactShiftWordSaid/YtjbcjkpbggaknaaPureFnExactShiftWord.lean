/- FnExactShiftWord: ShiftWord of program and reference agree for all arguments, the list stays as it was, and the results share no memory. No condition. -/
import Derived.Test.YtjbcjkpbggaknaaQFnExactShiftWordx3
set_option linter.unusedVariables false
set_option linter.unusedSimpArgs false
namespace Go.Proofs.Ytjbcjkpbggaknaa.Pure.InFnExactShiftWord
open Go.RowKit Go.Proofs.Ytjbcjkpbggaknaa.QFnExactShiftWord Go.Proofs.YtjbcjkpbggaknaaW.PrintWords Go.Proofs.YtjbcjkpbggaknaaW.PrintLast Go.Proofs.YtjbcjkpbggaknaaW.PrintMore

theorem lt0a (n : Nat) : (1 + (n : Int) < 0) = False := by simp; omega
theorem lt0b (n m : Nat) : (1 + (n : Int) + (m : Int) < 0) = False := by simp; omega
theorem lt0c (n m q : Nat) : (1 + (n : Int) + (m : Int) + (q : Int) < 0) = False := by simp; omega

theorem wr {x : Int} (h1 : -9223372036854775808 ≤ x) (h2 : x ≤ 9223372036854775807) : wrap64 x = x := by unfold wrap64; omega
theorem wfB {a : Int} (h : (Lit.int .i64 a).wf = true) : -9223372036854775808 ≤ a ∧ a ≤ 9223372036854775807 := by
  have h' := h
  simp only [Lit.wf, Bool.and_eq_true, decide_eq_true_eq] at h'
  exact h'
/-- A trit. -/
def isT (a : Int) : Bool := decide (-1 ≤ a ∧ a ≤ 1)
theorem isT_iff {a : Int} : isT a = true ↔ (-1 ≤ a ∧ a ≤ 1) := by simp [isT]

theorem rd_nat (l : List Int) (j : Nat) : rd l (j : Int) = l.getD j 0 := by unfold rd; simp
theorem drop_cons (l : List Int) (j : Nat) (h : j < l.length) : l.drop j = l.getD j 0 :: l.drop (j + 1) := by
  rw [List.drop_eq_getElem_cons h]; simp [List.getD_eq_getElem?_getD, h]
theorem take_snoc (l : List Int) (j : Nat) (h : j < l.length) : l.take (j + 1) = l.take j ++ [l.getD j 0] := by
  rw [List.take_succ_eq_append_getElem h]; simp [List.getD_eq_getElem?_getD, h]

theorem laws_toIntS_l0 (l : List Int) (hl : l.length ≤ 35184372088832) (d : Nat) : ∀ (k j : Nat), j + d = l.length → d < k →
    laws_toIntS.l0 k l (l.take j ++ List.replicate (l.length - j) 0) (j : Int) = some l := by
  induction d with
  | zero =>
    intro k j hj hk
    obtain ⟨k, rfl⟩ : ∃ m, k = m + 1 := ⟨k - 1, by omega⟩
    simp only [laws_toIntS.l0]
    rw [if_neg (by omega), show j = l.length by omega]; simp
  | succ d ih =>
    intro k j hj hk
    obtain ⟨k, rfl⟩ : ∃ m, k = m + 1 := ⟨k - 1, by omega⟩
    simp only [laws_toIntS.l0]
    rw [if_pos (by omega), if_pos (by omega), if_pos (by simp; omega), rd_nat, wr (by omega) (by omega)]
    have e := ih k (j + 1) (by omega) (by omega)
    have s : (l.take j ++ List.replicate (l.length - j) 0).set ((j : Int)).toNat (l.getD j 0) = l.take (j + 1) ++ List.replicate (l.length - (j + 1)) 0 := by
      have hlen : (l.take j).length = j := by simp; omega
      rw [show ((j : Int)).toNat = j from by simp, List.set_append_right _ _ (by omega), take_snoc l j (by omega),
        show l.length - j = (l.length - (j + 1)) + 1 by omega, List.replicate_succ, hlen]
      simp
    rw [s]; exact_mod_cast e
theorem laws_toIntS_t (k : Nat) (l : List Int) (hl : l.length ≤ 35184372088832) (hk : l.length < k) : laws_toIntS.f k l = some l := by
  have e := laws_toIntS_l0 l hl l.length k 0 (by omega) hk
  unfold laws_toIntS.f
  rw [if_pos (by omega), if_pos (by simpa using hl)]
  simpa using e

theorem laws_eqIntS_l0 (a b : List Int) (hab : a.length = b.length) (hl : a.length ≤ 9000000000000000000) (d : Nat) : ∀ (k j : Nat), j + d = a.length → d < k →
    laws_eqIntS.l0 k a b (j : Int) = some (decide (a.drop j = b.drop j)) := by
  induction d with
  | zero =>
    intro k j hj hk
    obtain ⟨k, rfl⟩ : ∃ m, k = m + 1 := ⟨k - 1, by omega⟩
    simp only [laws_eqIntS.l0]
    rw [if_neg (by omega), List.drop_eq_nil_of_le (by omega), List.drop_eq_nil_of_le (by omega)]; simp
  | succ d ih =>
    intro k j hj hk
    obtain ⟨k, rfl⟩ : ∃ m, k = m + 1 := ⟨k - 1, by omega⟩
    simp only [laws_eqIntS.l0]
    rw [if_pos (by omega), if_pos (by omega), if_pos (by omega), rd_nat, rd_nat, wr (by omega) (by omega), drop_cons a j (by omega), drop_cons b j (by omega)]
    have e := ih k (j + 1) (by omega) (by omega)
    by_cases h : a.getD j 0 = b.getD j 0
    · rw [if_pos h, h]; simp only [List.cons.injEq, true_and]; exact_mod_cast e
    · rw [if_neg h]; simp only [List.cons.injEq, h, false_and, decide_false]
theorem laws_eqIntS_t (k : Nat) (a b : List Int) (hl : a.length ≤ 9000000000000000000) (hk : a.length < k) : laws_eqIntS.f k a b = some (decide (a = b)) := by
  unfold laws_eqIntS.f
  by_cases h : a.length = b.length
  · rw [if_pos (by omega)]
    have e := laws_eqIntS_l0 a b h hl a.length k 0 (by omega) hk
    simpa using e
  · rw [if_neg (by omega)]
    have : ¬ a = b := fun e => h (by rw [e])
    simp [this]

/-- The numbers from s on. -/
def marks : Int → Nat → List Int
  | _, 0 => []
  | s, n + 1 => s :: marks (s + 1) n
theorem marks_len (n : Nat) : ∀ s, (marks s n).length = n := by
  induction n with
  | zero => intro s; rfl
  | succ n ih => intro s; simp [marks, ih]
theorem marks_snoc (n : Nat) : ∀ s, marks s (n + 1) = marks s n ++ [s + n] := by
  induction n with
  | zero => intro s; simp [marks]
  | succ n ih => intro s; rw [marks, ih (s + 1)]; simp only [marks, List.cons_append]; congr 3; omega
theorem marks_get (n : Nat) : ∀ (s : Int) (j : Nat), j < n → (marks s n).getD j 0 = s + j := by
  induction n with
  | zero => intro s j h; omega
  | succ n ih =>
    intro s j h
    cases j with
    | zero => simp [marks]
    | succ j => have := ih (s + 1) j (by omega); simp only [marks, List.getD_cons_succ]; rw [this]; omega
theorem laws_markIntS_l0 (l : List Int) (s : Int) (hs : 0 ≤ s ∧ s ≤ 100000000) (hl : l.length ≤ 1000000000000) (d : Nat) : ∀ (k j : Nat), j + d = l.length → d < k →
    laws_markIntS.l0 k (marks s j ++ l.drop j) (s + j) (j : Int) = some (s + l.length, marks s l.length) := by
  induction d with
  | zero =>
    intro k j hj hk
    obtain ⟨k, rfl⟩ : ∃ m, k = m + 1 := ⟨k - 1, by omega⟩
    simp only [laws_markIntS.l0]
    rw [if_neg (by simp [marks_len]; omega), List.drop_eq_nil_of_le (by omega), show j = l.length by omega]; simp
  | succ d ih =>
    intro k j hj hk
    obtain ⟨k, rfl⟩ : ∃ m, k = m + 1 := ⟨k - 1, by omega⟩
    simp only [laws_markIntS.l0]
    rw [if_pos (by simp [marks_len]; omega), if_pos (by omega), wr (x := s + (j : Int) + 1) (by omega) (by omega), wr (x := (j : Int) + 1) (by omega) (by omega)]
    have e := ih k (j + 1) (by omega) (by omega)
    have t : (marks s j ++ l.drop j).set ((j : Int)).toNat (s + j) = marks s (j + 1) ++ l.drop (j + 1) := by
      rw [show ((j : Int)).toNat = j from by simp, List.set_append_right _ _ (by rw [marks_len]; omega), marks_len, drop_cons l j (by omega), marks_snoc]
      simp
    rw [t, show s + (j : Int) + 1 = s + ((j + 1 : Nat) : Int) by omega]; exact_mod_cast e
theorem laws_markIntS_t (k : Nat) (l : List Int) (s : Int) (hs : 0 ≤ s ∧ s ≤ 100000000) (hl : l.length ≤ 1000000000000) (hk : l.length < k) : laws_markIntS.f k l s = some (s + l.length, marks s l.length) := by
  have e := laws_markIntS_l0 l s hs hl l.length k 0 (by omega) hk
  unfold laws_markIntS.f; simpa [marks] using e
theorem laws_heldIntS_l0 (n : Nat) (s : Int) (hs : 0 ≤ s ∧ s ≤ 100000000) (hl : n ≤ 1000000000000) (d : Nat) : ∀ (k j : Nat), j + d = n → d < k →
    laws_heldIntS.l0 k (marks s n) (s + j) (j : Int) = some (s + n) := by
  induction d with
  | zero =>
    intro k j hj hk
    obtain ⟨k, rfl⟩ : ∃ m, k = m + 1 := ⟨k - 1, by omega⟩
    simp only [laws_heldIntS.l0]
    rw [if_neg (by simp [marks_len]; omega), show j = n by omega]
  | succ d ih =>
    intro k j hj hk
    obtain ⟨k, rfl⟩ : ∃ m, k = m + 1 := ⟨k - 1, by omega⟩
    simp only [laws_heldIntS.l0]
    rw [if_pos (by simp [marks_len]; omega), if_pos (by omega), rd_nat, marks_get n s j (by omega), if_pos rfl, wr (x := s + (j : Int) + 1) (by omega) (by omega), wr (x := (j : Int) + 1) (by omega) (by omega)]
    have e := ih k (j + 1) (by omega) (by omega)
    rw [show s + (j : Int) + 1 = s + ((j + 1 : Nat) : Int) by omega]; exact_mod_cast e
theorem laws_heldIntS_t (k : Nat) (n : Nat) (s : Int) (hs : 0 ≤ s ∧ s ≤ 100000000) (hl : n ≤ 1000000000000) (hk : n < k) : laws_heldIntS.f k (marks s n) s = some (s + n) := by
  have e := laws_heldIntS_l0 n s hs hl n k 0 (by omega) hk
  unfold laws_heldIntS.f; simpa using e



/-- A word. -/
def isW (l : List Int) : Bool := decide (1 ≤ l.length) && decide (l.length ≤ 30) && l.all isT
theorem isW_iff {l : List Int} : isW l = true ↔ (1 ≤ l.length ∧ l.length ≤ 30 ∧ ∀ x ∈ l, -1 ≤ x ∧ x ≤ 1) := by
  simp [isW, isT, List.all_eq_true, and_assoc]
/-- The value of digits, the lowest first. -/
def val : List Int → Int
  | [] => 0
  | a :: l => 3 * val l + a

theorem spec_l1In_t (a b c : Int) : spec_l1In.f a b c = some (decide (b ≤ a ∧ a ≤ c)) := by
  unfold spec_l1In.f
  by_cases h : a ≥ b
  · have h' : b ≤ a := h
    rw [if_pos h]; simp [h']
  · have h' : ¬ b ≤ a := h
    rw [if_neg h]; simp [h']

theorem spec_IsTrit_t (a : Int) : spec_IsTrit.f a = some (isT a) := by
  unfold spec_IsTrit.f; rw [spec_l1In_t]; rfl

theorem spec_IsWord_l0 (l : List Int) (hl : l.length ≤ 9000000000000000000) (d : Nat) : ∀ (k j : Nat), j + d = l.length → d < k →
    spec_IsWord.l0 k l l (l.length : Int) (j : Int) = some ((l.drop j).all isT && (decide (1 ≤ l.length) && decide (l.length ≤ 30))) := by
  induction d with
  | zero =>
    intro k j hj hk
    obtain ⟨k, rfl⟩ : ∃ m, k = m + 1 := ⟨k - 1, by omega⟩
    simp only [spec_IsWord.l0]
    rw [if_neg (by omega), List.drop_eq_nil_of_le (by omega), spec_l1In_t]; simp
    have : (1 : Int) ≤ (l.length : Int) ↔ 1 ≤ l.length := by omega
    have : (l.length : Int) ≤ 30 ↔ l.length ≤ 30 := by omega
    simp [*]
  | succ d ih =>
    intro k j hj hk
    obtain ⟨k, rfl⟩ : ∃ m, k = m + 1 := ⟨k - 1, by omega⟩
    simp only [spec_IsWord.l0]
    rw [if_pos (by omega), if_pos (by omega), if_pos (by omega), spec_IsTrit_t, rd_nat, drop_cons l j (by omega)]
    simp only [Option.bind_some, List.all_cons]
    have e := ih k (j + 1) (by omega) (by omega)
    rw [wr (by omega) (by omega)]
    cases isT (l.getD j 0) with
    | false => rfl
    | true => simp only [if_true, Bool.true_and]; exact_mod_cast e
theorem spec_IsWord_t (k : Nat) (l : List Int) (hl : l.length ≤ 9000000000000000000) (hk : l.length < k) : spec_IsWord.f k l = some (isW l) := by
  have e := spec_IsWord_l0 l hl l.length k 0 (by omega) hk
  unfold spec_IsWord.f isW
  simp only [List.drop_zero] at e
  rw [Bool.and_comm] at e
  exact e

theorem impl_IsTrit_t (a : Int) : impl_IsTrit.f a = some (isT a) := by
  unfold impl_IsTrit.f isT
  by_cases h : a ≥ -1
  · have h' : -1 ≤ a := h
    rw [if_pos h]; simp [h']
  · have h' : ¬ -1 ≤ a := h
    rw [if_neg h]; simp [h']

theorem impl_trits_l0 (l : List Int) (hl : l.length ≤ 9000000000000000000) (d : Nat) : ∀ (k j : Nat), j + d = l.length → d < k →
    impl_trits.l0 k l (l.length : Int) (j : Int) = some ((l.drop j).all isT) := by
  induction d with
  | zero =>
    intro k j hj hk
    obtain ⟨k, rfl⟩ : ∃ m, k = m + 1 := ⟨k - 1, by omega⟩
    simp only [impl_trits.l0]
    rw [if_neg (by omega), List.drop_eq_nil_of_le (by omega)]; rfl
  | succ d ih =>
    intro k j hj hk
    obtain ⟨k, rfl⟩ : ∃ m, k = m + 1 := ⟨k - 1, by omega⟩
    simp only [impl_trits.l0]
    rw [if_pos (by omega), if_pos (by omega), if_pos (by omega), impl_IsTrit_t, rd_nat, drop_cons l j (by omega)]
    simp only [Option.bind_some, List.all_cons]
    have e := ih k (j + 1) (by omega) (by omega)
    rw [wr (by omega) (by omega)]
    cases isT (l.getD j 0) with
    | false => rfl
    | true => simp only [if_true, Bool.true_and]; exact_mod_cast e
theorem impl_trits_t (k : Nat) (l : List Int) (hl : l.length ≤ 9000000000000000000) (hk : l.length < k) : impl_trits.f k l = some (l.all isT) := by
  have e := impl_trits_l0 l hl l.length k 0 (by omega) hk
  unfold impl_trits.f; simpa using e

theorem impl_IsWord_t (k : Nat) (l : List Int) (hk : 30 < k) : impl_IsWord.f k l = some (isW l) := by
  unfold impl_IsWord.f isW
  by_cases h1 : 1 ≤ l.length
  · rw [if_pos (by omega)]
    by_cases h2 : l.length ≤ 30
    · rw [if_pos (by omega), impl_trits_t k l (by omega) (by omega)]; simp [h1, h2]
    · rw [if_neg (by omega)]; simp [h2]
  · rw [if_neg (by omega)]; simp [h1]

/-- ShiftWord. -/
def shiftW (l : List Int) (m : Int) : List Int × Bool :=
  if isW l = true ∧ m ≤ 30 - l.length then (if 0 ≤ m then List.replicate m.toNat 0 ++ l else if m ≤ -(l.length : Int) then [0] else l.drop (-m).toNat, true) else ([], false)
theorem shiftW_ok {l : List Int} {m : Int} (h : isW l = true) (h1 : m ≤ 30 - l.length) : shiftW l m = (if 0 ≤ m then List.replicate m.toNat 0 ++ l else if m ≤ -(l.length : Int) then [0] else l.drop (-m).toNat, true) := by
  unfold shiftW; rw [if_pos ⟨h, h1⟩]
theorem shiftW_no {l : List Int} {m : Int} (h : ¬ (isW l = true ∧ m ≤ 30 - l.length)) : shiftW l m = ([], false) := by
  unfold shiftW; rw [if_neg h]
theorem shiftW_len (l : List Int) (m : Int) : (shiftW l m).1.length ≤ 30 := by
  unfold shiftW; split
  · rename_i h; have hw := isW_iff.mp h.1
    simp only; split
    · simp; omega
    · split
      · simp
      · simp; omega
  · simp

theorem concat_t (a b : List Int) (h : a.length + b.length ≤ 1000000) : slices_Concat_int_int.f [a, b] = some (a ++ b) := by
  unfold slices_Concat_int_int.f
  rw [if_pos (by simp; omega)]; simp

theorem slices_Clone_t (l : List Int) (hl : l.length ≤ 1000000000) : slices_Clone_int_int.f l = some l := by
  unfold slices_Clone_int_int.f; rw [if_pos (by omega)]

theorem impl_ShiftWord_t (k : Nat) (l : List Int) (m : Int) (hk : 50 < k) : impl_ShiftWord.f k l m = some (shiftW l m) := by
  unfold impl_ShiftWord.f
  obtain ⟨k, rfl⟩ : ∃ m, k = m + 1 := ⟨k - 1, by omega⟩
  rw [impl_IsWord_t _ l (by omega)]; simp only [Option.bind_some, impl_ShiftWord.j0]
  by_cases h : isW l = true
  · have hw := isW_iff.mp h
    rw [if_pos h, wr (x := 30 - (l.length : Int)) (by omega) (by omega)]
    by_cases h1 : m ≤ 30 - l.length
    · rw [if_neg (by simp; omega), shiftW_ok h h1, wr (x := -(l.length : Int)) (by omega) (by omega)]
      by_cases h2 : m ≤ -(l.length : Int)
      · rw [if_pos h2, if_neg (by omega), if_pos h2]
      · rw [if_neg h2]
        by_cases h3 : m < 0
        · rw [if_pos h3, wr (x := -m) (by omega) (by omega), if_pos (by omega), if_pos (by omega), slices_Clone_t _ (by simp; omega), if_neg (by omega), if_neg h2]; rfl
        · rw [if_neg h3, if_pos (by omega), if_pos (by omega), concat_t _ _ (by simp; omega), if_pos (by omega)]; rfl
    · rw [if_pos (by simp; omega), shiftW_no (fun x => h1 x.2)]
  · rw [if_neg h]; simp only [if_true]; rw [shiftW_no (fun x => h x.1)]

theorem spec_l2Copy_t (l : List Int) (hl : l.length ≤ 1000000) : spec_l2Copy.f l = some l := by
  unfold spec_l2Copy.f; simp only [Option.bind_some]; rw [if_pos (by simp; omega)]; rfl

theorem spec_ShiftWord_t (k : Nat) (l : List Int) (m : Int) (hl : l.length ≤ 9000000000000000000) (hk : l.length + 50 < k) : spec_ShiftWord.f k l m = some (shiftW l m) := by
  unfold spec_ShiftWord.f
  obtain ⟨k, rfl⟩ : ∃ m, k = m + 1 := ⟨k - 1, by omega⟩
  rw [spec_IsWord_t _ l hl (by omega)]; simp only [Option.bind_some, spec_ShiftWord.j0]
  by_cases h : isW l = true
  · have hw := isW_iff.mp h
    rw [if_pos h, wr (x := 30 - (l.length : Int)) (by omega) (by omega)]
    by_cases h1 : m ≤ 30 - l.length
    · rw [if_neg (by simp; omega), shiftW_ok h h1]
      by_cases h3 : m ≥ 0
      · rw [if_pos h3, if_pos (by omega), if_pos (by omega), if_pos (by simp; omega), if_pos (by omega)]
      · rw [if_neg h3, wr (x := -(l.length : Int)) (by omega) (by omega)]
        by_cases h2 : m ≤ -(l.length : Int)
        · rw [if_pos h2, if_neg (by omega), if_pos h2]
        · rw [if_neg h2, wr (x := -m) (by omega) (by omega), if_pos (by omega), if_pos (by omega), spec_l2Copy_t _ (by simp; omega), if_neg (by omega), if_neg h2]; rfl
    · rw [if_pos (by simp; omega), shiftW_no (fun x => h1 x.2)]
  · rw [if_neg h]; simp only [if_true]; rw [shiftW_no (fun x => h x.1)]
theorem FnExactShiftWord : laws_FnExactShiftWord.Pure := by
  intro l m h1 h2 h3 _
  refine ⟨l.length + 200, ?_⟩
  unfold laws_FnExactShiftWord.f
  split
  · rfl
  · have hl := shiftW_len l m
    simp (disch := omega) only [laws_toIntS_t, Option.bind_some, spec_ShiftWord_t, impl_ShiftWord_t, laws_eqIntS_t, decide_true, if_true, laws_markIntS_t, laws_heldIntS_t, lt0a, lt0b, lt0c, if_false, Bool.not_true, Bool.false_eq_true, bne_self_eq_false]
    simp (disch := omega) only [laws_FnExactShiftWord.j0, laws_toIntS_t, Option.bind_some, spec_ShiftWord_t, impl_ShiftWord_t, laws_eqIntS_t, decide_true, if_true, laws_markIntS_t, laws_heldIntS_t, lt0a, lt0b, lt0c, if_false, Bool.not_true, Bool.false_eq_true, bne_self_eq_false]
    simp (disch := omega) only [laws_FnExactShiftWord.j1, laws_toIntS_t, Option.bind_some, spec_ShiftWord_t, impl_ShiftWord_t, laws_eqIntS_t, decide_true, if_true, laws_markIntS_t, laws_heldIntS_t, lt0a, lt0b, lt0c, if_false, Bool.not_true, Bool.false_eq_true, bne_self_eq_false]
    simp (disch := omega) only [laws_FnExactShiftWord.j2, laws_toIntS_t, Option.bind_some, spec_ShiftWord_t, impl_ShiftWord_t, laws_eqIntS_t, decide_true, if_true, laws_markIntS_t, laws_heldIntS_t, lt0a, lt0b, lt0c, if_false, Bool.not_true, Bool.false_eq_true, bne_self_eq_false]

end Go.Proofs.Ytjbcjkpbggaknaa.Pure.InFnExactShiftWord
namespace Go.Proofs.Ytjbcjkpbggaknaa.Pure
theorem FnExactShiftWord : QFnExactShiftWord.laws_FnExactShiftWord.Pure := InFnExactShiftWord.FnExactShiftWord
end Go.Proofs.Ytjbcjkpbggaknaa.Pure
