/- FnExactFormatWord: FormatWord of program and reference agree for every list, and the list stays as it was. No condition. -/
import Derived.Test.YtleaemkcbefbgaaQFnExactFormatWordx2
set_option linter.unusedVariables false
set_option linter.unusedSimpArgs false
namespace Go.Proofs.Ytleaemkcbefbgaa.Pure.InFnExactFormatWord
open Go.RowKit Go.Proofs.Ytleaemkcbefbgaa.QFnExactFormatWord Go.Proofs.YtleaemkcbefbgaaW.PrintWords Go.Proofs.YtleaemkcbefbgaaW.PrintLast Go.Proofs.YtleaemkcbefbgaaW.PrintMore

theorem wr {x : Int} (h1 : -9223372036854775808 ≤ x) (h2 : x ≤ 9223372036854775807) : wrap64 x = x := by unfold wrap64; omega
theorem wfB {a : Int} (h : (Lit.int .i64 a).wf = true) : -9223372036854775808 ≤ a ∧ a ≤ 9223372036854775807 := by
  have h' := h
  simp only [Lit.wf, Bool.and_eq_true, decide_eq_true_eq] at h'
  exact h'
/-- A trit. -/
def isT (a : Int) : Bool := decide (-1 ≤ a ∧ a ≤ 1)
theorem isT_iff {a : Int} : isT a = true ↔ (-1 ≤ a ∧ a ≤ 1) := by simp [isT]

theorem rd_nat (l : List Int) (j : Nat) : rd l (j : Int) = l.getD j 0 := by unfold rd; simp
theorem drop_cons (l : List Int) (j : Nat) (h : j < l.length) : l.drop j = l.getD j 0 :: l.drop (j + 1) := by
  rw [List.drop_eq_getElem_cons h]; simp [List.getD_eq_getElem?_getD, h]
theorem take_snoc (l : List Int) (j : Nat) (h : j < l.length) : l.take (j + 1) = l.take j ++ [l.getD j 0] := by
  rw [List.take_succ_eq_append_getElem h]; simp [List.getD_eq_getElem?_getD, h]

theorem laws_toIntS_l0 (l : List Int) (hl : l.length ≤ 35184372088832) (d : Nat) : ∀ (k j : Nat), j + d = l.length → d < k →
    laws_toIntS.l0 k l (l.take j ++ List.replicate (l.length - j) 0) (j : Int) = some l := by
  induction d with
  | zero =>
    intro k j hj hk
    obtain ⟨k, rfl⟩ : ∃ m, k = m + 1 := ⟨k - 1, by omega⟩
    simp only [laws_toIntS.l0]
    rw [if_neg (by omega), show j = l.length by omega]; simp
  | succ d ih =>
    intro k j hj hk
    obtain ⟨k, rfl⟩ : ∃ m, k = m + 1 := ⟨k - 1, by omega⟩
    simp only [laws_toIntS.l0]
    rw [if_pos (by omega), if_pos (by omega), if_pos (by simp; omega), rd_nat, wr (by omega) (by omega)]
    have e := ih k (j + 1) (by omega) (by omega)
    have s : (l.take j ++ List.replicate (l.length - j) 0).set ((j : Int)).toNat (l.getD j 0) = l.take (j + 1) ++ List.replicate (l.length - (j + 1)) 0 := by
      have hlen : (l.take j).length = j := by simp; omega
      rw [show ((j : Int)).toNat = j from by simp, List.set_append_right _ _ (by omega), take_snoc l j (by omega),
        show l.length - j = (l.length - (j + 1)) + 1 by omega, List.replicate_succ, hlen]
      simp
    rw [s]; exact_mod_cast e
theorem laws_toIntS_t (k : Nat) (l : List Int) (hl : l.length ≤ 35184372088832) (hk : l.length < k) : laws_toIntS.f k l = some l := by
  have e := laws_toIntS_l0 l hl l.length k 0 (by omega) hk
  unfold laws_toIntS.f
  rw [if_pos (by omega), if_pos (by simpa using hl)]
  simpa using e

theorem laws_eqIntS_l0 (a b : List Int) (hab : a.length = b.length) (hl : a.length ≤ 9000000000000000000) (d : Nat) : ∀ (k j : Nat), j + d = a.length → d < k →
    laws_eqIntS.l0 k a b (j : Int) = some (decide (a.drop j = b.drop j)) := by
  induction d with
  | zero =>
    intro k j hj hk
    obtain ⟨k, rfl⟩ : ∃ m, k = m + 1 := ⟨k - 1, by omega⟩
    simp only [laws_eqIntS.l0]
    rw [if_neg (by omega), List.drop_eq_nil_of_le (by omega), List.drop_eq_nil_of_le (by omega)]; simp
  | succ d ih =>
    intro k j hj hk
    obtain ⟨k, rfl⟩ : ∃ m, k = m + 1 := ⟨k - 1, by omega⟩
    simp only [laws_eqIntS.l0]
    rw [if_pos (by omega), if_pos (by omega), if_pos (by omega), rd_nat, rd_nat, wr (by omega) (by omega), drop_cons a j (by omega), drop_cons b j (by omega)]
    have e := ih k (j + 1) (by omega) (by omega)
    by_cases h : a.getD j 0 = b.getD j 0
    · rw [if_pos h, h]; simp only [List.cons.injEq, true_and]; exact_mod_cast e
    · rw [if_neg h]; simp only [List.cons.injEq, h, false_and, decide_false]
theorem laws_eqIntS_t (k : Nat) (a b : List Int) (hl : a.length ≤ 9000000000000000000) (hk : a.length < k) : laws_eqIntS.f k a b = some (decide (a = b)) := by
  unfold laws_eqIntS.f
  by_cases h : a.length = b.length
  · rw [if_pos (by omega)]
    have e := laws_eqIntS_l0 a b h hl a.length k 0 (by omega) hk
    simpa using e
  · rw [if_neg (by omega)]
    have : ¬ a = b := fun e => h (by rw [e])
    simp [this]

theorem str_append (xs ys : List Int) : strOfNums (xs ++ ys) = strOfNums xs ++ strOfNums ys := by
  apply ByteArray.ext; simp [strOfNums, ByteArray.data_append]
theorem str_nil : strOfNums [] = (⟨#[]⟩ : ByteArray) := rfl
/-- A trit's byte. -/
def chr (a : Int) : Int := bt (⟨#[45, 48, 43]⟩ : ByteArray) (a + 1)
theorem trit3 {a : Int} (h : -1 ≤ a ∧ a ≤ 1) : a = -1 ∨ a = 0 ∨ a = 1 := by omega

theorem spec_l1Byte_t (a : Int) (h : -1 ≤ a ∧ a ≤ 1) : spec_l1Byte.f a = some (strOfNums [chr a]) := by
  obtain rfl | rfl | rfl := trit3 h
  all_goals (unfold spec_l1Byte.f; simp [wrap64, rdOf, chr, bt, strOfNums]; rfl)

/-- A word. -/
def isW (l : List Int) : Bool := decide (1 ≤ l.length) && decide (l.length ≤ 30) && l.all isT
theorem isW_iff {l : List Int} : isW l = true ↔ (1 ≤ l.length ∧ l.length ≤ 30 ∧ ∀ x ∈ l, -1 ≤ x ∧ x ≤ 1) := by
  simp [isW, isT, List.all_eq_true, and_assoc]
/-- The value of digits, the lowest first. -/
def val : List Int → Int
  | [] => 0
  | a :: l => 3 * val l + a

theorem spec_l1In_t (a b c : Int) : spec_l1In.f a b c = some (decide (b ≤ a ∧ a ≤ c)) := by
  unfold spec_l1In.f
  by_cases h : a ≥ b
  · have h' : b ≤ a := h
    rw [if_pos h]; simp [h']
  · have h' : ¬ b ≤ a := h
    rw [if_neg h]; simp [h']

theorem spec_IsTrit_t (a : Int) : spec_IsTrit.f a = some (isT a) := by
  unfold spec_IsTrit.f; rw [spec_l1In_t]; rfl

theorem spec_IsWord_l0 (l : List Int) (hl : l.length ≤ 9000000000000000000) (d : Nat) : ∀ (k j : Nat), j + d = l.length → d < k →
    spec_IsWord.l0 k l l (l.length : Int) (j : Int) = some ((l.drop j).all isT && (decide (1 ≤ l.length) && decide (l.length ≤ 30))) := by
  induction d with
  | zero =>
    intro k j hj hk
    obtain ⟨k, rfl⟩ : ∃ m, k = m + 1 := ⟨k - 1, by omega⟩
    simp only [spec_IsWord.l0]
    rw [if_neg (by omega), List.drop_eq_nil_of_le (by omega), spec_l1In_t]; simp
    have : (1 : Int) ≤ (l.length : Int) ↔ 1 ≤ l.length := by omega
    have : (l.length : Int) ≤ 30 ↔ l.length ≤ 30 := by omega
    simp [*]
  | succ d ih =>
    intro k j hj hk
    obtain ⟨k, rfl⟩ : ∃ m, k = m + 1 := ⟨k - 1, by omega⟩
    simp only [spec_IsWord.l0]
    rw [if_pos (by omega), if_pos (by omega), if_pos (by omega), spec_IsTrit_t, rd_nat, drop_cons l j (by omega)]
    simp only [Option.bind_some, List.all_cons]
    have e := ih k (j + 1) (by omega) (by omega)
    rw [wr (by omega) (by omega)]
    cases isT (l.getD j 0) with
    | false => rfl
    | true => simp only [if_true, Bool.true_and]; exact_mod_cast e
theorem spec_IsWord_t (k : Nat) (l : List Int) (hl : l.length ≤ 9000000000000000000) (hk : l.length < k) : spec_IsWord.f k l = some (isW l) := by
  have e := spec_IsWord_l0 l hl l.length k 0 (by omega) hk
  unfold spec_IsWord.f isW
  simp only [List.drop_zero] at e
  rw [Bool.and_comm] at e
  exact e

/-- FormatWord. -/
def fmtW (l : List Int) : ByteArray := if isW l = true then strOfNums (l.map chr).reverse else ⟨#[]⟩
theorem spec_FormatWord_l0 (l : List Int) (hl : l.length ≤ 30) (hb : ∀ x ∈ l, -1 ≤ x ∧ x ≤ 1) (d : Nat) : ∀ (k j : Nat), j + d = l.length → d < k →
    spec_FormatWord.l0 k (strOfNums ((l.take j).map chr).reverse) l (l.length : Int) (j : Int) = some (strOfNums (l.map chr).reverse) := by
  induction d with
  | zero =>
    intro k j hj hk
    obtain ⟨k, rfl⟩ : ∃ m, k = m + 1 := ⟨k - 1, by omega⟩
    simp only [spec_FormatWord.l0]
    rw [if_neg (by omega), List.take_of_length_le (by omega)]
  | succ d ih =>
    intro k j hj hk
    obtain ⟨k, rfl⟩ : ∃ m, k = m + 1 := ⟨k - 1, by omega⟩
    simp only [spec_FormatWord.l0]
    have e := ih k (j + 1) (by omega) (by omega)
    have hm : l.getD j 0 ∈ l := by rw [List.getD_eq_getElem?_getD, List.getElem?_eq_getElem (by omega)]; exact List.getElem_mem (by omega)
    rw [if_pos (by omega), if_pos (by omega), if_pos (by omega), rd_nat, spec_l1Byte_t _ (hb _ hm)]
    simp only [Option.bind_some]
    rw [if_pos (by simp only [strOfNums_size]; simp; omega), ← str_append, wr (by omega) (by omega)]
    rw [take_snoc l j (by omega)] at e
    simp only [List.map_append, List.map_cons, List.map_nil, List.reverse_append, List.reverse_cons, List.reverse_nil, List.nil_append] at e
    exact_mod_cast e
theorem spec_FormatWord_t (k : Nat) (l : List Int) (hl : l.length ≤ 9000000000000000000) (hk : l.length < k) : spec_FormatWord.f k l = some (fmtW l) := by
  unfold spec_FormatWord.f fmtW
  rw [spec_IsWord_t k l hl hk]; simp only [Option.bind_some]
  by_cases h : isW l = true
  · have hw := isW_iff.mp h
    have e := spec_FormatWord_l0 l hw.2.1 hw.2.2 l.length k 0 (by omega) (by omega)
    rw [if_pos h, if_pos h]; simpa [str_nil] using e
  · rw [if_neg h, if_neg h]

theorem getD_set (l : List Int) (i : Nat) (v : Int) (p : Nat) (h : i < l.length) : (l.set i v).getD p 0 = if p = i then v else l.getD p 0 := by
  simp only [List.getD_eq_getElem?_getD, List.getElem?_set]
  by_cases e : i = p
  · subst e; simp [h]
  · have : ¬ p = i := fun x => e x.symm
    simp [e, this]
theorem getD_rev (l : List Int) (p : Nat) (h : p < l.length) : l.reverse.getD p 0 = l.getD (l.length - 1 - p) 0 := by
  simp only [List.getD_eq_getElem?_getD]; rw [List.getElem?_reverse h]
theorem ext_getD (a b : List Int) (h : a.length = b.length) (e : ∀ p, p < a.length → a.getD p 0 = b.getD p 0) : a = b := by
  apply List.ext_getElem h
  intro i h1 h2
  have := e i h1
  simpa [List.getD_eq_getElem?_getD, List.getElem?_eq_getElem h1, List.getElem?_eq_getElem h2] using this
theorem slices_Reverse_l0 (l : List Int) (hl : l.length ≤ 1000000000) (m : Nat) : ∀ (k i : Nat) (x : List Int), l.length - 2 * i ≤ m → 2 * i ≤ l.length + 1 → m < k → x.length = l.length →
    (∀ p, p < l.length → x.getD p 0 = if p < i ∨ l.length - i ≤ p then l.getD (l.length - 1 - p) 0 else l.getD p 0) →
    slices_Reverse_int_int.l0 k x (i : Int) ((l.length : Int) - 1 - i) = some l.reverse := by
  induction m with
  | zero =>
    intro k i x hm hi hk hx hp
    obtain ⟨k, rfl⟩ : ∃ m, k = m + 1 := ⟨k - 1, by omega⟩
    simp only [slices_Reverse_int_int.l0]
    rw [if_neg (by omega)]
    congr 1
    apply ext_getD
    · simp [hx]
    · intro p h
      rw [hx] at h
      rw [getD_rev l p h, hp p h]
      by_cases c : p < i ∨ l.length - i ≤ p
      · rw [if_pos c]
      · rw [if_neg c]; congr 1; omega
  | succ m ih =>
    intro k i x hm hi hk hx hp
    obtain ⟨k, rfl⟩ : ∃ m, k = m + 1 := ⟨k - 1, by omega⟩
    simp only [slices_Reverse_int_int.l0]
    by_cases c : (i : Int) < (l.length : Int) - 1 - i
    · rw [if_pos c, if_pos (by omega), if_pos (by omega), if_pos (by omega), if_pos (by omega)]
      obtain ⟨j, hj⟩ : ∃ j : Nat, (l.length : Int) - 1 - i = j := ⟨l.length - 1 - i, by omega⟩
      rw [hj, rd_nat, rd_nat, Int.toNat_natCast, Int.toNat_natCast, wr (x := (i : Int) + 1) (by omega) (by omega), wr (x := (j : Int) - 1) (by omega) (by omega)]
      have e := ih k (i + 1) ((x.set i (x.getD j 0)).set j (x.getD i 0)) (by omega) (by omega) (by omega) (by simp [hx]) (by
        intro p h
        rw [getD_set _ _ _ _ (by simp [hx]; omega), getD_set _ _ _ _ (by omega)]
        by_cases c1 : p = j
        · rw [if_pos c1, if_pos (by omega), hp i (by omega), if_neg (by omega)]; congr 1; omega
        · rw [if_neg c1]
          by_cases c2 : p = i
          · rw [if_pos c2, if_pos (by omega), hp j (by omega), if_neg (by omega)]; congr 1; omega
          · rw [if_neg c2, hp p h]
            by_cases c3 : p < i ∨ l.length - i ≤ p
            · rw [if_pos c3, if_pos (by omega)]
            · rw [if_neg c3, if_neg (by omega)])
      rw [show (l.length : Int) - 1 - ((i + 1 : Nat) : Int) = (j : Int) - 1 by omega] at e
      exact_mod_cast e
    · rw [if_neg c]
      congr 1
      apply ext_getD
      · simp [hx]
      · intro p h
        rw [hx] at h
        rw [getD_rev l p h, hp p h]
        by_cases c : p < i ∨ l.length - i ≤ p
        · rw [if_pos c]
        · rw [if_neg c]; congr 1; omega
theorem slices_Reverse_t (k : Nat) (l : List Int) (hl : l.length ≤ 1000000000) (hk : l.length < k) : slices_Reverse_int_int.f k l = some l.reverse := by
  unfold slices_Reverse_int_int.f
  rw [wr (by omega) (by omega)]
  have e := slices_Reverse_l0 l hl l.length k 0 l (by omega) (by omega) hk rfl (by intro p h; rw [if_neg (by omega)])
  simpa using e

theorem slices_Clone_t (l : List Int) (hl : l.length ≤ 1000000000) : slices_Clone_int_int.f l = some l := by
  unfold slices_Clone_int_int.f; rw [if_pos (by omega)]
theorem impl_backwards_t (k : Nat) (l : List Int) (hl : l.length ≤ 1000000000) (hk : l.length < k) : impl_backwards.f k l = some l.reverse := by
  unfold impl_backwards.f
  rw [slices_Clone_t l hl]; simp only [Option.bind_some]
  rw [slices_Reverse_t k l hl hk]; rfl

theorem impl_tritBytes_l0 (l : List Int) (hl : l.length ≤ 1000000) (hb : ∀ x ∈ l, -1 ≤ x ∧ x ≤ 1) (d : Nat) : ∀ (k j : Nat), j + d = l.length → d < k →
    impl_tritBytes.l0 k ((l.take j).map chr) l (l.length : Int) (j : Int) = some (strOfNums (l.map chr)) := by
  induction d with
  | zero =>
    intro k j hj hk
    obtain ⟨k, rfl⟩ : ∃ m, k = m + 1 := ⟨k - 1, by omega⟩
    simp only [impl_tritBytes.l0]
    rw [if_neg (by omega), List.take_of_length_le (by omega)]
  | succ d ih =>
    intro k j hj hk
    obtain ⟨k, rfl⟩ : ∃ m, k = m + 1 := ⟨k - 1, by omega⟩
    simp only [impl_tritBytes.l0]
    have e := ih k (j + 1) (by omega) (by omega)
    have hm : l.getD j 0 ∈ l := by rw [List.getD_eq_getElem?_getD, List.getElem?_eq_getElem (by omega)]; exact List.getElem_mem (by omega)
    have h1 := hb _ hm
    rw [if_pos (by omega), if_pos (by omega), if_pos (by omega), rd_nat, wr (x := l.getD j 0 + 1) (by omega) (by omega), if_pos (by omega), if_pos (by omega),
      if_pos (by simp; omega), wr (by omega) (by omega)]
    rw [take_snoc l j (by omega)] at e
    simp only [List.map_append, List.map_cons, List.map_nil] at e
    exact_mod_cast e
theorem impl_tritBytes_t (k : Nat) (l : List Int) (hl : l.length ≤ 1000000) (hb : ∀ x ∈ l, -1 ≤ x ∧ x ≤ 1) (hk : l.length < k) : impl_tritBytes.f k l = some (strOfNums (l.map chr)) := by
  have e := impl_tritBytes_l0 l hl hb l.length k 0 (by omega) (by omega)
  unfold impl_tritBytes.f; simpa using e

theorem impl_IsTrit_t (a : Int) : impl_IsTrit.f a = some (isT a) := by
  unfold impl_IsTrit.f isT
  by_cases h : a ≥ -1
  · have h' : -1 ≤ a := h
    rw [if_pos h]; simp [h']
  · have h' : ¬ -1 ≤ a := h
    rw [if_neg h]; simp [h']

theorem impl_trits_l0 (l : List Int) (hl : l.length ≤ 9000000000000000000) (d : Nat) : ∀ (k j : Nat), j + d = l.length → d < k →
    impl_trits.l0 k l (l.length : Int) (j : Int) = some ((l.drop j).all isT) := by
  induction d with
  | zero =>
    intro k j hj hk
    obtain ⟨k, rfl⟩ : ∃ m, k = m + 1 := ⟨k - 1, by omega⟩
    simp only [impl_trits.l0]
    rw [if_neg (by omega), List.drop_eq_nil_of_le (by omega)]; rfl
  | succ d ih =>
    intro k j hj hk
    obtain ⟨k, rfl⟩ : ∃ m, k = m + 1 := ⟨k - 1, by omega⟩
    simp only [impl_trits.l0]
    rw [if_pos (by omega), if_pos (by omega), if_pos (by omega), impl_IsTrit_t, rd_nat, drop_cons l j (by omega)]
    simp only [Option.bind_some, List.all_cons]
    have e := ih k (j + 1) (by omega) (by omega)
    rw [wr (by omega) (by omega)]
    cases isT (l.getD j 0) with
    | false => rfl
    | true => simp only [if_true, Bool.true_and]; exact_mod_cast e
theorem impl_trits_t (k : Nat) (l : List Int) (hl : l.length ≤ 9000000000000000000) (hk : l.length < k) : impl_trits.f k l = some (l.all isT) := by
  have e := impl_trits_l0 l hl l.length k 0 (by omega) hk
  unfold impl_trits.f; simpa using e

theorem impl_IsWord_t (k : Nat) (l : List Int) (hk : 30 < k) : impl_IsWord.f k l = some (isW l) := by
  unfold impl_IsWord.f isW
  by_cases h1 : 1 ≤ l.length
  · rw [if_pos (by omega)]
    by_cases h2 : l.length ≤ 30
    · rw [if_pos (by omega), impl_trits_t k l (by omega) (by omega)]; simp [h1, h2]
    · rw [if_neg (by omega)]; simp [h2]
  · rw [if_neg (by omega)]; simp [h1]

theorem impl_FormatWord_t (k : Nat) (l : List Int) (hk : 40 < k) : impl_FormatWord.f k l = some (fmtW l) := by
  unfold impl_FormatWord.f fmtW
  rw [impl_IsWord_t k l (by omega)]; simp only [Option.bind_some]
  by_cases h : isW l = true
  · have hw := isW_iff.mp h
    rw [if_pos h, if_pos h, impl_backwards_t k l (by omega) (by omega)]; simp only [Option.bind_some]
    rw [impl_tritBytes_t k _ (by simp; omega) (fun x hx => hw.2.2 x (by simpa using hx)) (by simp; omega)]; simp
  · rw [if_neg h, if_neg h]

theorem FnExactFormatWord : laws_FnExactFormatWord.Pure := by
  intro l h1 h2 h3
  refine ⟨l.length + 50, ?_⟩
  unfold laws_FnExactFormatWord.f
  split
  · rfl
  · rw [laws_toIntS_t _ l (by omega) (by omega)]; simp only [Option.bind_some]
    rw [spec_FormatWord_t _ l (by omega) (by omega), impl_FormatWord_t _ l (by omega), laws_eqIntS_t _ l l (by omega) (by omega)]; simp

end Go.Proofs.Ytleaemkcbefbgaa.Pure.InFnExactFormatWord
namespace Go.Proofs.Ytleaemkcbefbgaa.Pure
theorem FnExactFormatWord : QFnExactFormatWord.laws_FnExactFormatWord.Pure := InFnExactFormatWord.FnExactFormatWord
end Go.Proofs.Ytleaemkcbefbgaa.Pure
