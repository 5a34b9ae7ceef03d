/- FnExactParseWord: ParseWord of program and reference agree for every text, and the results share no memory. No condition. -/
import Derived.Test.YtjbcjkpbggaknaaQFnExactParseWordx3
set_option linter.unusedVariables false
set_option linter.unusedSimpArgs false
namespace Go.Proofs.Ytjbcjkpbggaknaa.Pure.InFnExactParseWord
open Go.RowKit Go.Proofs.Ytjbcjkpbggaknaa.QFnExactParseWord Go.Proofs.YtjbcjkpbggaknaaW.PrintWords Go.Proofs.YtjbcjkpbggaknaaW.PrintLast Go.Proofs.YtjbcjkpbggaknaaW.PrintMore

theorem wr {x : Int} (h1 : -9223372036854775808 ≤ x) (h2 : x ≤ 9223372036854775807) : wrap64 x = x := by unfold wrap64; omega
theorem wfB {a : Int} (h : (Lit.int .i64 a).wf = true) : -9223372036854775808 ≤ a ∧ a ≤ 9223372036854775807 := by
  have h' := h
  simp only [Lit.wf, Bool.and_eq_true, decide_eq_true_eq] at h'
  exact h'
/-- A trit. -/
def isT (a : Int) : Bool := decide (-1 ≤ a ∧ a ≤ 1)
theorem isT_iff {a : Int} : isT a = true ↔ (-1 ≤ a ∧ a ≤ 1) := by simp [isT]

theorem rd_nat (l : List Int) (j : Nat) : rd l (j : Int) = l.getD j 0 := by unfold rd; simp
theorem drop_cons (l : List Int) (j : Nat) (h : j < l.length) : l.drop j = l.getD j 0 :: l.drop (j + 1) := by
  rw [List.drop_eq_getElem_cons h]; simp [List.getD_eq_getElem?_getD, h]
theorem take_snoc (l : List Int) (j : Nat) (h : j < l.length) : l.take (j + 1) = l.take j ++ [l.getD j 0] := by
  rw [List.take_succ_eq_append_getElem h]; simp [List.getD_eq_getElem?_getD, h]

/-- The numbers from s on. -/
def marks : Int → Nat → List Int
  | _, 0 => []
  | s, n + 1 => s :: marks (s + 1) n
theorem marks_len (n : Nat) : ∀ s, (marks s n).length = n := by
  induction n with
  | zero => intro s; rfl
  | succ n ih => intro s; simp [marks, ih]
theorem marks_snoc (n : Nat) : ∀ s, marks s (n + 1) = marks s n ++ [s + n] := by
  induction n with
  | zero => intro s; simp [marks]
  | succ n ih => intro s; rw [marks, ih (s + 1)]; simp only [marks, List.cons_append]; congr 3; omega
theorem marks_get (n : Nat) : ∀ (s : Int) (j : Nat), j < n → (marks s n).getD j 0 = s + j := by
  induction n with
  | zero => intro s j h; omega
  | succ n ih =>
    intro s j h
    cases j with
    | zero => simp [marks]
    | succ j => have := ih (s + 1) j (by omega); simp only [marks, List.getD_cons_succ]; rw [this]; omega
theorem laws_markIntS_l0 (l : List Int) (s : Int) (hs : 0 ≤ s ∧ s ≤ 100000000) (hl : l.length ≤ 1000000000000) (d : Nat) : ∀ (k j : Nat), j + d = l.length → d < k →
    laws_markIntS.l0 k (marks s j ++ l.drop j) (s + j) (j : Int) = some (s + l.length, marks s l.length) := by
  induction d with
  | zero =>
    intro k j hj hk
    obtain ⟨k, rfl⟩ : ∃ m, k = m + 1 := ⟨k - 1, by omega⟩
    simp only [laws_markIntS.l0]
    rw [if_neg (by simp [marks_len]; omega), List.drop_eq_nil_of_le (by omega), show j = l.length by omega]; simp
  | succ d ih =>
    intro k j hj hk
    obtain ⟨k, rfl⟩ : ∃ m, k = m + 1 := ⟨k - 1, by omega⟩
    simp only [laws_markIntS.l0]
    rw [if_pos (by simp [marks_len]; omega), if_pos (by omega), wr (x := s + (j : Int) + 1) (by omega) (by omega), wr (x := (j : Int) + 1) (by omega) (by omega)]
    have e := ih k (j + 1) (by omega) (by omega)
    have t : (marks s j ++ l.drop j).set ((j : Int)).toNat (s + j) = marks s (j + 1) ++ l.drop (j + 1) := by
      rw [show ((j : Int)).toNat = j from by simp, List.set_append_right _ _ (by rw [marks_len]; omega), marks_len, drop_cons l j (by omega), marks_snoc]
      simp
    rw [t, show s + (j : Int) + 1 = s + ((j + 1 : Nat) : Int) by omega]; exact_mod_cast e
theorem laws_markIntS_t (k : Nat) (l : List Int) (s : Int) (hs : 0 ≤ s ∧ s ≤ 100000000) (hl : l.length ≤ 1000000000000) (hk : l.length < k) : laws_markIntS.f k l s = some (s + l.length, marks s l.length) := by
  have e := laws_markIntS_l0 l s hs hl l.length k 0 (by omega) hk
  unfold laws_markIntS.f; simpa [marks] using e
theorem laws_heldIntS_l0 (n : Nat) (s : Int) (hs : 0 ≤ s ∧ s ≤ 100000000) (hl : n ≤ 1000000000000) (d : Nat) : ∀ (k j : Nat), j + d = n → d < k →
    laws_heldIntS.l0 k (marks s n) (s + j) (j : Int) = some (s + n) := by
  induction d with
  | zero =>
    intro k j hj hk
    obtain ⟨k, rfl⟩ : ∃ m, k = m + 1 := ⟨k - 1, by omega⟩
    simp only [laws_heldIntS.l0]
    rw [if_neg (by simp [marks_len]; omega), show j = n by omega]
  | succ d ih =>
    intro k j hj hk
    obtain ⟨k, rfl⟩ : ∃ m, k = m + 1 := ⟨k - 1, by omega⟩
    simp only [laws_heldIntS.l0]
    rw [if_pos (by simp [marks_len]; omega), if_pos (by omega), rd_nat, marks_get n s j (by omega), if_pos rfl, wr (x := s + (j : Int) + 1) (by omega) (by omega), wr (x := (j : Int) + 1) (by omega) (by omega)]
    have e := ih k (j + 1) (by omega) (by omega)
    rw [show s + (j : Int) + 1 = s + ((j + 1 : Nat) : Int) by omega]; exact_mod_cast e
theorem laws_heldIntS_t (k : Nat) (n : Nat) (s : Int) (hs : 0 ≤ s ∧ s ≤ 100000000) (hl : n ≤ 1000000000000) (hk : n < k) : laws_heldIntS.f k (marks s n) s = some (s + n) := by
  have e := laws_heldIntS_l0 n s hs hl n k 0 (by omega) hk
  unfold laws_heldIntS.f; simpa using e

theorem laws_eqIntS_l0 (a b : List Int) (hab : a.length = b.length) (hl : a.length ≤ 9000000000000000000) (d : Nat) : ∀ (k j : Nat), j + d = a.length → d < k →
    laws_eqIntS.l0 k a b (j : Int) = some (decide (a.drop j = b.drop j)) := by
  induction d with
  | zero =>
    intro k j hj hk
    obtain ⟨k, rfl⟩ : ∃ m, k = m + 1 := ⟨k - 1, by omega⟩
    simp only [laws_eqIntS.l0]
    rw [if_neg (by omega), List.drop_eq_nil_of_le (by omega), List.drop_eq_nil_of_le (by omega)]; simp
  | succ d ih =>
    intro k j hj hk
    obtain ⟨k, rfl⟩ : ∃ m, k = m + 1 := ⟨k - 1, by omega⟩
    simp only [laws_eqIntS.l0]
    rw [if_pos (by omega), if_pos (by omega), if_pos (by omega), rd_nat, rd_nat, wr (by omega) (by omega), drop_cons a j (by omega), drop_cons b j (by omega)]
    have e := ih k (j + 1) (by omega) (by omega)
    by_cases h : a.getD j 0 = b.getD j 0
    · rw [if_pos h, h]; simp only [List.cons.injEq, true_and]; exact_mod_cast e
    · rw [if_neg h]; simp only [List.cons.injEq, h, false_and, decide_false]
theorem laws_eqIntS_t (k : Nat) (a b : List Int) (hl : a.length ≤ 9000000000000000000) (hk : a.length < k) : laws_eqIntS.f k a b = some (decide (a = b)) := by
  unfold laws_eqIntS.f
  by_cases h : a.length = b.length
  · rw [if_pos (by omega)]
    have e := laws_eqIntS_l0 a b h hl a.length k 0 (by omega) hk
    simpa using e
  · rw [if_neg (by omega)]
    have : ¬ a = b := fun e => h (by rw [e])
    simp [this]

/-- A word. -/
def isW (l : List Int) : Bool := decide (1 ≤ l.length) && decide (l.length ≤ 30) && l.all isT
theorem isW_iff {l : List Int} : isW l = true ↔ (1 ≤ l.length ∧ l.length ≤ 30 ∧ ∀ x ∈ l, -1 ≤ x ∧ x ≤ 1) := by
  simp [isW, isT, List.all_eq_true, and_assoc]
/-- The value of digits, the lowest first. -/
def val : List Int → Int
  | [] => 0
  | a :: l => 3 * val l + a

theorem spec_l1In_t (a b c : Int) : spec_l1In.f a b c = some (decide (b ≤ a ∧ a ≤ c)) := by
  unfold spec_l1In.f
  by_cases h : a ≥ b
  · have h' : b ≤ a := h
    rw [if_pos h]; simp [h']
  · have h' : ¬ b ≤ a := h
    rw [if_neg h]; simp [h']

theorem spec_IsTrit_t (a : Int) : spec_IsTrit.f a = some (isT a) := by
  unfold spec_IsTrit.f; rw [spec_l1In_t]; rfl

theorem spec_IsWord_l0 (l : List Int) (hl : l.length ≤ 9000000000000000000) (d : Nat) : ∀ (k j : Nat), j + d = l.length → d < k →
    spec_IsWord.l0 k l l (l.length : Int) (j : Int) = some ((l.drop j).all isT && (decide (1 ≤ l.length) && decide (l.length ≤ 30))) := by
  induction d with
  | zero =>
    intro k j hj hk
    obtain ⟨k, rfl⟩ : ∃ m, k = m + 1 := ⟨k - 1, by omega⟩
    simp only [spec_IsWord.l0]
    rw [if_neg (by omega), List.drop_eq_nil_of_le (by omega), spec_l1In_t]; simp
    have : (1 : Int) ≤ (l.length : Int) ↔ 1 ≤ l.length := by omega
    have : (l.length : Int) ≤ 30 ↔ l.length ≤ 30 := by omega
    simp [*]
  | succ d ih =>
    intro k j hj hk
    obtain ⟨k, rfl⟩ : ∃ m, k = m + 1 := ⟨k - 1, by omega⟩
    simp only [spec_IsWord.l0]
    rw [if_pos (by omega), if_pos (by omega), if_pos (by omega), spec_IsTrit_t, rd_nat, drop_cons l j (by omega)]
    simp only [Option.bind_some, List.all_cons]
    have e := ih k (j + 1) (by omega) (by omega)
    rw [wr (by omega) (by omega)]
    cases isT (l.getD j 0) with
    | false => rfl
    | true => simp only [if_true, Bool.true_and]; exact_mod_cast e
theorem spec_IsWord_t (k : Nat) (l : List Int) (hl : l.length ≤ 9000000000000000000) (hk : l.length < k) : spec_IsWord.f k l = some (isW l) := by
  have e := spec_IsWord_l0 l hl l.length k 0 (by omega) hk
  unfold spec_IsWord.f isW
  simp only [List.drop_zero] at e
  rw [Bool.and_comm] at e
  exact e

/-- The trit of a byte; 2 if there is none. -/
def trB (b : Int) : Int := if b = 45 then -1 else if b = 48 then 0 else if b = 43 then 1 else 2
/-- The trits of a text, in its order. -/
def trs (s : ByteArray) : List Int := (List.range s.size).map fun i => trB (bt s (i : Nat))
theorem trs_len (s : ByteArray) : (trs s).length = s.size := by simp [trs]
theorem trs_get (s : ByteArray) (j : Nat) (h : j < s.size) : (trs s).getD j 0 = trB (bt s j) := by
  simp [trs, List.getD_eq_getElem?_getD, h]
theorem trB_isT (b : Int) : isT (trB b) = true ↔ (b = 45 ∨ b = 48 ∨ b = 43) := by
  unfold trB isT; split
  · simp [*]
  · split
    · simp [*]
    · split <;> simp [*]

/-- ParseWord. -/
def parseW (s : ByteArray) : List Int × Bool := if isW (trs s) = true then ((trs s).reverse, true) else ([], false)
theorem parseW_len (s : ByteArray) : (parseW s).1.length ≤ 30 := by
  unfold parseW; split
  · rename_i h; have hw := isW_iff.mp h; simpa using hw.2.1
  · simp

theorem impl_tritsOf_l0 (s : ByteArray) (hl : s.size ≤ 1000000000) (d : Nat) : ∀ (k j : Nat), j + d = s.size → d < k → ((trs s).take j).all isT = true →
    impl_tritsOf.l0 k s ((trs s).take j) (s.size : Int) (j : Int) = some (if (trs s).all isT = true then (trs s, true) else ([], false)) := by
  have hT := trs_len s
  induction d with
  | zero =>
    intro k j hj hk ha
    obtain ⟨k, rfl⟩ : ∃ m, k = m + 1 := ⟨k - 1, by omega⟩
    simp only [impl_tritsOf.l0]
    rw [List.take_of_length_le (by omega)] at ha ⊢
    rw [if_neg (by omega), if_pos ha]
  | succ d ih =>
    intro k j hj hk ha
    obtain ⟨k, rfl⟩ : ∃ m, k = m + 1 := ⟨k - 1, by omega⟩
    simp only [impl_tritsOf.l0]
    have hg := trs_get s j (by omega)
    have ht := take_snoc (trs s) j (by omega)
    have e := ih k (j + 1) (by omega) (by omega)
    rw [ht, hg] at e
    rw [if_pos (by omega), if_pos (by omega), if_pos (by omega), wr (x := (j : Int) + 1) (by omega) (by omega)]
    have hlen : ((trs s).take j).length < 17592186044416 := by simp; omega
    by_cases c : isT (trB (bt s j)) = true
    · have e2 := e (by simp [List.all_append, ha, c])
      have c' := (trB_isT _).mp c
      by_cases c1 : bt s j = 45
      · have : trB (bt s j) = -1 := by simp [trB, c1]
        rw [this] at e2
        rw [if_pos c1, if_pos hlen]; exact_mod_cast e2
      · rw [if_neg c1]
        by_cases c2 : bt s j = 48
        · have : trB (bt s j) = 0 := by simp [trB, c2]
          rw [this] at e2
          rw [if_pos c2, if_pos hlen]; exact_mod_cast e2
        · have c3 : bt s j = 43 := by omega
          have : trB (bt s j) = 1 := by simp [trB, c3]
          rw [this] at e2
          rw [if_neg c2, if_pos c3, if_pos hlen]; exact_mod_cast e2
    · have c' : ¬ (bt s j = 45 ∨ bt s j = 48 ∨ bt s j = 43) := fun x => c ((trB_isT _).mpr x)
      rw [if_neg (by omega), if_neg (by omega), if_neg (by omega)]
      rw [if_neg]
      intro hall
      have hm : (trs s).getD j 0 ∈ trs s := by rw [List.getD_eq_getElem?_getD, List.getElem?_eq_getElem (by omega)]; exact List.getElem_mem (by omega)
      rw [hg] at hm
      exact c (List.all_eq_true.mp hall _ hm)
theorem impl_tritsOf_t (k : Nat) (s : ByteArray) (hl : s.size ≤ 1000000000) (hk : s.size < k) : impl_tritsOf.f k s = some (if (trs s).all isT = true then (trs s, true) else ([], false)) := by
  have e := impl_tritsOf_l0 s hl s.size k 0 (by omega) hk (by simp)
  unfold impl_tritsOf.f; simpa using e

theorem getD_set (l : List Int) (i : Nat) (v : Int) (p : Nat) (h : i < l.length) : (l.set i v).getD p 0 = if p = i then v else l.getD p 0 := by
  simp only [List.getD_eq_getElem?_getD, List.getElem?_set]
  by_cases e : i = p
  · subst e; simp [h]
  · have : ¬ p = i := fun x => e x.symm
    simp [e, this]
theorem getD_rev (l : List Int) (p : Nat) (h : p < l.length) : l.reverse.getD p 0 = l.getD (l.length - 1 - p) 0 := by
  simp only [List.getD_eq_getElem?_getD]; rw [List.getElem?_reverse h]
theorem ext_getD (a b : List Int) (h : a.length = b.length) (e : ∀ p, p < a.length → a.getD p 0 = b.getD p 0) : a = b := by
  apply List.ext_getElem h
  intro i h1 h2
  have := e i h1
  simpa [List.getD_eq_getElem?_getD, List.getElem?_eq_getElem h1, List.getElem?_eq_getElem h2] using this
theorem slices_Reverse_l0 (l : List Int) (hl : l.length ≤ 1000000000) (m : Nat) : ∀ (k i : Nat) (x : List Int), l.length - 2 * i ≤ m → 2 * i ≤ l.length + 1 → m < k → x.length = l.length →
    (∀ p, p < l.length → x.getD p 0 = if p < i ∨ l.length - i ≤ p then l.getD (l.length - 1 - p) 0 else l.getD p 0) →
    slices_Reverse_int_int.l0 k x (i : Int) ((l.length : Int) - 1 - i) = some l.reverse := by
  induction m with
  | zero =>
    intro k i x hm hi hk hx hp
    obtain ⟨k, rfl⟩ : ∃ m, k = m + 1 := ⟨k - 1, by omega⟩
    simp only [slices_Reverse_int_int.l0]
    rw [if_neg (by omega)]
    congr 1
    apply ext_getD
    · simp [hx]
    · intro p h
      rw [hx] at h
      rw [getD_rev l p h, hp p h]
      by_cases c : p < i ∨ l.length - i ≤ p
      · rw [if_pos c]
      · rw [if_neg c]; congr 1; omega
  | succ m ih =>
    intro k i x hm hi hk hx hp
    obtain ⟨k, rfl⟩ : ∃ m, k = m + 1 := ⟨k - 1, by omega⟩
    simp only [slices_Reverse_int_int.l0]
    by_cases c : (i : Int) < (l.length : Int) - 1 - i
    · rw [if_pos c, if_pos (by omega), if_pos (by omega), if_pos (by omega), if_pos (by omega)]
      obtain ⟨j, hj⟩ : ∃ j : Nat, (l.length : Int) - 1 - i = j := ⟨l.length - 1 - i, by omega⟩
      rw [hj, rd_nat, rd_nat, Int.toNat_natCast, Int.toNat_natCast, wr (x := (i : Int) + 1) (by omega) (by omega), wr (x := (j : Int) - 1) (by omega) (by omega)]
      have e := ih k (i + 1) ((x.set i (x.getD j 0)).set j (x.getD i 0)) (by omega) (by omega) (by omega) (by simp [hx]) (by
        intro p h
        rw [getD_set _ _ _ _ (by simp [hx]; omega), getD_set _ _ _ _ (by omega)]
        by_cases c1 : p = j
        · rw [if_pos c1, if_pos (by omega), hp i (by omega), if_neg (by omega)]; congr 1; omega
        · rw [if_neg c1]
          by_cases c2 : p = i
          · rw [if_pos c2, if_pos (by omega), hp j (by omega), if_neg (by omega)]; congr 1; omega
          · rw [if_neg c2, hp p h]
            by_cases c3 : p < i ∨ l.length - i ≤ p
            · rw [if_pos c3, if_pos (by omega)]
            · rw [if_neg c3, if_neg (by omega)])
      rw [show (l.length : Int) - 1 - ((i + 1 : Nat) : Int) = (j : Int) - 1 by omega] at e
      exact_mod_cast e
    · rw [if_neg c]
      congr 1
      apply ext_getD
      · simp [hx]
      · intro p h
        rw [hx] at h
        rw [getD_rev l p h, hp p h]
        by_cases c : p < i ∨ l.length - i ≤ p
        · rw [if_pos c]
        · rw [if_neg c]; congr 1; omega
theorem slices_Reverse_t (k : Nat) (l : List Int) (hl : l.length ≤ 1000000000) (hk : l.length < k) : slices_Reverse_int_int.f k l = some l.reverse := by
  unfold slices_Reverse_int_int.f
  rw [wr (by omega) (by omega)]
  have e := slices_Reverse_l0 l hl l.length k 0 l (by omega) (by omega) hk rfl (by intro p h; rw [if_neg (by omega)])
  simpa using e

theorem slices_Clone_t (l : List Int) (hl : l.length ≤ 1000000000) : slices_Clone_int_int.f l = some l := by
  unfold slices_Clone_int_int.f; rw [if_pos (by omega)]

theorem impl_backwards_t (k : Nat) (l : List Int) (hl : l.length ≤ 1000000000) (hk : l.length < k) : impl_backwards.f k l = some l.reverse := by
  unfold impl_backwards.f
  rw [slices_Clone_t l hl]; simp only [Option.bind_some]
  rw [slices_Reverse_t k l hl hk]; rfl

theorem impl_ParseWord_t (k : Nat) (s : ByteArray) (hk : 50 < k) : impl_ParseWord.f k s = some (parseW s) := by
  have hT := trs_len s
  unfold impl_ParseWord.f parseW
  by_cases h1 : (s.size : Int) > 30
  · rw [if_pos h1, if_neg (fun x => by have := isW_iff.mp x; omega)]
  · rw [if_neg h1, impl_tritsOf_t k s (by omega) (by omega)]; simp only [Option.bind_some]
    by_cases h2 : (trs s).all isT = true
    · simp only [h2, if_true]
      by_cases h3 : ((trs s).length : Int) < 1
      · rw [if_pos h3, if_neg (fun x => by have := isW_iff.mp x; omega)]
      · rw [if_neg h3, impl_backwards_t k _ (by omega) (by omega), if_pos (by simp [isW, h2]; omega)]; rfl
    · simp only [h2, if_false, Bool.false_eq_true]
      rw [if_neg (fun x => h2 (by simp [isW] at x; simpa using x.2))]

theorem lt0a (n : Nat) : (1 + (n : Int) < 0) = False := by simp; omega
theorem lt0b (n m : Nat) : (1 + (n : Int) + (m : Int) < 0) = False := by simp; omega
theorem lt0c (n m q : Nat) : (1 + (n : Int) + (m : Int) + (q : Int) < 0) = False := by simp; omega

theorem spec_l1Trit_t (b : Int) : spec_l1Trit.f b = some (trB b) := by
  unfold spec_l1Trit.f trB; split
  · rfl
  · split
    · rfl
    · split <;> rfl
theorem isW_rev (l : List Int) : isW l.reverse = isW l := by simp [isW]
theorem spec_ParseWord_l0 (s : ByteArray) (hl : s.size ≤ 30) (hs : 1 ≤ s.size) (j : Nat) : ∀ (k : Nat), j ≤ s.size → j + 50 < k →
    spec_ParseWord.l0 k s ((trs s).drop j).reverse ((j : Int) - 1) = some (parseW s) := by
  have hT := trs_len s
  induction j with
  | zero =>
    intro k hj hk
    obtain ⟨k, rfl⟩ : ∃ m, k = m + 1 := ⟨k - 1, by omega⟩
    simp only [spec_ParseWord.l0]
    rw [if_neg (by omega), List.drop_zero, spec_IsWord_t k _ (by simp; omega) (by simp; omega), isW_rev]
    simp only [Option.bind_some]; unfold parseW; split <;> rfl
  | succ j ih =>
    intro k hj hk
    obtain ⟨k, rfl⟩ : ∃ m, k = m + 1 := ⟨k - 1, by omega⟩
    simp only [spec_ParseWord.l0]
    have e := ih k (by omega) (by omega)
    rw [drop_cons (trs s) j (by omega), List.reverse_cons, trs_get s j (by omega)] at e
    rw [if_pos (by omega), if_pos (by omega), if_pos (by omega), show ((j + 1 : Nat) : Int) - 1 = (j : Int) by omega, spec_l1Trit_t]
    simp only [Option.bind_some]
    rw [if_pos (by simp; omega), wr (x := (j : Int) - 1) (by omega) (by omega)]
    exact e
theorem spec_ParseWord_t (k : Nat) (s : ByteArray) (hk : 100 < k) : spec_ParseWord.f k s = some (parseW s) := by
  have hT := trs_len s
  unfold spec_ParseWord.f
  rw [spec_l1In_t]; simp only [Option.bind_some]
  by_cases h : 1 ≤ s.size ∧ s.size ≤ 30
  · rw [if_pos (by simp; omega), wr (by omega) (by omega)]
    have e := spec_ParseWord_l0 s h.2 h.1 s.size k (by omega) (by omega)
    rw [List.drop_of_length_le (by omega)] at e
    exact e
  · rw [if_neg (by simp; omega)]
    unfold parseW
    rw [if_neg (fun x => h (by have := isW_iff.mp x; omega))]
theorem FnExactParseWord : laws_FnExactParseWord.Pure := by
  intro s h1
  refine ⟨200, ?_⟩
  unfold laws_FnExactParseWord.f
  split
  · rfl
  · have hl := parseW_len s
    simp (disch := omega) only [Option.bind_some, spec_ParseWord_t, impl_ParseWord_t, laws_eqIntS_t, decide_true, if_true, laws_FnExactParseWord.j0, laws_FnExactParseWord.j1,
      laws_markIntS_t, laws_heldIntS_t, lt0a, if_false, Bool.not_true, Bool.false_eq_true, bne_self_eq_false]

end Go.Proofs.Ytjbcjkpbggaknaa.Pure.InFnExactParseWord
namespace Go.Proofs.Ytjbcjkpbggaknaa.Pure
theorem FnExactParseWord : QFnExactParseWord.laws_FnExactParseWord.Pure := InFnExactParseWord.FnExactParseWord
end Go.Proofs.Ytjbcjkpbggaknaa.Pure
