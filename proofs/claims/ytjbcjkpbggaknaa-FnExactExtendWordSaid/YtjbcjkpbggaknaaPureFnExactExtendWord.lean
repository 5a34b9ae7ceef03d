/- FnExactExtendWord: ExtendWord of program and reference agree for all arguments, the list stays as it was, and the results share no memory. No condition. -/
import Derived.Test.YtjbcjkpbggaknaaQFnExactExtendWordx4
set_option linter.unusedVariables false
set_option linter.unusedSimpArgs false
namespace Go.Proofs.Ytjbcjkpbggaknaa.Pure.InFnExactExtendWord
open Go.RowKit Go.Proofs.Ytjbcjkpbggaknaa.QFnExactExtendWord Go.Proofs.YtjbcjkpbggaknaaW.PrintWords Go.Proofs.YtjbcjkpbggaknaaW.PrintLast Go.Proofs.YtjbcjkpbggaknaaW.PrintMore

theorem lt0a (n : Nat) : (1 + (n : Int) < 0) = False := by simp; omega
theorem lt0b (n m : Nat) : (1 + (n : Int) + (m : Int) < 0) = False := by simp; omega
theorem lt0c (n m q : Nat) : (1 + (n : Int) + (m : Int) + (q : Int) < 0) = False := by simp; omega

theorem wr {x : Int} (h1 : -9223372036854775808 ≤ x) (h2 : x ≤ 9223372036854775807) : wrap64 x = x := by unfold wrap64; omega
theorem wfB {a : Int} (h : (Lit.int .i64 a).wf = true) : -9223372036854775808 ≤ a ∧ a ≤ 9223372036854775807 := by
  have h' := h
  simp only [Lit.wf, Bool.and_eq_true, decide_eq_true_eq] at h'
  exact h'
/-- A trit. -/
def isT (a : Int) : Bool := decide (-1 ≤ a ∧ a ≤ 1)
theorem isT_iff {a : Int} : isT a = true ↔ (-1 ≤ a ∧ a ≤ 1) := by simp [isT]

theorem rd_nat (l : List Int) (j : Nat) : rd l (j : Int) = l.getD j 0 := by unfold rd; simp
theorem drop_cons (l : List Int) (j : Nat) (h : j < l.length) : l.drop j = l.getD j 0 :: l.drop (j + 1) := by
  rw [List.drop_eq_getElem_cons h]; simp [List.getD_eq_getElem?_getD, h]
theorem take_snoc (l : List Int) (j : Nat) (h : j < l.length) : l.take (j + 1) = l.take j ++ [l.getD j 0] := by
  rw [List.take_succ_eq_append_getElem h]; simp [List.getD_eq_getElem?_getD, h]

theorem laws_toIntS_l0 (l : List Int) (hl : l.length ≤ 35184372088832) (d : Nat) : ∀ (k j : Nat), j + d = l.length → d < k →
    laws_toIntS.l0 k l (l.take j ++ List.replicate (l.length - j) 0) (j : Int) = some l := by
  induction d with
  | zero =>
    intro k j hj hk
    obtain ⟨k, rfl⟩ : ∃ m, k = m + 1 := ⟨k - 1, by omega⟩
    simp only [laws_toIntS.l0]
    rw [if_neg (by omega), show j = l.length by omega]; simp
  | succ d ih =>
    intro k j hj hk
    obtain ⟨k, rfl⟩ : ∃ m, k = m + 1 := ⟨k - 1, by omega⟩
    simp only [laws_toIntS.l0]
    rw [if_pos (by omega), if_pos (by omega), if_pos (by simp; omega), rd_nat, wr (by omega) (by omega)]
    have e := ih k (j + 1) (by omega) (by omega)
    have s : (l.take j ++ List.replicate (l.length - j) 0).set ((j : Int)).toNat (l.getD j 0) = l.take (j + 1) ++ List.replicate (l.length - (j + 1)) 0 := by
      have hlen : (l.take j).length = j := by simp; omega
      rw [show ((j : Int)).toNat = j from by simp, List.set_append_right _ _ (by omega), take_snoc l j (by omega),
        show l.length - j = (l.length - (j + 1)) + 1 by omega, List.replicate_succ, hlen]
      simp
    rw [s]; exact_mod_cast e
theorem laws_toIntS_t (k : Nat) (l : List Int) (hl : l.length ≤ 35184372088832) (hk : l.length < k) : laws_toIntS.f k l = some l := by
  have e := laws_toIntS_l0 l hl l.length k 0 (by omega) hk
  unfold laws_toIntS.f
  rw [if_pos (by omega), if_pos (by simpa using hl)]
  simpa using e

theorem laws_eqIntS_l0 (a b : List Int) (hab : a.length = b.length) (hl : a.length ≤ 9000000000000000000) (d : Nat) : ∀ (k j : Nat), j + d = a.length → d < k →
    laws_eqIntS.l0 k a b (j : Int) = some (decide (a.drop j = b.drop j)) := by
  induction d with
  | zero =>
    intro k j hj hk
    obtain ⟨k, rfl⟩ : ∃ m, k = m + 1 := ⟨k - 1, by omega⟩
    simp only [laws_eqIntS.l0]
    rw [if_neg (by omega), List.drop_eq_nil_of_le (by omega), List.drop_eq_nil_of_le (by omega)]; simp
  | succ d ih =>
    intro k j hj hk
    obtain ⟨k, rfl⟩ : ∃ m, k = m + 1 := ⟨k - 1, by omega⟩
    simp only [laws_eqIntS.l0]
    rw [if_pos (by omega), if_pos (by omega), if_pos (by omega), rd_nat, rd_nat, wr (by omega) (by omega), drop_cons a j (by omega), drop_cons b j (by omega)]
    have e := ih k (j + 1) (by omega) (by omega)
    by_cases h : a.getD j 0 = b.getD j 0
    · rw [if_pos h, h]; simp only [List.cons.injEq, true_and]; exact_mod_cast e
    · rw [if_neg h]; simp only [List.cons.injEq, h, false_and, decide_false]
theorem laws_eqIntS_t (k : Nat) (a b : List Int) (hl : a.length ≤ 9000000000000000000) (hk : a.length < k) : laws_eqIntS.f k a b = some (decide (a = b)) := by
  unfold laws_eqIntS.f
  by_cases h : a.length = b.length
  · rw [if_pos (by omega)]
    have e := laws_eqIntS_l0 a b h hl a.length k 0 (by omega) hk
    simpa using e
  · rw [if_neg (by omega)]
    have : ¬ a = b := fun e => h (by rw [e])
    simp [this]

/-- The numbers from s on. -/
def marks : Int → Nat → List Int
  | _, 0 => []
  | s, n + 1 => s :: marks (s + 1) n
theorem marks_len (n : Nat) : ∀ s, (marks s n).length = n := by
  induction n with
  | zero => intro s; rfl
  | succ n ih => intro s; simp [marks, ih]
theorem marks_snoc (n : Nat) : ∀ s, marks s (n + 1) = marks s n ++ [s + n] := by
  induction n with
  | zero => intro s; simp [marks]
  | succ n ih => intro s; rw [marks, ih (s + 1)]; simp only [marks, List.cons_append]; congr 3; omega
theorem marks_get (n : Nat) : ∀ (s : Int) (j : Nat), j < n → (marks s n).getD j 0 = s + j := by
  induction n with
  | zero => intro s j h; omega
  | succ n ih =>
    intro s j h
    cases j with
    | zero => simp [marks]
    | succ j => have := ih (s + 1) j (by omega); simp only [marks, List.getD_cons_succ]; rw [this]; omega
theorem laws_markIntS_l0 (l : List Int) (s : Int) (hs : 0 ≤ s ∧ s ≤ 100000000) (hl : l.length ≤ 1000000000000) (d : Nat) : ∀ (k j : Nat), j + d = l.length → d < k →
    laws_markIntS.l0 k (marks s j ++ l.drop j) (s + j) (j : Int) = some (s + l.length, marks s l.length) := by
  induction d with
  | zero =>
    intro k j hj hk
    obtain ⟨k, rfl⟩ : ∃ m, k = m + 1 := ⟨k - 1, by omega⟩
    simp only [laws_markIntS.l0]
    rw [if_neg (by simp [marks_len]; omega), List.drop_eq_nil_of_le (by omega), show j = l.length by omega]; simp
  | succ d ih =>
    intro k j hj hk
    obtain ⟨k, rfl⟩ : ∃ m, k = m + 1 := ⟨k - 1, by omega⟩
    simp only [laws_markIntS.l0]
    rw [if_pos (by simp [marks_len]; omega), if_pos (by omega), wr (x := s + (j : Int) + 1) (by omega) (by omega), wr (x := (j : Int) + 1) (by omega) (by omega)]
    have e := ih k (j + 1) (by omega) (by omega)
    have t : (marks s j ++ l.drop j).set ((j : Int)).toNat (s + j) = marks s (j + 1) ++ l.drop (j + 1) := by
      rw [show ((j : Int)).toNat = j from by simp, List.set_append_right _ _ (by rw [marks_len]; omega), marks_len, drop_cons l j (by omega), marks_snoc]
      simp
    rw [t, show s + (j : Int) + 1 = s + ((j + 1 : Nat) : Int) by omega]; exact_mod_cast e
theorem laws_markIntS_t (k : Nat) (l : List Int) (s : Int) (hs : 0 ≤ s ∧ s ≤ 100000000) (hl : l.length ≤ 1000000000000) (hk : l.length < k) : laws_markIntS.f k l s = some (s + l.length, marks s l.length) := by
  have e := laws_markIntS_l0 l s hs hl l.length k 0 (by omega) hk
  unfold laws_markIntS.f; simpa [marks] using e
theorem laws_heldIntS_l0 (n : Nat) (s : Int) (hs : 0 ≤ s ∧ s ≤ 100000000) (hl : n ≤ 1000000000000) (d : Nat) : ∀ (k j : Nat), j + d = n → d < k →
    laws_heldIntS.l0 k (marks s n) (s + j) (j : Int) = some (s + n) := by
  induction d with
  | zero =>
    intro k j hj hk
    obtain ⟨k, rfl⟩ : ∃ m, k = m + 1 := ⟨k - 1, by omega⟩
    simp only [laws_heldIntS.l0]
    rw [if_neg (by simp [marks_len]; omega), show j = n by omega]
  | succ d ih =>
    intro k j hj hk
    obtain ⟨k, rfl⟩ : ∃ m, k = m + 1 := ⟨k - 1, by omega⟩
    simp only [laws_heldIntS.l0]
    rw [if_pos (by simp [marks_len]; omega), if_pos (by omega), rd_nat, marks_get n s j (by omega), if_pos rfl, wr (x := s + (j : Int) + 1) (by omega) (by omega), wr (x := (j : Int) + 1) (by omega) (by omega)]
    have e := ih k (j + 1) (by omega) (by omega)
    rw [show s + (j : Int) + 1 = s + ((j + 1 : Nat) : Int) by omega]; exact_mod_cast e
theorem laws_heldIntS_t (k : Nat) (n : Nat) (s : Int) (hs : 0 ≤ s ∧ s ≤ 100000000) (hl : n ≤ 1000000000000) (hk : n < k) : laws_heldIntS.f k (marks s n) s = some (s + n) := by
  have e := laws_heldIntS_l0 n s hs hl n k 0 (by omega) hk
  unfold laws_heldIntS.f; simpa using e



/-- A word. -/
def isW (l : List Int) : Bool := decide (1 ≤ l.length) && decide (l.length ≤ 30) && l.all isT
theorem isW_iff {l : List Int} : isW l = true ↔ (1 ≤ l.length ∧ l.length ≤ 30 ∧ ∀ x ∈ l, -1 ≤ x ∧ x ≤ 1) := by
  simp [isW, isT, List.all_eq_true, and_assoc]
/-- The value of digits, the lowest first. -/
def val : List Int → Int
  | [] => 0
  | a :: l => 3 * val l + a

theorem spec_l1In_t (a b c : Int) : spec_l1In.f a b c = some (decide (b ≤ a ∧ a ≤ c)) := by
  unfold spec_l1In.f
  by_cases h : a ≥ b
  · have h' : b ≤ a := h
    rw [if_pos h]; simp [h']
  · have h' : ¬ b ≤ a := h
    rw [if_neg h]; simp [h']

theorem spec_IsTrit_t (a : Int) : spec_IsTrit.f a = some (isT a) := by
  unfold spec_IsTrit.f; rw [spec_l1In_t]; rfl

theorem spec_IsWord_l0 (l : List Int) (hl : l.length ≤ 9000000000000000000) (d : Nat) : ∀ (k j : Nat), j + d = l.length → d < k →
    spec_IsWord.l0 k l l (l.length : Int) (j : Int) = some ((l.drop j).all isT && (decide (1 ≤ l.length) && decide (l.length ≤ 30))) := by
  induction d with
  | zero =>
    intro k j hj hk
    obtain ⟨k, rfl⟩ : ∃ m, k = m + 1 := ⟨k - 1, by omega⟩
    simp only [spec_IsWord.l0]
    rw [if_neg (by omega), List.drop_eq_nil_of_le (by omega), spec_l1In_t]; simp
    have : (1 : Int) ≤ (l.length : Int) ↔ 1 ≤ l.length := by omega
    have : (l.length : Int) ≤ 30 ↔ l.length ≤ 30 := by omega
    simp [*]
  | succ d ih =>
    intro k j hj hk
    obtain ⟨k, rfl⟩ : ∃ m, k = m + 1 := ⟨k - 1, by omega⟩
    simp only [spec_IsWord.l0]
    rw [if_pos (by omega), if_pos (by omega), if_pos (by omega), spec_IsTrit_t, rd_nat, drop_cons l j (by omega)]
    simp only [Option.bind_some, List.all_cons]
    have e := ih k (j + 1) (by omega) (by omega)
    rw [wr (by omega) (by omega)]
    cases isT (l.getD j 0) with
    | false => rfl
    | true => simp only [if_true, Bool.true_and]; exact_mod_cast e
theorem spec_IsWord_t (k : Nat) (l : List Int) (hl : l.length ≤ 9000000000000000000) (hk : l.length < k) : spec_IsWord.f k l = some (isW l) := by
  have e := spec_IsWord_l0 l hl l.length k 0 (by omega) hk
  unfold spec_IsWord.f isW
  simp only [List.drop_zero] at e
  rw [Bool.and_comm] at e
  exact e

/-- (3^k - 1) / 2. -/
def lim : Nat → Int
  | 0 => 0
  | k + 1 => 3 * lim k + 1
/-- 3^k. -/
def pw : Nat → Int
  | 0 => 1
  | k + 1 => pw k * 3
theorem pw_lim (k : Nat) : pw k = 2 * lim k + 1 := by
  induction k with
  | zero => rfl
  | succ k ih => simp only [pw, lim]; omega
theorem lim_mono {j k : Nat} (h : j ≤ k) : lim j ≤ lim k := by
  induction k with
  | zero => have : j = 0 := by omega
            subst this; exact Int.le_refl _
  | succ k ih =>
    by_cases e : j = k + 1
    · subst e; exact Int.le_refl _
    · have := ih (by omega)
      have h0 : ∀ m, 0 ≤ lim m := by
        intro m; induction m with
        | zero => exact Int.le_refl _
        | succ m im => simp only [lim]; omega
      have := h0 k
      simp only [lim]; omega
theorem lim_nonneg (k : Nat) : 0 ≤ lim k := lim_mono (Nat.zero_le k)
theorem lim30 : lim 30 = 102945566047324 := by decide
theorem lim_le {k : Nat} (h : k ≤ 30) : lim k ≤ 102945566047324 := by rw [← lim30]; exact lim_mono h
/-- LimitOf. -/
def limOf (k : Int) : Int := if 1 ≤ k ∧ k ≤ 30 then lim k.toNat else 0

theorem val_drop (l : List Int) (j : Nat) (h : j < l.length) : val (l.drop j) = 3 * val (l.drop (j + 1)) + l.getD j 0 := by
  rw [drop_cons l j h]; rfl
/-- Digits from -d to d have a value within d times the limit. -/
theorem val_bound (d : Int) (hd : 0 ≤ d) (l : List Int) (h : ∀ x ∈ l, -d ≤ x ∧ x ≤ d) : -(d * lim l.length) ≤ val l ∧ val l ≤ d * lim l.length := by
  induction l with
  | nil => simp [val, lim]
  | cons a l ih =>
    have h1 := ih (fun x hx => h x (List.mem_cons_of_mem _ hx))
    have h2 := h a (List.mem_cons_self ..)
    simp only [val, List.length_cons, lim]
    have e : d * (3 * lim l.length + 1) = 3 * (d * lim l.length) + d := by rw [Int.mul_add, Int.mul_one, Int.mul_left_comm]
    rw [e]; omega
theorem val_bound30 (d : Int) (hd : 0 ≤ d) (hd2 : d ≤ 2) (l : List Int) (hl : l.length ≤ 30) (h : ∀ x ∈ l, -d ≤ x ∧ x ≤ d) : -300000000000000 ≤ val l ∧ val l ≤ 300000000000000 := by
  have h1 := val_bound d hd l h
  have h2 := lim_le hl
  have h3 := lim_nonneg l.length
  have h4 : d * lim l.length ≤ 2 * lim l.length := Int.mul_le_mul_of_nonneg_right hd2 h3
  omega
theorem mem_getD (l : List Int) (j : Nat) (h : j < l.length) : l.getD j 0 ∈ l := by
  rw [List.getD_eq_getElem?_getD, List.getElem?_eq_getElem h]; exact List.getElem_mem h

theorem spec_l2Value_l0 (d : Int) (hd : 0 ≤ d) (hd2 : d ≤ 2) (l : List Int) (hl : l.length ≤ 30) (hb : ∀ x ∈ l, -d ≤ x ∧ x ≤ d) (j : Nat) : ∀ (k : Nat), j ≤ l.length → j < k →
    spec_l2Value.l0 k l (val (l.drop j)) ((j : Int) - 1) = some (val l) := by
  induction j with
  | zero =>
    intro k hj hk
    obtain ⟨k, rfl⟩ : ∃ m, k = m + 1 := ⟨k - 1, by omega⟩
    simp only [spec_l2Value.l0]
    rw [if_neg (by omega)]; simp
  | succ j ih =>
    intro k hj hk
    obtain ⟨k, rfl⟩ : ∃ m, k = m + 1 := ⟨k - 1, by omega⟩
    simp only [spec_l2Value.l0]
    have e := ih k (by omega) (by omega)
    have b1 := val_bound30 d hd hd2 (l.drop (j + 1)) (by simp; omega) (fun x hx => hb x (List.mem_of_mem_drop hx))
    have b2 := hb _ (mem_getD l j (by omega))
    have v := val_drop l j (by omega)
    rw [if_pos (by omega), if_pos (by omega), if_pos (by omega), show ((j + 1 : Nat) : Int) - 1 = (j : Int) by omega, rd_nat,
      wr (x := 3 * val (l.drop (j + 1))) (by omega) (by omega), wr (x := _ + _) (by omega) (by omega), wr (x := (j : Int) - 1) (by omega) (by omega), ← v]
    exact e
theorem spec_l2Value_t (d : Int) (hd : 0 ≤ d) (hd2 : d ≤ 2) (k : Nat) (l : List Int) (hl : l.length ≤ 30) (hb : ∀ x ∈ l, -d ≤ x ∧ x ≤ d) (hk : 30 < k) : spec_l2Value.f k l = some (val l) := by
  have e := spec_l2Value_l0 d hd hd2 l hl hb l.length k (by omega) (by omega)
  unfold spec_l2Value.f
  rw [wr (by omega) (by omega)]
  simpa [val] using e

/-- The trit of a small number, and the carry. -/
def crd (n : Int) : Int × Int := if n > 1 then (n - 3, 1) else if n < -1 then (n + 3, -1) else (n, 0)
theorem impl_carried_t (n : Int) (h : -1000 ≤ n ∧ n ≤ 1000) : impl_carried.f n = some (crd n) := by
  unfold impl_carried.f crd
  by_cases h1 : n > 1
  · rw [if_pos h1, if_pos h1, wr (by omega) (by omega)]
  · rw [if_neg h1, if_neg h1]
    by_cases h2 : n < -1
    · rw [if_pos h2, if_pos h2, wr (by omega) (by omega)]
    · rw [if_neg h2, if_neg h2]

/-- The balanced rest by 3. -/
def dig (n : Int) : Int := (n + 1) % 3 - 1
/-- The trits of a number, the lowest first. -/
def wordL : Nat → Int → List Int
  | 0, _ => []
  | k + 1, n => dig n :: wordL k ((n - dig n) / 3)
theorem wordL_len (k : Nat) : ∀ n, (wordL k n).length = k := by
  induction k with
  | zero => intro n; rfl
  | succ k ih => intro n; simp [wordL, ih]
theorem tm3 (n : Int) : Int.tmod n 3 = n % 3 - if 0 ≤ n ∨ n % 3 = 0 then 0 else 3 := by
  rw [Int.tmod_eq_emod]
  by_cases h : 0 ≤ n
  · simp [h]
  · have : (3 ∣ n) ↔ n % 3 = 0 := by omega
    simp only [h, false_or, this]
    split <;> simp
theorem tm3_dig (n : Int) : (crd (Int.tmod n 3)).1 = dig n := by
  rw [tm3]; unfold crd dig
  by_cases a : 0 ≤ n ∨ n % 3 = 0
  · rw [if_pos a]
    by_cases b : n % 3 - 0 > 1
    · rw [if_pos b]; simp only; omega
    · rw [if_neg b]
      by_cases c : n % 3 - 0 < -1
      · rw [if_pos c]; simp only; omega
      · rw [if_neg c]; simp only; omega
  · rw [if_neg a]
    by_cases b : n % 3 - 3 > 1
    · rw [if_pos b]; simp only; omega
    · rw [if_neg b]
      by_cases c : n % 3 - 3 < -1
      · rw [if_pos c]; simp only; omega
      · rw [if_neg c]; simp only; omega
theorem td3 (n : Int) : Int.tdiv (n - dig n) 3 = (n - dig n) / 3 := by
  rw [Int.tdiv_eq_ediv_of_dvd]; unfold dig; omega
theorem dig_b (n : Int) : -1 ≤ dig n ∧ dig n ≤ 1 := by unfold dig; omega

theorem spec_l2Word_l0 (m : Nat) (hm : m ≤ 30) (d : Nat) : ∀ (k j : Nat) (n : Int) (acc : List Int), j + d = m → d < k → acc.length ≤ 1000 + j → -1000000000000000 ≤ n → n ≤ 1000000000000000 →
    spec_l2Word.l0 k n (m : Int) acc (j : Int) = some (acc ++ wordL d n) := by
  induction d with
  | zero =>
    intro k j n acc hj hk ha h1 h2
    obtain ⟨k, rfl⟩ : ∃ m, k = m + 1 := ⟨k - 1, by omega⟩
    simp only [spec_l2Word.l0]
    rw [if_neg (by omega)]; simp [wordL]
  | succ d ih =>
    intro k j n acc hj hk ha h1 h2
    obtain ⟨k, rfl⟩ : ∃ m, k = m + 1 := ⟨k - 1, by omega⟩
    simp only [spec_l2Word.l0]
    have hb := dig_b n
    have hd := td3 n
    have e := ih k (j + 1) ((n - dig n) / 3) (acc ++ [dig n]) (by omega) (by omega) (by simp; omega) (by omega) (by omega)
    have fin : spec_l2Word.l0 k (wrap64 (Int.tdiv (wrap64 (n - dig n)) 3)) (m : Int) (acc ++ [dig n]) (wrap64 ((j : Int) + 1)) = some (acc ++ wordL (d + 1) n) := by
      rw [wr (x := n - dig n) (by omega) (by omega), hd, wr (x := (n - dig n) / 3) (by omega) (by omega), wr (x := (j : Int) + 1) (by omega) (by omega)]
      have e' : acc ++ [dig n] ++ wordL d ((n - dig n) / 3) = acc ++ wordL (d + 1) n := by simp [wordL]
      rw [← e']; exact_mod_cast e
    have t := tm3 n
    have hl : acc.length < 17592186044416 := by omega
    have hr : -2 ≤ Int.tmod n 3 ∧ Int.tmod n 3 ≤ 2 := by rw [t]; split <;> omega
    rw [if_pos (by omega)]
    have hdd := tm3_dig n
    unfold crd at hdd
    by_cases c1 : Int.tmod n 3 > 1
    · rw [if_pos c1] at hdd
      simp only at hdd
      rw [if_pos c1, wr (x := Int.tmod n 3 - 3) (by omega) (by omega), if_neg (by omega), if_pos hl, hdd]; exact fin
    · rw [if_neg c1] at hdd
      rw [if_neg c1]
      by_cases c2 : Int.tmod n 3 < -1
      · rw [if_pos c2] at hdd
        simp only at hdd
        rw [if_pos c2, wr (x := Int.tmod n 3 + 3) (by omega) (by omega), if_pos hl, hdd]; exact fin
      · rw [if_neg c2] at hdd
        simp only at hdd
        rw [if_neg c2, if_pos hl, hdd]; exact fin
theorem spec_l2Word_t (k m : Nat) (hm : m ≤ 30) (hk : 30 < k) (n : Int) (h1 : -1000000000000000 ≤ n) (h2 : n ≤ 1000000000000000) : spec_l2Word.f k n (m : Int) = some (wordL m n) := by
  have e := spec_l2Word_l0 m hm m k 0 n [] (by omega) (by omega) (by simp) h1 h2
  unfold spec_l2Word.f; simpa using e

theorem spec_LimitOf_l0 (n : Nat) (hn : n ≤ 30) (d : Nat) : ∀ (k j : Nat), j + d = n → d < k →
    spec_LimitOf.l0 k (n : Int) (lim j) (j : Int) = some (lim n) := by
  induction d with
  | zero =>
    intro k j hj hk
    obtain ⟨k, rfl⟩ : ∃ m, k = m + 1 := ⟨k - 1, by omega⟩
    simp only [spec_LimitOf.l0]
    rw [if_neg (by omega), show j = n by omega]
  | succ d ih =>
    intro k j hj hk
    obtain ⟨k, rfl⟩ : ∃ m, k = m + 1 := ⟨k - 1, by omega⟩
    simp only [spec_LimitOf.l0]
    have := lim_le (k := j) (by omega)
    have := lim_nonneg j
    rw [if_pos (by omega), wr (x := 3 * lim j) (by omega) (by omega), wr (x := 3 * lim j + 1) (by omega) (by omega), wr (by omega) (by omega)]
    have e := ih k (j + 1) (by omega) (by omega)
    exact_mod_cast e
theorem spec_LimitOf_t (k : Nat) (hk : 31 < k) (n : Int) : spec_LimitOf.f k n = some (limOf n) := by
  unfold spec_LimitOf.f limOf
  rw [spec_l1In_t]; simp only [Option.bind_some]
  by_cases h : 1 ≤ n ∧ n ≤ 30
  · rw [if_pos (by simpa using h), if_pos h]
    obtain ⟨m, rfl⟩ : ∃ m : Nat, n = m := ⟨n.toNat, by omega⟩
    have e := spec_LimitOf_l0 m (by omega) m k 0 (by omega) (by omega)
    simpa [lim] using e
  · rw [if_neg (by simpa using h), if_neg h]

theorem limOf_nonneg (k : Int) : 0 ≤ limOf k ∧ limOf k ≤ 102945566047324 := by
  unfold limOf; split
  · exact ⟨lim_nonneg _, lim_le (by omega)⟩
  · omega

/-- WordOf. -/
def wordOf (n m : Int) : List Int × Bool := if (1 ≤ m ∧ m ≤ 30) ∧ (-limOf m ≤ n ∧ n ≤ limOf m) then (wordL m.toNat n, true) else ([], false)
theorem wordOf_len (n m : Int) : (wordOf n m).1.length ≤ 30 := by
  unfold wordOf; split
  · rw [wordL_len]; omega
  · simp

theorem spec_WordOf_t (k : Nat) (hk : 32 < k) (n m : Int) : spec_WordOf.f k n m = some (wordOf n m) := by
  unfold spec_WordOf.f wordOf
  rw [spec_l1In_t]; simp only [Option.bind_some]
  have hL := limOf_nonneg m
  by_cases h : 1 ≤ m ∧ m ≤ 30
  · rw [if_pos (by simpa using h), spec_LimitOf_t k (by omega)]
    simp only [Option.bind_some, spec_l1In_t]
    rw [wr (x := -limOf m) (by omega) (by omega)]
    by_cases h2 : -limOf m ≤ n ∧ n ≤ limOf m
    · rw [if_pos (by simpa using h2), if_pos ⟨h, h2⟩]
      obtain ⟨q, rfl⟩ : ∃ q : Nat, m = q := ⟨m.toNat, by omega⟩
      rw [spec_l2Word_t k q (by omega) (by omega) n (by omega) (by omega)]; simp
    · rw [if_neg (by simpa using h2), if_neg (fun x => h2 x.2)]
  · rw [if_neg (by simpa using h), if_neg (fun x => h x.1)]

/-- ExtendWord. -/
def extW (l : List Int) (m : Int) : List Int × Bool := if isW l = true then wordOf (val l) m else ([], false)
theorem extW_len (l : List Int) (m : Int) : (extW l m).1.length ≤ 30 := by
  unfold extW; split
  · exact wordOf_len _ _
  · simp

theorem impl_IsTrit_t (a : Int) : impl_IsTrit.f a = some (isT a) := by
  unfold impl_IsTrit.f isT
  by_cases h : a ≥ -1
  · have h' : -1 ≤ a := h
    rw [if_pos h]; simp [h']
  · have h' : ¬ -1 ≤ a := h
    rw [if_neg h]; simp [h']

theorem impl_trits_l0 (l : List Int) (hl : l.length ≤ 9000000000000000000) (d : Nat) : ∀ (k j : Nat), j + d = l.length → d < k →
    impl_trits.l0 k l (l.length : Int) (j : Int) = some ((l.drop j).all isT) := by
  induction d with
  | zero =>
    intro k j hj hk
    obtain ⟨k, rfl⟩ : ∃ m, k = m + 1 := ⟨k - 1, by omega⟩
    simp only [impl_trits.l0]
    rw [if_neg (by omega), List.drop_eq_nil_of_le (by omega)]; rfl
  | succ d ih =>
    intro k j hj hk
    obtain ⟨k, rfl⟩ : ∃ m, k = m + 1 := ⟨k - 1, by omega⟩
    simp only [impl_trits.l0]
    rw [if_pos (by omega), if_pos (by omega), if_pos (by omega), impl_IsTrit_t, rd_nat, drop_cons l j (by omega)]
    simp only [Option.bind_some, List.all_cons]
    have e := ih k (j + 1) (by omega) (by omega)
    rw [wr (by omega) (by omega)]
    cases isT (l.getD j 0) with
    | false => rfl
    | true => simp only [if_true, Bool.true_and]; exact_mod_cast e
theorem impl_trits_t (k : Nat) (l : List Int) (hl : l.length ≤ 9000000000000000000) (hk : l.length < k) : impl_trits.f k l = some (l.all isT) := by
  have e := impl_trits_l0 l hl l.length k 0 (by omega) hk
  unfold impl_trits.f; simpa using e

theorem impl_IsWord_t (k : Nat) (l : List Int) (hk : 30 < k) : impl_IsWord.f k l = some (isW l) := by
  unfold impl_IsWord.f isW
  by_cases h1 : 1 ≤ l.length
  · rw [if_pos (by omega)]
    by_cases h2 : l.length ≤ 30
    · rw [if_pos (by omega), impl_trits_t k l (by omega) (by omega)]; simp [h1, h2]
    · rw [if_neg (by omega)]; simp [h2]
  · rw [if_neg (by omega)]; simp [h1]

theorem impl_value_l0 (d : Int) (hd : 0 ≤ d) (hd2 : d ≤ 2) (l : List Int) (hl : l.length ≤ 30) (hb : ∀ x ∈ l, -d ≤ x ∧ x ≤ d) (j : Nat) : ∀ (k : Nat), j ≤ l.length → j < k →
    impl_value.l0 k l (val (l.drop j)) ((j : Int) - 1) = some (val l) := by
  induction j with
  | zero =>
    intro k hj hk
    obtain ⟨k, rfl⟩ : ∃ m, k = m + 1 := ⟨k - 1, by omega⟩
    simp only [impl_value.l0]
    rw [if_neg (by omega)]; simp
  | succ j ih =>
    intro k hj hk
    obtain ⟨k, rfl⟩ : ∃ m, k = m + 1 := ⟨k - 1, by omega⟩
    simp only [impl_value.l0]
    have e := ih k (by omega) (by omega)
    have b1 := val_bound30 d hd hd2 (l.drop (j + 1)) (by simp; omega) (fun x hx => hb x (List.mem_of_mem_drop hx))
    have b2 := hb _ (mem_getD l j (by omega))
    have v := val_drop l j (by omega)
    rw [if_pos (by omega), if_pos (by omega), if_pos (by omega), show ((j + 1 : Nat) : Int) - 1 = (j : Int) by omega, rd_nat,
      wr (x := 3 * val (l.drop (j + 1))) (by omega) (by omega), wr (x := _ + _) (by omega) (by omega), wr (x := (j : Int) - 1) (by omega) (by omega), ← v]
    exact e
theorem impl_value_t (d : Int) (hd : 0 ≤ d) (hd2 : d ≤ 2) (k : Nat) (l : List Int) (hl : l.length ≤ 30) (hb : ∀ x ∈ l, -d ≤ x ∧ x ≤ d) (hk : 30 < k) : impl_value.f k l = some (val l) := by
  have e := impl_value_l0 d hd hd2 l hl hb l.length k (by omega) (by omega)
  unfold impl_value.f
  rw [wr (by omega) (by omega)]
  simpa [val] using e

theorem impl_power_l0 (n : Nat) (hn : n ≤ 38) (d : Nat) : ∀ (k j : Nat), j + d = n → d < k →
    impl_power.l0 k (pw j) (n : Int) (j : Int) = some (pw n) := by
  induction d with
  | zero =>
    intro k j hj hk
    obtain ⟨k, rfl⟩ : ∃ m, k = m + 1 := ⟨k - 1, by omega⟩
    simp only [impl_power.l0]
    rw [if_neg (by omega), show j = n by omega]
  | succ d ih =>
    intro k j hj hk
    obtain ⟨k, rfl⟩ : ∃ m, k = m + 1 := ⟨k - 1, by omega⟩
    simp only [impl_power.l0]
    have h1 := lim_mono (j := j) (k := 37) (by omega)
    have h2 : lim 37 = 225141952945498681 := by decide
    have := lim_nonneg j
    have h3 := pw_lim j
    rw [if_pos (by omega), wr (x := pw j * 3) (by omega) (by omega), wr (by omega) (by omega)]
    have e := ih k (j + 1) (by omega) (by omega)
    exact_mod_cast e
theorem impl_power_t (k : Nat) (n : Nat) (hn : n ≤ 38) (hk : n < k) : impl_power.f k (n : Int) = some (pw n) := by
  have e := impl_power_l0 n hn n k 0 (by omega) hk
  unfold impl_power.f; simpa [pw] using e

theorem impl_LimitOf_t (k : Nat) (hk : 31 < k) (n : Int) : impl_LimitOf.f k n = some (limOf n) := by
  unfold impl_LimitOf.f limOf
  by_cases h1 : n < 1
  · rw [if_pos h1, if_neg (by omega)]
  · rw [if_neg h1]
    by_cases h2 : n > 30
    · rw [if_pos h2, if_neg (by omega)]
    · rw [if_neg h2, if_pos (by omega)]
      obtain ⟨m, rfl⟩ : ∃ m : Nat, n = m := ⟨n.toNat, by omega⟩
      have hm : m ≤ 30 := by omega
      rw [impl_power_t k m (by omega) (by omega)]
      have h3 := pw_lim m
      have := lim_le hm
      have := lim_nonneg m
      simp only [Option.bind_some, Int.toNat_natCast]
      rw [wr (x := pw m - 1) (by omega) (by omega), h3, Int.tdiv_eq_ediv_of_nonneg (by omega), wr (by omega) (by omega)]
      congr 1; omega

theorem impl_fits_t (k : Nat) (hk : 31 < k) (n m : Int) : impl_fits.f k n m = some (decide (-limOf m ≤ n ∧ n ≤ limOf m)) := by
  unfold impl_fits.f
  have := limOf_nonneg m
  rw [impl_LimitOf_t k hk]; simp only [Option.bind_some]
  rw [wr (by omega) (by omega)]
  by_cases h : n ≥ -limOf m
  · have h' : -limOf m ≤ n := h
    rw [if_pos h]; simp [h']
  · have h' : ¬ -limOf m ≤ n := h
    rw [if_neg h]; simp only [h', false_and, decide_false]

theorem impl_WordOf_l0 (m : Nat) (hm : m ≤ 30) (d : Nat) : ∀ (k j : Nat) (n : Int) (acc : List Int), j + d = m → d < k → acc.length ≤ 1000 + j → -1000000000000000 ≤ n → n ≤ 1000000000000000 →
    impl_WordOf.l0 k n acc (m : Int) (j : Int) = some (acc ++ wordL d n, true) := by
  induction d with
  | zero =>
    intro k j n acc hj hk ha h1 h2
    obtain ⟨k, rfl⟩ : ∃ m, k = m + 1 := ⟨k - 1, by omega⟩
    simp only [impl_WordOf.l0]
    rw [if_neg (by omega)]; simp [wordL]
  | succ d ih =>
    intro k j n acc hj hk ha h1 h2
    obtain ⟨k, rfl⟩ : ∃ m, k = m + 1 := ⟨k - 1, by omega⟩
    simp only [impl_WordOf.l0]
    have hb := dig_b n
    have hd := td3 n
    have e := ih k (j + 1) ((n - dig n) / 3) (acc ++ [dig n]) (by omega) (by omega) (by simp; omega) (by omega) (by omega)
    have t := tm3 n
    have hl : acc.length < 17592186044416 := by omega
    have hr : -2 ≤ Int.tmod n 3 ∧ Int.tmod n 3 ≤ 2 := by rw [t]; split <;> omega
    rw [if_pos (by omega), impl_carried_t _ (by omega)]
    simp only [Option.bind_some, tm3_dig]
    rw [if_pos hl, wr (x := n - dig n) (by omega) (by omega), hd, wr (x := (n - dig n) / 3) (by omega) (by omega), wr (x := (j : Int) + 1) (by omega) (by omega)]
    have e' : acc ++ [dig n] ++ wordL d ((n - dig n) / 3) = acc ++ wordL (d + 1) n := by simp [wordL]
    rw [← e']; exact_mod_cast e
theorem impl_WordOf_t (k : Nat) (hk : 40 < k) (n m : Int) : impl_WordOf.f k n m = some (wordOf n m) := by
  unfold impl_WordOf.f wordOf
  obtain ⟨k, rfl⟩ : ∃ m, k = m + 1 := ⟨k - 1, by omega⟩
  simp only [impl_WordOf.j0]
  have hL := limOf_nonneg m
  by_cases h1 : m < 1
  · rw [if_pos h1]; simp only [if_true]; rw [if_neg (by omega)]
  · rw [if_neg h1]
    by_cases h2 : m > 30
    · rw [if_pos h2]; simp only [if_true]; rw [if_neg (by omega)]
    · rw [if_neg h2, impl_fits_t (k + 1) (by omega)]
      simp only [Option.bind_some]
      by_cases h3 : -limOf m ≤ n ∧ n ≤ limOf m
      · rw [if_neg (by simp [h3]), if_pos ⟨by omega, h3⟩]
        obtain ⟨q, rfl⟩ : ∃ q : Nat, m = q := ⟨m.toNat, by omega⟩
        have e := impl_WordOf_l0 q (by omega) q k 0 n [] (by omega) (by omega) (by simp) (by omega) (by omega)
        simpa using e
      · rw [if_pos (by simp only [h3, decide_false, Bool.not_false]), if_neg (fun x => h3 x.2)]

theorem impl_ExtendWord_t (k : Nat) (l : List Int) (m : Int) (hk : 50 < k) : impl_ExtendWord.f k l m = some (extW l m) := by
  unfold impl_ExtendWord.f extW
  rw [impl_IsWord_t k l (by omega)]; simp only [Option.bind_some]
  by_cases h : isW l = true
  · have hw := isW_iff.mp h
    rw [if_pos h, if_pos h, impl_value_t 1 (by omega) (by omega) k l hw.2.1 hw.2.2 (by omega)]; simp only [Option.bind_some]
    rw [impl_WordOf_t k (by omega)]; rfl
  · rw [if_neg h, if_neg h]

theorem spec_ExtendWord_t (k : Nat) (l : List Int) (m : Int) (hl : l.length ≤ 9000000000000000000) (hk : l.length + 50 < k) : spec_ExtendWord.f k l m = some (extW l m) := by
  unfold spec_ExtendWord.f extW
  rw [spec_IsWord_t k l hl (by omega)]; simp only [Option.bind_some]
  by_cases h : isW l = true
  · have hw := isW_iff.mp h
    rw [if_pos h, if_pos h, spec_l2Value_t 1 (by omega) (by omega) k l hw.2.1 hw.2.2 (by omega)]; simp only [Option.bind_some]
    rw [spec_WordOf_t k (by omega)]; rfl
  · rw [if_neg h, if_neg h]
theorem FnExactExtendWord : laws_FnExactExtendWord.Pure := by
  intro l m h1 h2 h3 _
  refine ⟨l.length + 200, ?_⟩
  unfold laws_FnExactExtendWord.f
  split
  · rfl
  · have hl := extW_len l m
    simp (disch := omega) only [laws_toIntS_t, Option.bind_some, spec_ExtendWord_t, impl_ExtendWord_t, laws_eqIntS_t, decide_true, if_true, laws_markIntS_t, laws_heldIntS_t, lt0a, lt0b, if_false, Bool.not_true, Bool.false_eq_true, bne_self_eq_false]
    simp (disch := omega) only [laws_FnExactExtendWord.j0, laws_toIntS_t, Option.bind_some, spec_ExtendWord_t, impl_ExtendWord_t, laws_eqIntS_t, decide_true, if_true, laws_markIntS_t, laws_heldIntS_t, lt0a, lt0b, if_false, Bool.not_true, Bool.false_eq_true, bne_self_eq_false]
    simp (disch := omega) only [laws_FnExactExtendWord.j1, laws_toIntS_t, Option.bind_some, spec_ExtendWord_t, impl_ExtendWord_t, laws_eqIntS_t, decide_true, if_true, laws_markIntS_t, laws_heldIntS_t, lt0a, lt0b, if_false, Bool.not_true, Bool.false_eq_true, bne_self_eq_false]
    simp (disch := omega) only [laws_FnExactExtendWord.j2, laws_toIntS_t, Option.bind_some, spec_ExtendWord_t, impl_ExtendWord_t, laws_eqIntS_t, decide_true, if_true, laws_markIntS_t, laws_heldIntS_t, lt0a, lt0b, if_false, Bool.not_true, Bool.false_eq_true, bne_self_eq_false]

end Go.Proofs.Ytjbcjkpbggaknaa.Pure.InFnExactExtendWord
namespace Go.Proofs.Ytjbcjkpbggaknaa.Pure
theorem FnExactExtendWord : QFnExactExtendWord.laws_FnExactExtendWord.Pure := InFnExactExtendWord.FnExactExtendWord
end Go.Proofs.Ytjbcjkpbggaknaa.Pure
