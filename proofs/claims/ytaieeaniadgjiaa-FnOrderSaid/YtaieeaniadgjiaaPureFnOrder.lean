/- FnOrder: words of the same number of trits are ordered as their texts are, whatever the bytes. No condition. -/
import Derived.Test.YtaieeaniadgjiaaQFnOrderx3
set_option linter.unusedVariables false
set_option linter.unusedSimpArgs false
namespace Go.Proofs.Ytaieeaniadgjiaa.Pure.InFnOrder
open Go.RowKit Go.Proofs.Ytaieeaniadgjiaa.QFnOrder Go.Proofs.YtaieeaniadgjiaaW.PrintWords Go.Proofs.YtaieeaniadgjiaaW.PrintLast Go.Proofs.YtaieeaniadgjiaaW.PrintMore

theorem wr {x : Int} (h1 : -9223372036854775808 ≤ x) (h2 : x ≤ 9223372036854775807) : wrap64 x = x := by unfold wrap64; omega
theorem wfB {a : Int} (h : (Lit.int .i64 a).wf = true) : -9223372036854775808 ≤ a ∧ a ≤ 9223372036854775807 := by
  have h' := h
  simp only [Lit.wf, Bool.and_eq_true, decide_eq_true_eq] at h'
  exact h'
/-- A trit. -/
def isT (a : Int) : Bool := decide (-1 ≤ a ∧ a ≤ 1)
theorem isT_iff {a : Int} : isT a = true ↔ (-1 ≤ a ∧ a ≤ 1) := by simp [isT]

theorem rd_nat (l : List Int) (j : Nat) : rd l (j : Int) = l.getD j 0 := by unfold rd; simp
theorem drop_cons (l : List Int) (j : Nat) (h : j < l.length) : l.drop j = l.getD j 0 :: l.drop (j + 1) := by
  rw [List.drop_eq_getElem_cons h]; simp [List.getD_eq_getElem?_getD, h]
theorem take_snoc (l : List Int) (j : Nat) (h : j < l.length) : l.take (j + 1) = l.take j ++ [l.getD j 0] := by
  rw [List.take_succ_eq_append_getElem h]; simp [List.getD_eq_getElem?_getD, h]

theorem and255 (x : Int) : 0 ≤ Go.bits .and .i64 x 255 ∧ Go.bits .and .i64 x 255 ≤ 255 := by
  have h : Go.bits .and .i64 x 255 = IntKind.i64.wrap (((BitVec.ofInt 64 x &&& BitVec.ofInt 64 255).toNat : Nat) : Int) := rfl
  rw [h, BitVec.toNat_and]
  have e : (BitVec.ofInt 64 255).toNat = 255 := by decide
  rw [e]
  have := Nat.and_le_right (n := (BitVec.ofInt 64 x).toNat) (m := 255)
  generalize (BitVec.ofInt 64 x).toNat &&& 255 = n at *
  rw [IntKind.wrap_i64]; omega
theorem byte_t (b : List Int) (i h : Int) (h0 : 0 ≤ i) (h1 : i ≤ b.length) (hb : b.length ≤ 1000000000000) : ∃ r j g, spec_l01Byte.f b i h = some (r, j, g) ∧ 0 ≤ r ∧ r ≤ 255 ∧ 0 ≤ j ∧ j ≤ b.length := by
  unfold spec_l01Byte.f
  by_cases c : i < b.length
  · rw [if_pos c, if_pos h0, wr (x := i + 1) (by omega) (by omega)]
    refine ⟨_, _, _, rfl, (and255 _).1, (and255 _).2, by omega, by omega⟩
  · rw [if_neg c]
    exact ⟨_, _, _, rfl, (and255 _).1, (and255 _).2, h0, h1⟩
theorem tmod_b (r n : Int) (h : 0 ≤ r) (hn : 0 < n) : 0 ≤ Int.tmod r n ∧ Int.tmod r n < n := by
  rw [Int.tmod_eq_emod_of_nonneg h]; exact ⟨Int.emod_nonneg _ (by omega), Int.emod_lt_of_pos _ hn⟩
theorem below_t (b : List Int) (i h n : Int) (h0 : 0 ≤ i) (h1 : i ≤ b.length) (hb : b.length ≤ 1000000000000) (hn : 1 ≤ n ∧ n ≤ 256) : ∃ r j g, spec_l01Below.f b i h n = some (r, j, g) ∧ 0 ≤ r ∧ r < n ∧ 0 ≤ j ∧ j ≤ b.length := by
  unfold spec_l01Below.f
  obtain ⟨r, j, g, e, a1, a2, a3, a4⟩ := byte_t b i h h0 h1 hb
  rw [if_neg (by omega), if_pos (by omega), e]; simp only [Option.bind_some]
  rw [if_neg (by omega)]
  exact ⟨_, _, _, rfl, (tmod_b r n a1 (by omega)).1, (tmod_b r n a1 (by omega)).2, a3, a4⟩
theorem new_l0 (l : List Int) (hl : l.length ≤ 1000000000000) (d : Nat) : ∀ (k j : Nat) (h : Int), j ≤ 4000 → 4000 - j ≤ d → d < k → ∃ g, spec_l01New.l0 k l h (j : Int) = some (l, 0, g) := by
  induction d with
  | zero =>
    intro k j h hj hd hk
    obtain ⟨k, rfl⟩ : ∃ m, k = m + 1 := ⟨k - 1, by omega⟩
    rw [spec_l01New.l0]
    by_cases c : (j : Int) < l.length
    · rw [if_pos c, if_neg (by omega)]; exact ⟨_, rfl⟩
    · rw [if_neg c]; exact ⟨_, rfl⟩
  | succ d ih =>
    intro k j h hj hd hk
    obtain ⟨k, rfl⟩ : ∃ m, k = m + 1 := ⟨k - 1, by omega⟩
    rw [spec_l01New.l0]
    by_cases c : (j : Int) < l.length
    · rw [if_pos c]
      by_cases c2 : (j : Int) < 4000
      · rw [if_pos c2, if_pos (by omega), wr (x := (j : Int) + 1) (by omega) (by omega)]
        rw [show (j : Int) + 1 = ((j + 1 : Nat) : Int) by omega]
        exact ih k (j + 1) _ (by omega) (by omega) (by omega)
      · rw [if_neg c2]; exact ⟨_, rfl⟩
    · rw [if_neg c]; exact ⟨_, rfl⟩
theorem new_t (k : Nat) (l : List Int) (hl : l.length ≤ 1000000000000) (hk : 4001 < k) : ∃ g, spec_l01New.f k l = some (l, 0, g) := by
  unfold spec_l01New.f
  exact new_l0 l hl 4000 k 0 _ (by omega) (by omega) (by omega)
/-- All trits. -/
def allT (l : List Int) : Prop := ∀ x ∈ l, -1 ≤ x ∧ x ≤ 1
theorem allT_snoc (l : List Int) (x : Int) (h : allT l) (hx : -1 ≤ x ∧ x ≤ 1) : allT (l ++ [x]) := by
  intro y hy; rcases List.mem_append.mp hy with h1 | h1
  · exact h y h1
  · have := List.mem_singleton.mp h1; omega

theorem makeExact_l0 (b : List Int) (hb : b.length ≤ 1000000000000) (n : Nat) (hn : n ≤ 30) (x : Int) (hx : mx 1 (mn x 30) = n) (d : Nat) : ∀ (k j : Nat) (acc : List Int) (i h : Int), j + d = n → d < k → acc.length = j → allT acc → 0 ≤ i → i ≤ b.length →
    ∃ w, spec_MakeExact.l0 k x acc (j : Int) b i h = some w ∧ w.length = n ∧ allT w := by
  induction d with
  | zero =>
    intro k j acc i h hj hk ha ht h0 h1
    obtain ⟨k, rfl⟩ : ∃ m, k = m + 1 := ⟨k - 1, by omega⟩
    simp only [spec_MakeExact.l0]
    rw [hx, if_neg (by omega)]; exact ⟨acc, rfl, by omega, ht⟩
  | succ d ih =>
    intro k j acc i h hj hk ha ht h0 h1
    obtain ⟨k, rfl⟩ : ∃ m, k = m + 1 := ⟨k - 1, by omega⟩
    simp only [spec_MakeExact.l0]
    obtain ⟨r, j', g, e, a1, a2, a3, a4⟩ := below_t b i h 3 h0 h1 hb (by omega)
    rw [hx, if_pos (by omega), e]; simp only [Option.bind_some]
    rw [if_pos (by omega), wr (x := r - 1) (by omega) (by omega), wr (x := (j : Int) + 1) (by omega) (by omega)]
    exact_mod_cast ih k (j + 1) (acc ++ [r - 1]) j' g (by omega) (by omega) (by simp; omega) (allT_snoc _ _ ht (by omega)) a3 a4
theorem makeExact_t (k : Nat) (l : List Int) (hl : l.length ≤ 1000000000000) (n : Nat) (hn : 1 ≤ n ∧ n ≤ 30) (hk : 4040 < k) : ∃ w, spec_MakeExact.f k l (n : Int) = some w ∧ w.length = n ∧ allT w := by
  unfold spec_MakeExact.f
  obtain ⟨g, e⟩ := new_t k l hl (by omega)
  rw [e]; simp only [Option.bind_some]
  have hx : mx 1 (mn (n : Int) 30) = n := by unfold mx mn; split <;> split <;> omega
  exact_mod_cast makeExact_l0 l hl n hn.2 n hx n k 0 [] 0 g (by omega) (by omega) rfl (by intro y hy; simp at hy) (by omega) (by omega)

theorem at_t (l : List Int) (hl : l.length ≤ 1048576) (hb : ∀ x ∈ l, 0 ≤ x ∧ x ≤ 255) (j : Nat) (hj : j ≤ 100) : ∃ r, laws_at.f l (j : Int) = some r ∧ 0 ≤ r ∧ r ≤ 255 := by
  unfold laws_at.f
  by_cases c : (j : Int) < l.length
  · have hm : l.getD j 0 ∈ l := by rw [List.getD_eq_getElem?_getD, List.getElem?_eq_getElem (by omega)]; exact List.getElem_mem (by omega)
    have := hb _ hm
    rw [if_pos c, if_pos (by omega), rd_nat, wr (by omega) (by omega)]
    exact ⟨_, rfl, this.1, this.2⟩
  · rw [if_neg c, wr (x := (j : Int) * 37) (by omega) (by omega), wr (x := (l.length : Int) * 11) (by omega) (by omega), wr (by omega) (by omega), Int.tmod_eq_emod_of_nonneg (by omega)]
    exact ⟨_, rfl, by omega, by omega⟩
theorem wf8 {l : List Int} (h : ∀ x ∈ l, (Lit.int .u8 x).wf = true) : ∀ x ∈ l, 0 ≤ x ∧ x ≤ 255 := by
  intro x hx
  have h' := h x hx
  simp only [Lit.wf, Bool.and_eq_true, decide_eq_true_eq] at h'
  exact h'

/-- A word. -/
def isW (l : List Int) : Bool := decide (1 ≤ l.length) && decide (l.length ≤ 30) && l.all isT
theorem isW_iff {l : List Int} : isW l = true ↔ (1 ≤ l.length ∧ l.length ≤ 30 ∧ ∀ x ∈ l, -1 ≤ x ∧ x ≤ 1) := by
  simp [isW, isT, List.all_eq_true, and_assoc]
/-- The value of digits, the lowest first. -/
def val : List Int → Int
  | [] => 0
  | a :: l => 3 * val l + a

theorem impl_IsTrit_t (a : Int) : impl_IsTrit.f a = some (isT a) := by
  unfold impl_IsTrit.f isT
  by_cases h : a ≥ -1
  · have h' : -1 ≤ a := h
    rw [if_pos h]; simp [h']
  · have h' : ¬ -1 ≤ a := h
    rw [if_neg h]; simp [h']

theorem impl_trits_l0 (l : List Int) (hl : l.length ≤ 9000000000000000000) (d : Nat) : ∀ (k j : Nat), j + d = l.length → d < k →
    impl_trits.l0 k l (l.length : Int) (j : Int) = some ((l.drop j).all isT) := by
  induction d with
  | zero =>
    intro k j hj hk
    obtain ⟨k, rfl⟩ : ∃ m, k = m + 1 := ⟨k - 1, by omega⟩
    simp only [impl_trits.l0]
    rw [if_neg (by omega), List.drop_eq_nil_of_le (by omega)]; rfl
  | succ d ih =>
    intro k j hj hk
    obtain ⟨k, rfl⟩ : ∃ m, k = m + 1 := ⟨k - 1, by omega⟩
    simp only [impl_trits.l0]
    rw [if_pos (by omega), if_pos (by omega), if_pos (by omega), impl_IsTrit_t, rd_nat, drop_cons l j (by omega)]
    simp only [Option.bind_some, List.all_cons]
    have e := ih k (j + 1) (by omega) (by omega)
    rw [wr (by omega) (by omega)]
    cases isT (l.getD j 0) with
    | false => rfl
    | true => simp only [if_true, Bool.true_and]; exact_mod_cast e
theorem impl_trits_t (k : Nat) (l : List Int) (hl : l.length ≤ 9000000000000000000) (hk : l.length < k) : impl_trits.f k l = some (l.all isT) := by
  have e := impl_trits_l0 l hl l.length k 0 (by omega) hk
  unfold impl_trits.f; simpa using e

theorem impl_IsWord_t (k : Nat) (l : List Int) (hk : 30 < k) : impl_IsWord.f k l = some (isW l) := by
  unfold impl_IsWord.f isW
  by_cases h1 : 1 ≤ l.length
  · rw [if_pos (by omega)]
    by_cases h2 : l.length ≤ 30
    · rw [if_pos (by omega), impl_trits_t k l (by omega) (by omega)]; simp [h1, h2]
    · rw [if_neg (by omega)]; simp [h2]
  · rw [if_neg (by omega)]; simp [h1]

/-- (3^k - 1) / 2. -/
def lim : Nat → Int
  | 0 => 0
  | k + 1 => 3 * lim k + 1
/-- 3^k. -/
def pw : Nat → Int
  | 0 => 1
  | k + 1 => pw k * 3
theorem pw_lim (k : Nat) : pw k = 2 * lim k + 1 := by
  induction k with
  | zero => rfl
  | succ k ih => simp only [pw, lim]; omega
theorem lim_mono {j k : Nat} (h : j ≤ k) : lim j ≤ lim k := by
  induction k with
  | zero => have : j = 0 := by omega
            subst this; exact Int.le_refl _
  | succ k ih =>
    by_cases e : j = k + 1
    · subst e; exact Int.le_refl _
    · have := ih (by omega)
      have h0 : ∀ m, 0 ≤ lim m := by
        intro m; induction m with
        | zero => exact Int.le_refl _
        | succ m im => simp only [lim]; omega
      have := h0 k
      simp only [lim]; omega
theorem lim_nonneg (k : Nat) : 0 ≤ lim k := lim_mono (Nat.zero_le k)
theorem lim30 : lim 30 = 102945566047324 := by decide
theorem lim_le {k : Nat} (h : k ≤ 30) : lim k ≤ 102945566047324 := by rw [← lim30]; exact lim_mono h
/-- LimitOf. -/
def limOf (k : Int) : Int := if 1 ≤ k ∧ k ≤ 30 then lim k.toNat else 0

theorem val_drop (l : List Int) (j : Nat) (h : j < l.length) : val (l.drop j) = 3 * val (l.drop (j + 1)) + l.getD j 0 := by
  rw [drop_cons l j h]; rfl
/-- Digits from -d to d have a value within d times the limit. -/
theorem val_bound (d : Int) (hd : 0 ≤ d) (l : List Int) (h : ∀ x ∈ l, -d ≤ x ∧ x ≤ d) : -(d * lim l.length) ≤ val l ∧ val l ≤ d * lim l.length := by
  induction l with
  | nil => simp [val, lim]
  | cons a l ih =>
    have h1 := ih (fun x hx => h x (List.mem_cons_of_mem _ hx))
    have h2 := h a (List.mem_cons_self ..)
    simp only [val, List.length_cons, lim]
    have e : d * (3 * lim l.length + 1) = 3 * (d * lim l.length) + d := by rw [Int.mul_add, Int.mul_one, Int.mul_left_comm]
    rw [e]; omega
theorem val_bound30 (d : Int) (hd : 0 ≤ d) (hd2 : d ≤ 2) (l : List Int) (hl : l.length ≤ 30) (h : ∀ x ∈ l, -d ≤ x ∧ x ≤ d) : -300000000000000 ≤ val l ∧ val l ≤ 300000000000000 := by
  have h1 := val_bound d hd l h
  have h2 := lim_le hl
  have h3 := lim_nonneg l.length
  have h4 : d * lim l.length ≤ 2 * lim l.length := Int.mul_le_mul_of_nonneg_right hd2 h3
  omega
theorem mem_getD (l : List Int) (j : Nat) (h : j < l.length) : l.getD j 0 ∈ l := by
  rw [List.getD_eq_getElem?_getD, List.getElem?_eq_getElem h]; exact List.getElem_mem h

theorem impl_value_l0 (d : Int) (hd : 0 ≤ d) (hd2 : d ≤ 2) (l : List Int) (hl : l.length ≤ 30) (hb : ∀ x ∈ l, -d ≤ x ∧ x ≤ d) (j : Nat) : ∀ (k : Nat), j ≤ l.length → j < k →
    impl_value.l0 k l (val (l.drop j)) ((j : Int) - 1) = some (val l) := by
  induction j with
  | zero =>
    intro k hj hk
    obtain ⟨k, rfl⟩ : ∃ m, k = m + 1 := ⟨k - 1, by omega⟩
    simp only [impl_value.l0]
    rw [if_neg (by omega)]; simp
  | succ j ih =>
    intro k hj hk
    obtain ⟨k, rfl⟩ : ∃ m, k = m + 1 := ⟨k - 1, by omega⟩
    simp only [impl_value.l0]
    have e := ih k (by omega) (by omega)
    have b1 := val_bound30 d hd hd2 (l.drop (j + 1)) (by simp; omega) (fun x hx => hb x (List.mem_of_mem_drop hx))
    have b2 := hb _ (mem_getD l j (by omega))
    have v := val_drop l j (by omega)
    rw [if_pos (by omega), if_pos (by omega), if_pos (by omega), show ((j + 1 : Nat) : Int) - 1 = (j : Int) by omega, rd_nat,
      wr (x := 3 * val (l.drop (j + 1))) (by omega) (by omega), wr (x := _ + _) (by omega) (by omega), wr (x := (j : Int) - 1) (by omega) (by omega), ← v]
    exact e
theorem impl_value_t (d : Int) (hd : 0 ≤ d) (hd2 : d ≤ 2) (k : Nat) (l : List Int) (hl : l.length ≤ 30) (hb : ∀ x ∈ l, -d ≤ x ∧ x ≤ d) (hk : 30 < k) : impl_value.f k l = some (val l) := by
  have e := impl_value_l0 d hd hd2 l hl hb l.length k (by omega) (by omega)
  unfold impl_value.f
  rw [wr (by omega) (by omega)]
  simpa [val] using e

theorem impl_ValueOf_w (k : Nat) (l : List Int) (h : isW l = true) (hk : 40 < k) : impl_ValueOf.f k l = some (val l) := by
  unfold impl_ValueOf.f
  have hw := isW_iff.mp h
  rw [impl_IsWord_t k l (by omega)]; simp only [Option.bind_some]
  rw [if_pos h, impl_value_t 1 (by omega) (by omega) k l hw.2.1 hw.2.2 (by omega)]; rfl

/-- The sign of a number. -/
def sgn (n : Int) : Int := if n < 0 then -1 else if n > 0 then 1 else 0

theorem impl_SignOf_t (n : Int) : impl_SignOf.f n = some (sgn n) := by
  unfold impl_SignOf.f sgn; split
  · rfl
  · split <;> rfl

/-- How two lists of trits compare, the last difference deciding. -/
def wantL : List Int → List Int → Int → Int
  | a :: xs, b :: ys, s => wantL xs ys (if a = b then s else if a < b then -1 else 1)
  | _, _, s => s
theorem tern (x y s : Int) (h1 : -1 ≤ s) (h2 : s ≤ 1) : -1 ≤ (if x = y then s else if x < y then -1 else 1) ∧ (if x = y then s else if x < y then -1 else 1) ≤ 1 := by
  split
  · exact ⟨h1, h2⟩
  · split <;> omega
theorem fresh_l0 (l : List Int) (hl : l.length ≤ 1048576) (s : Int) (d : Nat) : ∀ (k j : Nat) (acc : List Int), j ≤ 600 → 600 - j ≤ d → d < k → acc.length ≤ 1000 + j →
    ∃ r, laws_fresh.l0 k l s acc (j : Int) = some r ∧ r.length ≤ 1700 := by
  induction d with
  | zero =>
    intro k j acc hj hd hk ha
    obtain ⟨k, rfl⟩ : ∃ m, k = m + 1 := ⟨k - 1, by omega⟩
    rw [laws_fresh.l0]
    by_cases c : (j : Int) < l.length
    · rw [if_pos c, if_neg (by omega)]; exact ⟨_, rfl, by omega⟩
    · rw [if_neg c]; exact ⟨_, rfl, by omega⟩
  | succ d ih =>
    intro k j acc hj hd hk ha
    obtain ⟨k, rfl⟩ : ∃ m, k = m + 1 := ⟨k - 1, by omega⟩
    rw [laws_fresh.l0]
    by_cases c : (j : Int) < l.length
    · rw [if_pos c]
      by_cases c2 : (j : Int) < 600
      · rw [if_pos c2, if_pos (by omega), if_pos (by omega), wr (x := (j : Int) + 1) (by omega) (by omega)]
        rw [show (j : Int) + 1 = ((j + 1 : Nat) : Int) by omega]
        exact ih k (j + 1) _ (by omega) (by omega) (by omega) (by simp; omega)
      · rw [if_neg c2]; exact ⟨_, rfl, by omega⟩
    · rw [if_neg c]; exact ⟨_, rfl, by omega⟩
theorem want_sgn (a : List Int) : ∀ (b : List Int) (s : Int), a.length = b.length → allT a → allT b → -1 ≤ s → s ≤ 1 → wantL a b s = if val a = val b then s else sgn (val a - val b) := by
  induction a with
  | nil =>
    intro b s h _ _ _ _
    cases b with
    | nil => simp [wantL, val]
    | cons y ys => simp at h
  | cons x xs ih =>
    intro b s h ha hb s1 s2
    cases b with
    | nil => simp at h
    | cons y ys =>
      have hx := ha x (List.mem_cons_self ..)
      have hy := hb y (List.mem_cons_self ..)
      have e := ih ys (if x = y then s else if x < y then -1 else 1) (by simpa using h) (fun z hz => ha z (List.mem_cons_of_mem _ hz)) (fun z hz => hb z (List.mem_cons_of_mem _ hz)) (tern x y s s1 s2).1 (tern x y s s1 s2).2
      simp only [wantL]
      rw [e, show val (x :: xs) = 3 * val xs + x from rfl, show val (y :: ys) = 3 * val ys + y from rfl]
      by_cases c : val xs = val ys
      · rw [if_pos c, c]
        by_cases c2 : x = y
        · subst c2; simp
        · rw [if_neg c2, if_neg (show ¬ (3 * val ys + x = 3 * val ys + y) by omega)]
          unfold sgn
          by_cases c3 : x < y
          · rw [if_pos c3, if_pos (by omega)]
          · rw [if_neg c3, if_neg (by omega), if_pos (by omega)]
      · rw [if_neg c, if_neg (by omega)]
        unfold sgn
        by_cases c3 : val xs - val ys < 0
        · rw [if_pos c3, if_pos (by omega)]
        · rw [if_neg c3, if_pos (by omega), if_neg (by omega), if_pos (by omega)]
/-- CompareWords. -/
def cmp (a b : List Int) : Int := sgn (val a - val b)
theorem sgn_neg (n : Int) : sgn (-n) = -sgn n := by
  unfold sgn
  by_cases c : n < 0
  · rw [if_pos c, if_neg (by omega), if_pos (by omega)]; rfl
  · rw [if_neg c]
    by_cases c2 : n > 0
    · rw [if_pos c2, if_pos (by omega)]
    · rw [if_neg c2, if_neg (by omega), if_neg (by omega)]; rfl
theorem impl_CompareWords_w (k : Nat) (a b : List Int) (ha : isW a = true) (hb : isW b = true) (hk : 100 < k) : impl_CompareWords.f k a b = some (cmp a b) := by
  unfold impl_CompareWords.f cmp
  obtain ⟨k, rfl⟩ : ∃ m, k = m + 1 := ⟨k - 1, by omega⟩
  rw [impl_IsWord_t _ a (by omega), impl_IsWord_t _ b (by omega)]
  have hw := isW_iff.mp ha
  have hw' := isW_iff.mp hb
  have b1 := val_bound30 1 (by omega) (by omega) a hw.2.1 hw.2.2
  have b2 := val_bound30 1 (by omega) (by omega) b hw'.2.1 hw'.2.2
  simp only [Option.bind_some, impl_CompareWords.j0]
  rw [if_pos ha, hb, impl_value_t 1 (by omega) (by omega) k a hw.2.1 hw.2.2 (by omega), impl_value_t 1 (by omega) (by omega) k b hw'.2.1 hw'.2.2 (by omega)]
  simp only [Option.bind_some, impl_SignOf_t]
  rw [wr (by omega) (by omega)]; simp
theorem want_b (a : List Int) : ∀ (b : List Int) (s : Int), -1 ≤ s → s ≤ 1 → -1 ≤ wantL a b s ∧ wantL a b s ≤ 1 := by
  induction a with
  | nil => intro b s h1 h2; simp [wantL]; omega
  | cons x xs ih =>
    intro b s h1 h2
    cases b with
    | nil => simp [wantL]; omega
    | cons y ys => simp only [wantL]; exact ih ys _ (tern x y s h1 h2).1 (tern x y s h1 h2).2
theorem order_l0 (a b : List Int) (hab : a.length = b.length) (ha : isW a = true) (hb : isW b = true) (d : Nat) : ∀ (k j : Nat) (s : Int), j + d = a.length → d + 200 < k → -1 ≤ s → s ≤ 1 → wantL (a.drop j) (b.drop j) s = cmp a b →
    laws_FnOrder.l0 k a b s (a.length : Int) (j : Int) = some true := by
  have hw := isW_iff.mp ha
  have hw' := isW_iff.mp hb
  induction d with
  | zero =>
    intro k j s hj hk s1 s2 hs
    obtain ⟨k, rfl⟩ : ∃ m, k = m + 1 := ⟨k - 1, by omega⟩
    simp only [laws_FnOrder.l0]
    rw [List.drop_of_length_le (by omega)] at hs
    have hs' : s = cmp a b := by simpa [wantL] using hs
    have b1 := val_bound30 1 (by omega) (by omega) a hw.2.1 hw.2.2
    have b2 := val_bound30 1 (by omega) (by omega) b hw'.2.1 hw'.2.2
    rw [if_neg (by omega), impl_CompareWords_w k a b ha hb (by omega), impl_CompareWords_w k b a hb ha (by omega)]
    simp only [Option.bind_some]
    have hn : cmp b a = -cmp a b := by unfold cmp; rw [← sgn_neg]; congr 1; omega
    rw [if_pos hs'.symm, hn, hs', wr (x := -cmp a b) (by omega) (by omega), if_pos rfl, impl_ValueOf_w k a ha (by omega), impl_ValueOf_w k b hb (by omega)]
    simp only [Option.bind_some]
    rw [wr (by omega) (by omega), impl_SignOf_t]; simp [cmp]
  | succ d ih =>
    intro k j s hj hk s1 s2 hs
    obtain ⟨k, rfl⟩ : ∃ m, k = m + 1 := ⟨k - 1, by omega⟩
    simp only [laws_FnOrder.l0]
    rw [drop_cons a j (by omega), drop_cons b j (by omega)] at hs
    simp only [wantL] at hs
    rw [if_pos (by omega), if_pos (by omega), if_pos (by omega), if_pos (by omega), rd_nat, rd_nat, wr (x := (j : Int) + 1) (by omega) (by omega)]
    by_cases c : a.getD j 0 = b.getD j 0
    · rw [if_pos c] at hs ⊢
      exact_mod_cast ih k (j + 1) s (by omega) (by omega) s1 s2 hs
    · rw [if_neg c] at hs ⊢
      by_cases c2 : a.getD j 0 < b.getD j 0
      · rw [if_pos c2] at hs ⊢
        exact_mod_cast ih k (j + 1) (-1) (by omega) (by omega) (by omega) (by omega) hs
      · rw [if_neg c2] at hs ⊢
        exact_mod_cast ih k (j + 1) 1 (by omega) (by omega) (by omega) (by omega) hs
theorem order_j0 (k : Nat) (a b : List Int) (hab : a.length = b.length) (h1 : 1 ≤ a.length) (h2 : a.length ≤ 30) (ta : allT a) (tb : allT b) (hk : 300 < k) : laws_FnOrder.j0 k a b = some true := by
  obtain ⟨k, rfl⟩ : ∃ m, k = m + 1 := ⟨k - 1, by omega⟩
  simp only [laws_FnOrder.j0]
  have ha : isW a = true := isW_iff.mpr ⟨h1, h2, ta⟩
  have hb : isW b = true := isW_iff.mpr ⟨by omega, by omega, tb⟩
  have e := order_l0 a b hab ha hb a.length k 0 0 (by omega) (by omega) (by omega) (by omega) (by
    simp only [List.drop_zero]
    rw [want_sgn a b 0 hab ta tb (by omega) (by omega)]
    unfold cmp
    by_cases c : val a = val b
    · rw [if_pos c, c]; simp [sgn]
    · rw [if_neg c])
  exact_mod_cast e
theorem FnOrder : laws_FnOrder.Pure := by
  intro l h1 h2 h3
  obtain ⟨K, hK⟩ : ∃ K : Nat, K = 5000 := ⟨_, rfl⟩
  refine ⟨K + 3, ?_⟩
  unfold laws_FnOrder.f
  split
  · rfl
  · rename_i hbig
    have hb8 := wf8 h3
    obtain ⟨x1, e1, a1, a2⟩ := at_t l (by omega) hb8 1 (by omega)
    obtain ⟨x2, e2, a3, a4⟩ := at_t l (by omega) hb8 2 (by omega)
    have e1' : laws_at.f l 1 = some x1 := e1
    have e2' : laws_at.f l 2 = some x2 := e2
    rw [e1', Option.bind_some]
    have t1 := tmod_b x1 20 a1 (by omega)
    obtain ⟨n, hn⟩ : ∃ n : Nat, 1 + Int.tmod x1 20 = n := ⟨(1 + Int.tmod x1 20).toNat, by omega⟩
    rw [wr (x := 1 + Int.tmod x1 20) (by omega) (by omega), hn]
    obtain ⟨a, ea, la, ta⟩ := makeExact_t (K + 3) l (by omega) n (by omega) (by omega)
    obtain ⟨fr, ef, lf⟩ := fresh_l0 l (by omega) 3 600 (K + 3) 0 [3 % 256] (by omega) (by omega) (by omega) (by simp)
    have ef' : laws_fresh.f (K + 3) l 3 = some fr := by unfold laws_fresh.f; exact ef
    obtain ⟨b, eb, lb, tb⟩ := makeExact_t (K + 3) fr (by omega) n (by omega) (by omega)
    rw [ea, Option.bind_some, ef', Option.bind_some, la, eb, Option.bind_some, e2', Option.bind_some]
    by_cases c : Int.tmod x2 3 = 0
    · have hdiv : (b.length : Int) / 2 = ((n / 2 : Nat) : Int) := by rw [lb]; omega
      rw [if_pos c, Option.bind_some, hdiv, wr (x := ((n / 2 : Nat) : Int)) (by omega) (by omega), if_pos (by omega), if_pos (by omega), Option.bind_some, Int.toNat_natCast, if_pos (by simp; omega), Option.bind_some, if_pos (by omega), Option.bind_some, if_pos (by simp; omega)]
      refine order_j0 (K + 3) a _ (by simp; omega) (by omega) (by omega) ta ?_ (by omega)
      intro y hy
      rcases List.mem_append.mp hy with h | h
      · exact tb y (List.mem_of_mem_take (by simpa using h))
      · exact ta y (List.mem_of_mem_drop h)
    · rw [if_neg c]
      exact order_j0 (K + 3) a b (by omega) (by omega) (by omega) ta tb (by omega)

end Go.Proofs.Ytaieeaniadgjiaa.Pure.InFnOrder
namespace Go.Proofs.Ytaieeaniadgjiaa.Pure
theorem FnOrder : QFnOrder.laws_FnOrder.Pure := InFnOrder.FnOrder
end Go.Proofs.Ytaieeaniadgjiaa.Pure
