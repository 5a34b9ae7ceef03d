/- FnValues: each value has one word, words are read back from their text, negative words have negative values, and the highest trit that is not 0 is the sign, whatever the bytes. No condition. -/
import Derived.Test.YtaieeaniadgjiaaQFnValuesx5
set_option linter.unusedVariables false
set_option linter.unusedSimpArgs false
namespace Go.Proofs.Ytaieeaniadgjiaa.Pure.InFnValues
open Go.RowKit Go.Proofs.Ytaieeaniadgjiaa.QFnValues Go.Proofs.YtaieeaniadgjiaaW.PrintWords Go.Proofs.YtaieeaniadgjiaaW.PrintLast Go.Proofs.YtaieeaniadgjiaaW.PrintMore

theorem wr {x : Int} (h1 : -9223372036854775808 ≤ x) (h2 : x ≤ 9223372036854775807) : wrap64 x = x := by unfold wrap64; omega
theorem wfB {a : Int} (h : (Lit.int .i64 a).wf = true) : -9223372036854775808 ≤ a ∧ a ≤ 9223372036854775807 := by
  have h' := h
  simp only [Lit.wf, Bool.and_eq_true, decide_eq_true_eq] at h'
  exact h'
/-- A trit. -/
def isT (a : Int) : Bool := decide (-1 ≤ a ∧ a ≤ 1)
theorem isT_iff {a : Int} : isT a = true ↔ (-1 ≤ a ∧ a ≤ 1) := by simp [isT]

theorem rd_nat (l : List Int) (j : Nat) : rd l (j : Int) = l.getD j 0 := by unfold rd; simp
theorem drop_cons (l : List Int) (j : Nat) (h : j < l.length) : l.drop j = l.getD j 0 :: l.drop (j + 1) := by
  rw [List.drop_eq_getElem_cons h]; simp [List.getD_eq_getElem?_getD, h]
theorem take_snoc (l : List Int) (j : Nat) (h : j < l.length) : l.take (j + 1) = l.take j ++ [l.getD j 0] := by
  rw [List.take_succ_eq_append_getElem h]; simp [List.getD_eq_getElem?_getD, h]

theorem and255 (x : Int) : 0 ≤ Go.bits .and .i64 x 255 ∧ Go.bits .and .i64 x 255 ≤ 255 := by
  have h : Go.bits .and .i64 x 255 = IntKind.i64.wrap (((BitVec.ofInt 64 x &&& BitVec.ofInt 64 255).toNat : Nat) : Int) := rfl
  rw [h, BitVec.toNat_and]
  have e : (BitVec.ofInt 64 255).toNat = 255 := by decide
  rw [e]
  have := Nat.and_le_right (n := (BitVec.ofInt 64 x).toNat) (m := 255)
  generalize (BitVec.ofInt 64 x).toNat &&& 255 = n at *
  rw [IntKind.wrap_i64]; omega
theorem byte_t (b : List Int) (i h : Int) (h0 : 0 ≤ i) (h1 : i ≤ b.length) (hb : b.length ≤ 1000000000000) : ∃ r j g, spec_l01Byte.f b i h = some (r, j, g) ∧ 0 ≤ r ∧ r ≤ 255 ∧ 0 ≤ j ∧ j ≤ b.length := by
  unfold spec_l01Byte.f
  by_cases c : i < b.length
  · rw [if_pos c, if_pos h0, wr (x := i + 1) (by omega) (by omega)]
    refine ⟨_, _, _, rfl, (and255 _).1, (and255 _).2, by omega, by omega⟩
  · rw [if_neg c]
    exact ⟨_, _, _, rfl, (and255 _).1, (and255 _).2, h0, h1⟩
theorem tmod_b (r n : Int) (h : 0 ≤ r) (hn : 0 < n) : 0 ≤ Int.tmod r n ∧ Int.tmod r n < n := by
  rw [Int.tmod_eq_emod_of_nonneg h]; exact ⟨Int.emod_nonneg _ (by omega), Int.emod_lt_of_pos _ hn⟩
theorem below_t (b : List Int) (i h n : Int) (h0 : 0 ≤ i) (h1 : i ≤ b.length) (hb : b.length ≤ 1000000000000) (hn : 1 ≤ n ∧ n ≤ 256) : ∃ r j g, spec_l01Below.f b i h n = some (r, j, g) ∧ 0 ≤ r ∧ r < n ∧ 0 ≤ j ∧ j ≤ b.length := by
  unfold spec_l01Below.f
  obtain ⟨r, j, g, e, a1, a2, a3, a4⟩ := byte_t b i h h0 h1 hb
  rw [if_neg (by omega), if_pos (by omega), e]; simp only [Option.bind_some]
  rw [if_neg (by omega)]
  exact ⟨_, _, _, rfl, (tmod_b r n a1 (by omega)).1, (tmod_b r n a1 (by omega)).2, a3, a4⟩
theorem new_l0 (l : List Int) (hl : l.length ≤ 1000000000000) (d : Nat) : ∀ (k j : Nat) (h : Int), j ≤ 4000 → 4000 - j ≤ d → d < k → ∃ g, spec_l01New.l0 k l h (j : Int) = some (l, 0, g) := by
  induction d with
  | zero =>
    intro k j h hj hd hk
    obtain ⟨k, rfl⟩ : ∃ m, k = m + 1 := ⟨k - 1, by omega⟩
    rw [spec_l01New.l0]
    by_cases c : (j : Int) < l.length
    · rw [if_pos c, if_neg (by omega)]; exact ⟨_, rfl⟩
    · rw [if_neg c]; exact ⟨_, rfl⟩
  | succ d ih =>
    intro k j h hj hd hk
    obtain ⟨k, rfl⟩ : ∃ m, k = m + 1 := ⟨k - 1, by omega⟩
    rw [spec_l01New.l0]
    by_cases c : (j : Int) < l.length
    · rw [if_pos c]
      by_cases c2 : (j : Int) < 4000
      · rw [if_pos c2, if_pos (by omega), wr (x := (j : Int) + 1) (by omega) (by omega)]
        rw [show (j : Int) + 1 = ((j + 1 : Nat) : Int) by omega]
        exact ih k (j + 1) _ (by omega) (by omega) (by omega)
      · rw [if_neg c2]; exact ⟨_, rfl⟩
    · rw [if_neg c]; exact ⟨_, rfl⟩
theorem new_t (k : Nat) (l : List Int) (hl : l.length ≤ 1000000000000) (hk : 4001 < k) : ∃ g, spec_l01New.f k l = some (l, 0, g) := by
  unfold spec_l01New.f
  exact new_l0 l hl 4000 k 0 _ (by omega) (by omega) (by omega)
/-- All trits. -/
def allT (l : List Int) : Prop := ∀ x ∈ l, -1 ≤ x ∧ x ≤ 1
theorem allT_snoc (l : List Int) (x : Int) (h : allT l) (hx : -1 ≤ x ∧ x ≤ 1) : allT (l ++ [x]) := by
  intro y hy; rcases List.mem_append.mp hy with h1 | h1
  · exact h y h1
  · have := List.mem_singleton.mp h1; omega

theorem allT_set (l : List Int) (i : Nat) (x : Int) (h : allT l) (hx : -1 ≤ x ∧ x ≤ 1) : allT (l.set i x) := by
  intro y hy; rcases List.mem_or_eq_of_mem_set hy with h1 | h1
  · exact h y h1
  · omega
theorem draw_l1 (b : List Int) (i h : Int) (n : Nat) (hn : n ≤ 1000) (d : Nat) : ∀ (k j : Nat) (x : List Int), j + d = n → d < k → x.length = n → allT x →
    ∃ w, spec_l2Draw.l1 k x (n : Int) (j : Int) b i h = some (w, i, h) ∧ w.length = n ∧ allT w := by
  induction d with
  | zero =>
    intro k j x hj hk hx ht
    obtain ⟨k, rfl⟩ : ∃ m, k = m + 1 := ⟨k - 1, by omega⟩
    simp only [spec_l2Draw.l1]
    rw [if_neg (by omega)]; exact ⟨x, rfl, hx, ht⟩
  | succ d ih =>
    intro k j x hj hk hx ht
    obtain ⟨k, rfl⟩ : ∃ m, k = m + 1 := ⟨k - 1, by omega⟩
    simp only [spec_l2Draw.l1]
    rw [if_pos (by omega), if_pos (by omega), if_pos (by omega), wr (x := (j : Int) + 1) (by omega) (by omega)]
    exact_mod_cast ih k (j + 1) _ (by omega) (by omega) (by simp [hx]) (allT_set _ _ _ ht (by omega))
theorem draw_l2 (b : List Int) (i h : Int) (n : Nat) (hn : n ≤ 1000) (d : Nat) : ∀ (k j : Nat) (x : List Int), j + d = n → d < k → x.length = n → allT x →
    ∃ w, spec_l2Draw.l2 k x (n : Int) (j : Int) b i h = some (w, i, h) ∧ w.length = n ∧ allT w := by
  induction d with
  | zero =>
    intro k j x hj hk hx ht
    obtain ⟨k, rfl⟩ : ∃ m, k = m + 1 := ⟨k - 1, by omega⟩
    simp only [spec_l2Draw.l2]
    rw [if_neg (by omega)]; exact ⟨x, rfl, hx, ht⟩
  | succ d ih =>
    intro k j x hj hk hx ht
    obtain ⟨k, rfl⟩ : ∃ m, k = m + 1 := ⟨k - 1, by omega⟩
    simp only [spec_l2Draw.l2]
    rw [if_pos (by omega), if_pos (by omega), if_pos (by omega), wr (x := (j : Int) + 1) (by omega) (by omega)]
    exact_mod_cast ih k (j + 1) _ (by omega) (by omega) (by simp [hx]) (allT_set _ _ _ ht (by omega))
theorem draw_l3 (b : List Int) (i h : Int) (n : Nat) (hn : n ≤ 1000) (d : Nat) : ∀ (k j : Nat) (x : List Int), j + d = n → d < k → x.length = n → allT x →
    ∃ w, spec_l2Draw.l3 k x (n : Int) (j : Int) b i h = some (w, i, h) ∧ w.length = n ∧ allT w := by
  induction d with
  | zero =>
    intro k j x hj hk hx ht
    obtain ⟨k, rfl⟩ : ∃ m, k = m + 1 := ⟨k - 1, by omega⟩
    simp only [spec_l2Draw.l3]
    rw [if_neg (by omega)]; exact ⟨x, rfl, hx, ht⟩
  | succ d ih =>
    intro k j x hj hk hx ht
    obtain ⟨k, rfl⟩ : ∃ m, k = m + 1 := ⟨k - 1, by omega⟩
    simp only [spec_l2Draw.l3]
    rw [if_pos (by omega), if_pos (by omega), if_pos (by omega), wr (x := (j : Int) + 1) (by omega) (by omega)]
    exact_mod_cast ih k (j + 1) _ (by omega) (by omega) (by simp [hx]) (allT_set _ _ _ ht (by omega))
theorem draw_l0 (b : List Int) (hb : b.length ≤ 1000000000000) (n : Nat) (hn : n ≤ 100) (d : Nat) : ∀ (k j : Nat) (acc : List Int) (i h : Int), j + d = n → d + 200 < k → acc.length = j → allT acc → 0 ≤ i → i ≤ b.length →
    ∃ w i' h', spec_l2Draw.l0 k acc (d : Int) b i h = some (w, i', h') ∧ w.length = n ∧ allT w := by
  induction d with
  | zero =>
    intro k j acc i h hj hk ha ht h0 h1
    obtain ⟨k, rfl⟩ : ∃ m, k = m + 1 := ⟨k - 1, by omega⟩
    simp only [spec_l2Draw.l0]
    obtain ⟨r, j', g, e, a1, a2, a3, a4⟩ := below_t b i h 12 h0 h1 hb (by omega)
    rw [if_neg (by omega), e]; simp only [Option.bind_some]
    have hlen : acc.length = n := by omega
    by_cases c0 : r = 0
    · obtain ⟨w, e1, e2, e3⟩ := draw_l1 b j' g n (by omega) n k 0 acc (by omega) (by omega) hlen ht
      rw [if_pos c0, hlen]; exact ⟨w, j', g, by exact_mod_cast e1, e2, e3⟩
    · rw [if_neg c0]
      by_cases c1 : r = 1
      · obtain ⟨w, e1, e2, e3⟩ := draw_l2 b j' g n (by omega) n k 0 acc (by omega) (by omega) hlen ht
        rw [if_pos c1, hlen]; exact ⟨w, j', g, by exact_mod_cast e1, e2, e3⟩
      · rw [if_neg c1]
        by_cases c2 : r = 2
        · obtain ⟨w, e1, e2, e3⟩ := draw_l3 b j' g n (by omega) n k 0 acc (by omega) (by omega) hlen ht
          rw [if_pos c2, hlen]; exact ⟨w, j', g, by exact_mod_cast e1, e2, e3⟩
        · rw [if_neg c2]; exact ⟨acc, j', g, rfl, hlen, ht⟩
  | succ d ih =>
    intro k j acc i h hj hk ha ht h0 h1
    obtain ⟨k, rfl⟩ : ∃ m, k = m + 1 := ⟨k - 1, by omega⟩
    simp only [spec_l2Draw.l0]
    obtain ⟨r, j', g, e, a1, a2, a3, a4⟩ := below_t b i h 3 h0 h1 hb (by omega)
    rw [if_pos (by omega), e]; simp only [Option.bind_some]
    rw [if_pos (by omega), wr (x := r - 1) (by omega) (by omega), wr (x := ((d + 1 : Nat) : Int) - 1) (by omega) (by omega), show ((d + 1 : Nat) : Int) - 1 = (d : Int) by omega]
    exact ih k (j + 1) (acc ++ [r - 1]) j' g (by omega) (by omega) (by simp; omega) (allT_snoc _ _ ht (by omega)) a3 a4
theorem makeWord_t (k : Nat) (l : List Int) (hl : l.length ≤ 1000000000000) (n : Int) (hn : 1 ≤ n ∧ n ≤ 30) (hk : 4040 < k) : ∃ w, spec_MakeWord.f k l n = some w ∧ 1 ≤ w.length ∧ (w.length : Int) ≤ n ∧ allT w := by
  unfold spec_MakeWord.f spec_l2Draw.f
  obtain ⟨g, e⟩ := new_t k l hl (by omega)
  have hx : mx 1 (mn n 30) = n := by unfold mx mn; split <;> split <;> omega
  obtain ⟨r, j', g', e1, a1, a2, a3, a4⟩ := below_t l 0 g n (by omega) (by omega) hl (by omega)
  rw [e]; simp only [Option.bind_some, hx]
  rw [e1]; simp only [Option.bind_some]
  rw [wr (x := 1 + r) (by omega) (by omega)]
  obtain ⟨m, hm⟩ : ∃ m : Nat, 1 + r = m := ⟨(1 + r).toNat, by omega⟩
  rw [hm]
  obtain ⟨w, i', h', e2, e3, e4⟩ := draw_l0 l hl m (by omega) m k 0 [] j' g' (by omega) (by omega) rfl (by intro y hy; simp at hy) a3 a4
  rw [e2]
  exact ⟨w, rfl, by omega, by omega, e4⟩

theorem laws_ints_l0 (a b : List Int) (hab : a.length = b.length) (hl : a.length ≤ 9000000000000000000) (d : Nat) : ∀ (k j : Nat), j + d = a.length → d < k →
    laws_ints.l0 k a b (a.length : Int) (j : Int) = some (decide (a.drop j = b.drop j)) := by
  induction d with
  | zero =>
    intro k j hj hk
    obtain ⟨k, rfl⟩ : ∃ m, k = m + 1 := ⟨k - 1, by omega⟩
    simp only [laws_ints.l0]
    rw [if_neg (by omega), List.drop_eq_nil_of_le (by omega), List.drop_eq_nil_of_le (by omega)]; simp
  | succ d ih =>
    intro k j hj hk
    obtain ⟨k, rfl⟩ : ∃ m, k = m + 1 := ⟨k - 1, by omega⟩
    simp only [laws_ints.l0]
    rw [if_pos (by omega), if_pos (by omega), if_pos (by omega), if_pos (by omega), rd_nat, rd_nat, wr (by omega) (by omega), drop_cons a j (by omega), drop_cons b j (by omega)]
    have e := ih k (j + 1) (by omega) (by omega)
    by_cases h : a.getD j 0 = b.getD j 0
    · rw [if_pos h, h]; simp only [List.cons.injEq, true_and]; exact_mod_cast e
    · rw [if_neg h]; simp only [List.cons.injEq, h, false_and, decide_false]
theorem laws_ints_t (k : Nat) (a : List Int) (hl : a.length ≤ 9000000000000000000) (hk : a.length < k) : laws_ints.f k a a = some true := by
  unfold laws_ints.f
  rw [if_pos rfl]
  have e := laws_ints_l0 a a rfl hl a.length k 0 (by omega) hk
  simpa using e

/-- A word. -/
def isW (l : List Int) : Bool := decide (1 ≤ l.length) && decide (l.length ≤ 30) && l.all isT
theorem isW_iff {l : List Int} : isW l = true ↔ (1 ≤ l.length ∧ l.length ≤ 30 ∧ ∀ x ∈ l, -1 ≤ x ∧ x ≤ 1) := by
  simp [isW, isT, List.all_eq_true, and_assoc]
/-- The value of digits, the lowest first. -/
def val : List Int → Int
  | [] => 0
  | a :: l => 3 * val l + a

theorem impl_IsTrit_t (a : Int) : impl_IsTrit.f a = some (isT a) := by
  unfold impl_IsTrit.f isT
  by_cases h : a ≥ -1
  · have h' : -1 ≤ a := h
    rw [if_pos h]; simp [h']
  · have h' : ¬ -1 ≤ a := h
    rw [if_neg h]; simp [h']

theorem impl_trits_l0 (l : List Int) (hl : l.length ≤ 9000000000000000000) (d : Nat) : ∀ (k j : Nat), j + d = l.length → d < k →
    impl_trits.l0 k l (l.length : Int) (j : Int) = some ((l.drop j).all isT) := by
  induction d with
  | zero =>
    intro k j hj hk
    obtain ⟨k, rfl⟩ : ∃ m, k = m + 1 := ⟨k - 1, by omega⟩
    simp only [impl_trits.l0]
    rw [if_neg (by omega), List.drop_eq_nil_of_le (by omega)]; rfl
  | succ d ih =>
    intro k j hj hk
    obtain ⟨k, rfl⟩ : ∃ m, k = m + 1 := ⟨k - 1, by omega⟩
    simp only [impl_trits.l0]
    rw [if_pos (by omega), if_pos (by omega), if_pos (by omega), impl_IsTrit_t, rd_nat, drop_cons l j (by omega)]
    simp only [Option.bind_some, List.all_cons]
    have e := ih k (j + 1) (by omega) (by omega)
    rw [wr (by omega) (by omega)]
    cases isT (l.getD j 0) with
    | false => rfl
    | true => simp only [if_true, Bool.true_and]; exact_mod_cast e
theorem impl_trits_t (k : Nat) (l : List Int) (hl : l.length ≤ 9000000000000000000) (hk : l.length < k) : impl_trits.f k l = some (l.all isT) := by
  have e := impl_trits_l0 l hl l.length k 0 (by omega) hk
  unfold impl_trits.f; simpa using e

theorem impl_IsWord_t (k : Nat) (l : List Int) (hk : 30 < k) : impl_IsWord.f k l = some (isW l) := by
  unfold impl_IsWord.f isW
  by_cases h1 : 1 ≤ l.length
  · rw [if_pos (by omega)]
    by_cases h2 : l.length ≤ 30
    · rw [if_pos (by omega), impl_trits_t k l (by omega) (by omega)]; simp [h1, h2]
    · rw [if_neg (by omega)]; simp [h2]
  · rw [if_neg (by omega)]; simp [h1]

/-- (3^k - 1) / 2. -/
def lim : Nat → Int
  | 0 => 0
  | k + 1 => 3 * lim k + 1
/-- 3^k. -/
def pw : Nat → Int
  | 0 => 1
  | k + 1 => pw k * 3
theorem pw_lim (k : Nat) : pw k = 2 * lim k + 1 := by
  induction k with
  | zero => rfl
  | succ k ih => simp only [pw, lim]; omega
theorem lim_mono {j k : Nat} (h : j ≤ k) : lim j ≤ lim k := by
  induction k with
  | zero => have : j = 0 := by omega
            subst this; exact Int.le_refl _
  | succ k ih =>
    by_cases e : j = k + 1
    · subst e; exact Int.le_refl _
    · have := ih (by omega)
      have h0 : ∀ m, 0 ≤ lim m := by
        intro m; induction m with
        | zero => exact Int.le_refl _
        | succ m im => simp only [lim]; omega
      have := h0 k
      simp only [lim]; omega
theorem lim_nonneg (k : Nat) : 0 ≤ lim k := lim_mono (Nat.zero_le k)
theorem lim30 : lim 30 = 102945566047324 := by decide
theorem lim_le {k : Nat} (h : k ≤ 30) : lim k ≤ 102945566047324 := by rw [← lim30]; exact lim_mono h
/-- LimitOf. -/
def limOf (k : Int) : Int := if 1 ≤ k ∧ k ≤ 30 then lim k.toNat else 0

theorem val_drop (l : List Int) (j : Nat) (h : j < l.length) : val (l.drop j) = 3 * val (l.drop (j + 1)) + l.getD j 0 := by
  rw [drop_cons l j h]; rfl
/-- Digits from -d to d have a value within d times the limit. -/
theorem val_bound (d : Int) (hd : 0 ≤ d) (l : List Int) (h : ∀ x ∈ l, -d ≤ x ∧ x ≤ d) : -(d * lim l.length) ≤ val l ∧ val l ≤ d * lim l.length := by
  induction l with
  | nil => simp [val, lim]
  | cons a l ih =>
    have h1 := ih (fun x hx => h x (List.mem_cons_of_mem _ hx))
    have h2 := h a (List.mem_cons_self ..)
    simp only [val, List.length_cons, lim]
    have e : d * (3 * lim l.length + 1) = 3 * (d * lim l.length) + d := by rw [Int.mul_add, Int.mul_one, Int.mul_left_comm]
    rw [e]; omega
theorem val_bound30 (d : Int) (hd : 0 ≤ d) (hd2 : d ≤ 2) (l : List Int) (hl : l.length ≤ 30) (h : ∀ x ∈ l, -d ≤ x ∧ x ≤ d) : -300000000000000 ≤ val l ∧ val l ≤ 300000000000000 := by
  have h1 := val_bound d hd l h
  have h2 := lim_le hl
  have h3 := lim_nonneg l.length
  have h4 : d * lim l.length ≤ 2 * lim l.length := Int.mul_le_mul_of_nonneg_right hd2 h3
  omega
theorem mem_getD (l : List Int) (j : Nat) (h : j < l.length) : l.getD j 0 ∈ l := by
  rw [List.getD_eq_getElem?_getD, List.getElem?_eq_getElem h]; exact List.getElem_mem h

theorem impl_value_l0 (d : Int) (hd : 0 ≤ d) (hd2 : d ≤ 2) (l : List Int) (hl : l.length ≤ 30) (hb : ∀ x ∈ l, -d ≤ x ∧ x ≤ d) (j : Nat) : ∀ (k : Nat), j ≤ l.length → j < k →
    impl_value.l0 k l (val (l.drop j)) ((j : Int) - 1) = some (val l) := by
  induction j with
  | zero =>
    intro k hj hk
    obtain ⟨k, rfl⟩ : ∃ m, k = m + 1 := ⟨k - 1, by omega⟩
    simp only [impl_value.l0]
    rw [if_neg (by omega)]; simp
  | succ j ih =>
    intro k hj hk
    obtain ⟨k, rfl⟩ : ∃ m, k = m + 1 := ⟨k - 1, by omega⟩
    simp only [impl_value.l0]
    have e := ih k (by omega) (by omega)
    have b1 := val_bound30 d hd hd2 (l.drop (j + 1)) (by simp; omega) (fun x hx => hb x (List.mem_of_mem_drop hx))
    have b2 := hb _ (mem_getD l j (by omega))
    have v := val_drop l j (by omega)
    rw [if_pos (by omega), if_pos (by omega), if_pos (by omega), show ((j + 1 : Nat) : Int) - 1 = (j : Int) by omega, rd_nat,
      wr (x := 3 * val (l.drop (j + 1))) (by omega) (by omega), wr (x := _ + _) (by omega) (by omega), wr (x := (j : Int) - 1) (by omega) (by omega), ← v]
    exact e
theorem impl_value_t (d : Int) (hd : 0 ≤ d) (hd2 : d ≤ 2) (k : Nat) (l : List Int) (hl : l.length ≤ 30) (hb : ∀ x ∈ l, -d ≤ x ∧ x ≤ d) (hk : 30 < k) : impl_value.f k l = some (val l) := by
  have e := impl_value_l0 d hd hd2 l hl hb l.length k (by omega) (by omega)
  unfold impl_value.f
  rw [wr (by omega) (by omega)]
  simpa [val] using e

theorem impl_ValueOf_w (k : Nat) (l : List Int) (h : isW l = true) (hk : 40 < k) : impl_ValueOf.f k l = some (val l) := by
  unfold impl_ValueOf.f
  have hw := isW_iff.mp h
  rw [impl_IsWord_t k l (by omega)]; simp only [Option.bind_some]
  rw [if_pos h, impl_value_t 1 (by omega) (by omega) k l hw.2.1 hw.2.2 (by omega)]; rfl

/-- The balanced rest by 3. -/
def dig (n : Int) : Int := (n + 1) % 3 - 1
/-- The trits of a number, the lowest first. -/
def wordL : Nat → Int → List Int
  | 0, _ => []
  | k + 1, n => dig n :: wordL k ((n - dig n) / 3)
theorem wordL_len (k : Nat) : ∀ n, (wordL k n).length = k := by
  induction k with
  | zero => intro n; rfl
  | succ k ih => intro n; simp [wordL, ih]
theorem td3 (n : Int) : Int.tdiv (n - dig n) 3 = (n - dig n) / 3 := by
  rw [Int.tdiv_eq_ediv_of_dvd]; unfold dig; omega
theorem dig_b (n : Int) : -1 ≤ dig n ∧ dig n ≤ 1 := by unfold dig; omega

/-- The trit of a small number, and the carry. -/
def crd (n : Int) : Int × Int := if n > 1 then (n - 3, 1) else if n < -1 then (n + 3, -1) else (n, 0)

theorem tm3 (n : Int) : Int.tmod n 3 = n % 3 - if 0 ≤ n ∨ n % 3 = 0 then 0 else 3 := by
  rw [Int.tmod_eq_emod]
  by_cases h : 0 ≤ n
  · simp [h]
  · have : (3 ∣ n) ↔ n % 3 = 0 := by omega
    simp only [h, false_or, this]
    split <;> simp
theorem tm3_dig (n : Int) : (crd (Int.tmod n 3)).1 = dig n := by
  rw [tm3]; unfold crd dig
  by_cases a : 0 ≤ n ∨ n % 3 = 0
  · rw [if_pos a]
    by_cases b : n % 3 - 0 > 1
    · rw [if_pos b]; simp only; omega
    · rw [if_neg b]
      by_cases c : n % 3 - 0 < -1
      · rw [if_pos c]; simp only; omega
      · rw [if_neg c]; simp only; omega
  · rw [if_neg a]
    by_cases b : n % 3 - 3 > 1
    · rw [if_pos b]; simp only; omega
    · rw [if_neg b]
      by_cases c : n % 3 - 3 < -1
      · rw [if_pos c]; simp only; omega
      · rw [if_neg c]; simp only; omega

theorem impl_power_l0 (n : Nat) (hn : n ≤ 38) (d : Nat) : ∀ (k j : Nat), j + d = n → d < k →
    impl_power.l0 k (pw j) (n : Int) (j : Int) = some (pw n) := by
  induction d with
  | zero =>
    intro k j hj hk
    obtain ⟨k, rfl⟩ : ∃ m, k = m + 1 := ⟨k - 1, by omega⟩
    simp only [impl_power.l0]
    rw [if_neg (by omega), show j = n by omega]
  | succ d ih =>
    intro k j hj hk
    obtain ⟨k, rfl⟩ : ∃ m, k = m + 1 := ⟨k - 1, by omega⟩
    simp only [impl_power.l0]
    have h1 := lim_mono (j := j) (k := 37) (by omega)
    have h2 : lim 37 = 225141952945498681 := by decide
    have := lim_nonneg j
    have h3 := pw_lim j
    rw [if_pos (by omega), wr (x := pw j * 3) (by omega) (by omega), wr (by omega) (by omega)]
    have e := ih k (j + 1) (by omega) (by omega)
    exact_mod_cast e
theorem impl_power_t (k : Nat) (n : Nat) (hn : n ≤ 38) (hk : n < k) : impl_power.f k (n : Int) = some (pw n) := by
  have e := impl_power_l0 n hn n k 0 (by omega) hk
  unfold impl_power.f; simpa [pw] using e

theorem impl_LimitOf_t (k : Nat) (hk : 31 < k) (n : Int) : impl_LimitOf.f k n = some (limOf n) := by
  unfold impl_LimitOf.f limOf
  by_cases h1 : n < 1
  · rw [if_pos h1, if_neg (by omega)]
  · rw [if_neg h1]
    by_cases h2 : n > 30
    · rw [if_pos h2, if_neg (by omega)]
    · rw [if_neg h2, if_pos (by omega)]
      obtain ⟨m, rfl⟩ : ∃ m : Nat, n = m := ⟨n.toNat, by omega⟩
      have hm : m ≤ 30 := by omega
      rw [impl_power_t k m (by omega) (by omega)]
      have h3 := pw_lim m
      have := lim_le hm
      have := lim_nonneg m
      simp only [Option.bind_some, Int.toNat_natCast]
      rw [wr (x := pw m - 1) (by omega) (by omega), h3, Int.tdiv_eq_ediv_of_nonneg (by omega), wr (by omega) (by omega)]
      congr 1; omega

theorem limOf_nonneg (k : Int) : 0 ≤ limOf k ∧ limOf k ≤ 102945566047324 := by
  unfold limOf; split
  · exact ⟨lim_nonneg _, lim_le (by omega)⟩
  · omega

theorem impl_fits_t (k : Nat) (hk : 31 < k) (n m : Int) : impl_fits.f k n m = some (decide (-limOf m ≤ n ∧ n ≤ limOf m)) := by
  unfold impl_fits.f
  have := limOf_nonneg m
  rw [impl_LimitOf_t k hk]; simp only [Option.bind_some]
  rw [wr (by omega) (by omega)]
  by_cases h : n ≥ -limOf m
  · have h' : -limOf m ≤ n := h
    rw [if_pos h]; simp [h']
  · have h' : ¬ -limOf m ≤ n := h
    rw [if_neg h]; simp only [h', false_and, decide_false]

/-- WordOf. -/
def wordOf (n m : Int) : List Int × Bool := if (1 ≤ m ∧ m ≤ 30) ∧ (-limOf m ≤ n ∧ n ≤ limOf m) then (wordL m.toNat n, true) else ([], false)
theorem wordOf_len (n m : Int) : (wordOf n m).1.length ≤ 30 := by
  unfold wordOf; split
  · rw [wordL_len]; omega
  · simp

theorem impl_carried_t (n : Int) (h : -1000 ≤ n ∧ n ≤ 1000) : impl_carried.f n = some (crd n) := by
  unfold impl_carried.f crd
  by_cases h1 : n > 1
  · rw [if_pos h1, if_pos h1, wr (by omega) (by omega)]
  · rw [if_neg h1, if_neg h1]
    by_cases h2 : n < -1
    · rw [if_pos h2, if_pos h2, wr (by omega) (by omega)]
    · rw [if_neg h2, if_neg h2]

theorem impl_WordOf_l0 (m : Nat) (hm : m ≤ 30) (d : Nat) : ∀ (k j : Nat) (n : Int) (acc : List Int), j + d = m → d < k → acc.length ≤ 1000 + j → -1000000000000000 ≤ n → n ≤ 1000000000000000 →
    impl_WordOf.l0 k n acc (m : Int) (j : Int) = some (acc ++ wordL d n, true) := by
  induction d with
  | zero =>
    intro k j n acc hj hk ha h1 h2
    obtain ⟨k, rfl⟩ : ∃ m, k = m + 1 := ⟨k - 1, by omega⟩
    simp only [impl_WordOf.l0]
    rw [if_neg (by omega)]; simp [wordL]
  | succ d ih =>
    intro k j n acc hj hk ha h1 h2
    obtain ⟨k, rfl⟩ : ∃ m, k = m + 1 := ⟨k - 1, by omega⟩
    simp only [impl_WordOf.l0]
    have hb := dig_b n
    have hd := td3 n
    have e := ih k (j + 1) ((n - dig n) / 3) (acc ++ [dig n]) (by omega) (by omega) (by simp; omega) (by omega) (by omega)
    have t := tm3 n
    have hl : acc.length < 17592186044416 := by omega
    have hr : -2 ≤ Int.tmod n 3 ∧ Int.tmod n 3 ≤ 2 := by rw [t]; split <;> omega
    rw [if_pos (by omega), impl_carried_t _ (by omega)]
    simp only [Option.bind_some, tm3_dig]
    rw [if_pos hl, wr (x := n - dig n) (by omega) (by omega), hd, wr (x := (n - dig n) / 3) (by omega) (by omega), wr (x := (j : Int) + 1) (by omega) (by omega)]
    have e' : acc ++ [dig n] ++ wordL d ((n - dig n) / 3) = acc ++ wordL (d + 1) n := by simp [wordL]
    rw [← e']; exact_mod_cast e
theorem impl_WordOf_t (k : Nat) (hk : 40 < k) (n m : Int) : impl_WordOf.f k n m = some (wordOf n m) := by
  unfold impl_WordOf.f wordOf
  obtain ⟨k, rfl⟩ : ∃ m, k = m + 1 := ⟨k - 1, by omega⟩
  simp only [impl_WordOf.j0]
  have hL := limOf_nonneg m
  by_cases h1 : m < 1
  · rw [if_pos h1]; simp only [if_true]; rw [if_neg (by omega)]
  · rw [if_neg h1]
    by_cases h2 : m > 30
    · rw [if_pos h2]; simp only [if_true]; rw [if_neg (by omega)]
    · rw [if_neg h2, impl_fits_t (k + 1) (by omega)]
      simp only [Option.bind_some]
      by_cases h3 : -limOf m ≤ n ∧ n ≤ limOf m
      · rw [if_neg (by simp [h3]), if_pos ⟨by omega, h3⟩]
        obtain ⟨q, rfl⟩ : ∃ q : Nat, m = q := ⟨m.toNat, by omega⟩
        have e := impl_WordOf_l0 q (by omega) q k 0 n [] (by omega) (by omega) (by simp) (by omega) (by omega)
        simpa using e
      · rw [if_pos (by simp only [h3, decide_false, Bool.not_false]), if_neg (fun x => h3 x.2)]

theorem getD_set (l : List Int) (i : Nat) (v : Int) (p : Nat) (h : i < l.length) : (l.set i v).getD p 0 = if p = i then v else l.getD p 0 := by
  simp only [List.getD_eq_getElem?_getD, List.getElem?_set]
  by_cases e : i = p
  · subst e; simp [h]
  · have : ¬ p = i := fun x => e x.symm
    simp [e, this]
theorem getD_rev (l : List Int) (p : Nat) (h : p < l.length) : l.reverse.getD p 0 = l.getD (l.length - 1 - p) 0 := by
  simp only [List.getD_eq_getElem?_getD]; rw [List.getElem?_reverse h]
theorem ext_getD (a b : List Int) (h : a.length = b.length) (e : ∀ p, p < a.length → a.getD p 0 = b.getD p 0) : a = b := by
  apply List.ext_getElem h
  intro i h1 h2
  have := e i h1
  simpa [List.getD_eq_getElem?_getD, List.getElem?_eq_getElem h1, List.getElem?_eq_getElem h2] using this
theorem slices_Reverse_l0 (l : List Int) (hl : l.length ≤ 1000000000) (m : Nat) : ∀ (k i : Nat) (x : List Int), l.length - 2 * i ≤ m → 2 * i ≤ l.length + 1 → m < k → x.length = l.length →
    (∀ p, p < l.length → x.getD p 0 = if p < i ∨ l.length - i ≤ p then l.getD (l.length - 1 - p) 0 else l.getD p 0) →
    slices_Reverse_int_int.l0 k x (i : Int) ((l.length : Int) - 1 - i) = some l.reverse := by
  induction m with
  | zero =>
    intro k i x hm hi hk hx hp
    obtain ⟨k, rfl⟩ : ∃ m, k = m + 1 := ⟨k - 1, by omega⟩
    simp only [slices_Reverse_int_int.l0]
    rw [if_neg (by omega)]
    congr 1
    apply ext_getD
    · simp [hx]
    · intro p h
      rw [hx] at h
      rw [getD_rev l p h, hp p h]
      by_cases c : p < i ∨ l.length - i ≤ p
      · rw [if_pos c]
      · rw [if_neg c]; congr 1; omega
  | succ m ih =>
    intro k i x hm hi hk hx hp
    obtain ⟨k, rfl⟩ : ∃ m, k = m + 1 := ⟨k - 1, by omega⟩
    simp only [slices_Reverse_int_int.l0]
    by_cases c : (i : Int) < (l.length : Int) - 1 - i
    · rw [if_pos c, if_pos (by omega), if_pos (by omega), if_pos (by omega), if_pos (by omega)]
      obtain ⟨j, hj⟩ : ∃ j : Nat, (l.length : Int) - 1 - i = j := ⟨l.length - 1 - i, by omega⟩
      rw [hj, rd_nat, rd_nat, Int.toNat_natCast, Int.toNat_natCast, wr (x := (i : Int) + 1) (by omega) (by omega), wr (x := (j : Int) - 1) (by omega) (by omega)]
      have e := ih k (i + 1) ((x.set i (x.getD j 0)).set j (x.getD i 0)) (by omega) (by omega) (by omega) (by simp [hx]) (by
        intro p h
        rw [getD_set _ _ _ _ (by simp [hx]; omega), getD_set _ _ _ _ (by omega)]
        by_cases c1 : p = j
        · rw [if_pos c1, if_pos (by omega), hp i (by omega), if_neg (by omega)]; congr 1; omega
        · rw [if_neg c1]
          by_cases c2 : p = i
          · rw [if_pos c2, if_pos (by omega), hp j (by omega), if_neg (by omega)]; congr 1; omega
          · rw [if_neg c2, hp p h]
            by_cases c3 : p < i ∨ l.length - i ≤ p
            · rw [if_pos c3, if_pos (by omega)]
            · rw [if_neg c3, if_neg (by omega)])
      rw [show (l.length : Int) - 1 - ((i + 1 : Nat) : Int) = (j : Int) - 1 by omega] at e
      exact_mod_cast e
    · rw [if_neg c]
      congr 1
      apply ext_getD
      · simp [hx]
      · intro p h
        rw [hx] at h
        rw [getD_rev l p h, hp p h]
        by_cases c : p < i ∨ l.length - i ≤ p
        · rw [if_pos c]
        · rw [if_neg c]; congr 1; omega
theorem slices_Reverse_t (k : Nat) (l : List Int) (hl : l.length ≤ 1000000000) (hk : l.length < k) : slices_Reverse_int_int.f k l = some l.reverse := by
  unfold slices_Reverse_int_int.f
  rw [wr (by omega) (by omega)]
  have e := slices_Reverse_l0 l hl l.length k 0 l (by omega) (by omega) hk rfl (by intro p h; rw [if_neg (by omega)])
  simpa using e

theorem slices_Clone_t (l : List Int) (hl : l.length ≤ 1000000000) : slices_Clone_int_int.f l = some l := by
  unfold slices_Clone_int_int.f; rw [if_pos (by omega)]

theorem impl_backwards_t (k : Nat) (l : List Int) (hl : l.length ≤ 1000000000) (hk : l.length < k) : impl_backwards.f k l = some l.reverse := by
  unfold impl_backwards.f
  rw [slices_Clone_t l hl]; simp only [Option.bind_some]
  rw [slices_Reverse_t k l hl hk]; rfl

theorem str_append (xs ys : List Int) : strOfNums (xs ++ ys) = strOfNums xs ++ strOfNums ys := by
  apply ByteArray.ext; simp [strOfNums, ByteArray.data_append]
theorem str_nil : strOfNums [] = (⟨#[]⟩ : ByteArray) := rfl
/-- A trit's byte. -/
def chr (a : Int) : Int := bt (⟨#[45, 48, 43]⟩ : ByteArray) (a + 1)
theorem trit3 {a : Int} (h : -1 ≤ a ∧ a ≤ 1) : a = -1 ∨ a = 0 ∨ a = 1 := by omega

theorem impl_tritBytes_l0 (l : List Int) (hl : l.length ≤ 1000000) (hb : ∀ x ∈ l, -1 ≤ x ∧ x ≤ 1) (d : Nat) : ∀ (k j : Nat), j + d = l.length → d < k →
    impl_tritBytes.l0 k ((l.take j).map chr) l (l.length : Int) (j : Int) = some (strOfNums (l.map chr)) := by
  induction d with
  | zero =>
    intro k j hj hk
    obtain ⟨k, rfl⟩ : ∃ m, k = m + 1 := ⟨k - 1, by omega⟩
    simp only [impl_tritBytes.l0]
    rw [if_neg (by omega), List.take_of_length_le (by omega)]
  | succ d ih =>
    intro k j hj hk
    obtain ⟨k, rfl⟩ : ∃ m, k = m + 1 := ⟨k - 1, by omega⟩
    simp only [impl_tritBytes.l0]
    have e := ih k (j + 1) (by omega) (by omega)
    have hm : l.getD j 0 ∈ l := by rw [List.getD_eq_getElem?_getD, List.getElem?_eq_getElem (by omega)]; exact List.getElem_mem (by omega)
    have h1 := hb _ hm
    rw [if_pos (by omega), if_pos (by omega), if_pos (by omega), rd_nat, wr (x := l.getD j 0 + 1) (by omega) (by omega), if_pos (by omega), if_pos (by omega),
      if_pos (by simp; omega), wr (by omega) (by omega)]
    rw [take_snoc l j (by omega)] at e
    simp only [List.map_append, List.map_cons, List.map_nil] at e
    exact_mod_cast e
theorem impl_tritBytes_t (k : Nat) (l : List Int) (hl : l.length ≤ 1000000) (hb : ∀ x ∈ l, -1 ≤ x ∧ x ≤ 1) (hk : l.length < k) : impl_tritBytes.f k l = some (strOfNums (l.map chr)) := by
  have e := impl_tritBytes_l0 l hl hb l.length k 0 (by omega) (by omega)
  unfold impl_tritBytes.f; simpa using e

/-- FormatWord. -/
def fmtW (l : List Int) : ByteArray := if isW l = true then strOfNums (l.map chr).reverse else ⟨#[]⟩

theorem impl_FormatWord_t (k : Nat) (l : List Int) (hk : 40 < k) : impl_FormatWord.f k l = some (fmtW l) := by
  unfold impl_FormatWord.f fmtW
  rw [impl_IsWord_t k l (by omega)]; simp only [Option.bind_some]
  by_cases h : isW l = true
  · have hw := isW_iff.mp h
    rw [if_pos h, if_pos h, impl_backwards_t k l (by omega) (by omega)]; simp only [Option.bind_some]
    rw [impl_tritBytes_t k _ (by simp; omega) (fun x hx => hw.2.2 x (by simpa using hx)) (by simp; omega)]; simp
  · rw [if_neg h, if_neg h]

/-- The trit of a byte; 2 if there is none. -/
def trB (b : Int) : Int := if b = 45 then -1 else if b = 48 then 0 else if b = 43 then 1 else 2
/-- The trits of a text, in its order. -/
def trs (s : ByteArray) : List Int := (List.range s.size).map fun i => trB (bt s (i : Nat))
theorem trs_len (s : ByteArray) : (trs s).length = s.size := by simp [trs]
theorem trs_get (s : ByteArray) (j : Nat) (h : j < s.size) : (trs s).getD j 0 = trB (bt s j) := by
  simp [trs, List.getD_eq_getElem?_getD, h]
theorem trB_isT (b : Int) : isT (trB b) = true ↔ (b = 45 ∨ b = 48 ∨ b = 43) := by
  unfold trB isT; split
  · simp [*]
  · split
    · simp [*]
    · split <;> simp [*]

/-- ParseWord. -/
def parseW (s : ByteArray) : List Int × Bool := if isW (trs s) = true then ((trs s).reverse, true) else ([], false)
theorem parseW_len (s : ByteArray) : (parseW s).1.length ≤ 30 := by
  unfold parseW; split
  · rename_i h; have hw := isW_iff.mp h; simpa using hw.2.1
  · simp

theorem impl_tritsOf_l0 (s : ByteArray) (hl : s.size ≤ 1000000000) (d : Nat) : ∀ (k j : Nat), j + d = s.size → d < k → ((trs s).take j).all isT = true →
    impl_tritsOf.l0 k s ((trs s).take j) (s.size : Int) (j : Int) = some (if (trs s).all isT = true then (trs s, true) else ([], false)) := by
  have hT := trs_len s
  induction d with
  | zero =>
    intro k j hj hk ha
    obtain ⟨k, rfl⟩ : ∃ m, k = m + 1 := ⟨k - 1, by omega⟩
    simp only [impl_tritsOf.l0]
    rw [List.take_of_length_le (by omega)] at ha ⊢
    rw [if_neg (by omega), if_pos ha]
  | succ d ih =>
    intro k j hj hk ha
    obtain ⟨k, rfl⟩ : ∃ m, k = m + 1 := ⟨k - 1, by omega⟩
    simp only [impl_tritsOf.l0]
    have hg := trs_get s j (by omega)
    have ht := take_snoc (trs s) j (by omega)
    have e := ih k (j + 1) (by omega) (by omega)
    rw [ht, hg] at e
    rw [if_pos (by omega), if_pos (by omega), if_pos (by omega), wr (x := (j : Int) + 1) (by omega) (by omega)]
    have hlen : ((trs s).take j).length < 17592186044416 := by simp; omega
    by_cases c : isT (trB (bt s j)) = true
    · have e2 := e (by simp [List.all_append, ha, c])
      have c' := (trB_isT _).mp c
      by_cases c1 : bt s j = 45
      · have : trB (bt s j) = -1 := by simp [trB, c1]
        rw [this] at e2
        rw [if_pos c1, if_pos hlen]; exact_mod_cast e2
      · rw [if_neg c1]
        by_cases c2 : bt s j = 48
        · have : trB (bt s j) = 0 := by simp [trB, c2]
          rw [this] at e2
          rw [if_pos c2, if_pos hlen]; exact_mod_cast e2
        · have c3 : bt s j = 43 := by omega
          have : trB (bt s j) = 1 := by simp [trB, c3]
          rw [this] at e2
          rw [if_neg c2, if_pos c3, if_pos hlen]; exact_mod_cast e2
    · have c' : ¬ (bt s j = 45 ∨ bt s j = 48 ∨ bt s j = 43) := fun x => c ((trB_isT _).mpr x)
      rw [if_neg (by omega), if_neg (by omega), if_neg (by omega)]
      rw [if_neg]
      intro hall
      have hm : (trs s).getD j 0 ∈ trs s := by rw [List.getD_eq_getElem?_getD, List.getElem?_eq_getElem (by omega)]; exact List.getElem_mem (by omega)
      rw [hg] at hm
      exact c (List.all_eq_true.mp hall _ hm)
theorem impl_tritsOf_t (k : Nat) (s : ByteArray) (hl : s.size ≤ 1000000000) (hk : s.size < k) : impl_tritsOf.f k s = some (if (trs s).all isT = true then (trs s, true) else ([], false)) := by
  have e := impl_tritsOf_l0 s hl s.size k 0 (by omega) hk (by simp)
  unfold impl_tritsOf.f; simpa using e

theorem impl_ParseWord_t (k : Nat) (s : ByteArray) (hk : 50 < k) : impl_ParseWord.f k s = some (parseW s) := by
  have hT := trs_len s
  unfold impl_ParseWord.f parseW
  by_cases h1 : (s.size : Int) > 30
  · rw [if_pos h1, if_neg (fun x => by have := isW_iff.mp x; omega)]
  · rw [if_neg h1, impl_tritsOf_t k s (by omega) (by omega)]; simp only [Option.bind_some]
    by_cases h2 : (trs s).all isT = true
    · simp only [h2, if_true]
      by_cases h3 : ((trs s).length : Int) < 1
      · rw [if_pos h3, if_neg (fun x => by have := isW_iff.mp x; omega)]
      · rw [if_neg h3, impl_backwards_t k _ (by omega) (by omega), if_pos (by simp [isW, h2]; omega)]; rfl
    · simp only [h2, if_false, Bool.false_eq_true]
      rw [if_neg (fun x => h2 (by simp [isW] at x; simpa using x.2))]

theorem val_append (a b : List Int) : val (a ++ b) = val a + pw a.length * val b := by
  induction a with
  | nil => simp [val, pw]
  | cons x xs ih => simp only [List.cons_append, val, List.length_cons, pw, ih, Int.mul_add, Int.mul_assoc, Int.mul_left_comm 3]; omega
theorem val_zeros (k : Nat) : val (List.replicate k 0) = 0 := by
  induction k with
  | zero => rfl
  | succ k ih => simp [List.replicate_succ, val, ih]
theorem val_wordL (k : Nat) : ∀ n : Int, -lim k ≤ n → n ≤ lim k → val (wordL k n) = n := by
  induction k with
  | zero => intro n h1 h2; simp only [lim] at h1 h2; simp only [wordL, val]; omega
  | succ k ih =>
    intro n h1 h2
    simp only [lim] at h1 h2
    have hd := dig_b n
    have e := ih ((n - dig n) / 3) (by unfold dig at *; omega) (by unfold dig at *; omega)
    simp only [wordL, val, e]
    unfold dig; omega
theorem wordL_trits (k : Nat) : ∀ n : Int, ∀ x ∈ wordL k n, -1 ≤ x ∧ x ≤ 1 := by
  induction k with
  | zero => intro n x hx; simp [wordL] at hx
  | succ k ih =>
    intro n x hx
    simp only [wordL] at hx
    rcases List.mem_cons.mp hx with h | h
    · rw [h]; exact dig_b n
    · exact ih _ x h
theorem wordL_val (l : List Int) (h : ∀ x ∈ l, -1 ≤ x ∧ x ≤ 1) : wordL l.length (val l) = l := by
  induction l with
  | nil => rfl
  | cons a l ih =>
    have h2 := h a (List.mem_cons_self ..)
    have e := ih (fun x hx => h x (List.mem_cons_of_mem _ hx))
    have hd : dig (3 * val l + a) = a := by unfold dig; omega
    simp only [List.length_cons, val, wordL, hd]
    rw [show (3 * val l + a - a) / 3 = val l by omega, e]
theorem val_b1 (l : List Int) (h : ∀ x ∈ l, -1 ≤ x ∧ x ≤ 1) : -lim l.length ≤ val l ∧ val l ≤ lim l.length := by
  have := val_bound 1 (by omega) l h; omega
theorem isW_wordL (k : Nat) (n : Int) (h1 : 1 ≤ k) (h2 : k ≤ 30) : isW (wordL k n) = true := isW_iff.mpr ⟨by rw [wordL_len]; omega, by rw [wordL_len]; omega, wordL_trits k n⟩

/-- The sign of a number. -/
def sgn (n : Int) : Int := if n < 0 then -1 else if n > 0 then 1 else 0

/-- The highest digit that is not 0, or 0. -/
def hi : List Int → Int
  | [] => 0
  | a :: l => if hi l = 0 then a else hi l
theorem impl_highest_l0 (l : List Int) (hl : l.length ≤ 30) (j : Nat) : ∀ (k : Nat), j ≤ l.length → j < k → hi (l.drop j) = 0 →
    impl_highest.l0 k l ((j : Int) - 1) = some (hi l) := by
  induction j with
  | zero =>
    intro k hj hk h0
    obtain ⟨k, rfl⟩ : ∃ m, k = m + 1 := ⟨k - 1, by omega⟩
    simp only [impl_highest.l0]
    rw [if_neg (by omega)]; simp at h0; rw [h0]
  | succ j ih =>
    intro k hj hk h0
    obtain ⟨k, rfl⟩ : ∃ m, k = m + 1 := ⟨k - 1, by omega⟩
    simp only [impl_highest.l0]
    rw [if_pos (by omega), if_pos (by omega), if_pos (by omega), show ((j + 1 : Nat) : Int) - 1 = (j : Int) by omega, rd_nat, wr (x := (j : Int) - 1) (by omega) (by omega)]
    have v : hi (l.drop j) = l.getD j 0 := by rw [drop_cons l j (by omega)]; simp only [hi]; rw [if_pos h0]
    by_cases h : l.getD j 0 = 0
    · rw [if_pos h]; exact ih k (by omega) (by omega) (by rw [v, h])
    · rw [if_neg h]
      have g : ∀ n, n ≤ j → hi (l.drop (j - n)) = l.getD j 0 := by
        intro n; induction n with
        | zero => intro _; exact v
        | succ n im =>
          intro hn
          have := im (by omega)
          rw [drop_cons l (j - (n + 1)) (by omega)]; simp only [hi]
          rw [show j - (n + 1) + 1 = j - n by omega, this, if_neg h]
      have := g j (by omega)
      rw [show j - j = 0 by omega] at this; simp only [List.drop_zero] at this; rw [this]
theorem impl_highest_t (k : Nat) (l : List Int) (hl : l.length ≤ 30) (hk : 30 < k) : impl_highest.f k l = some (hi l) := by
  have e := impl_highest_l0 l hl l.length k (by omega) (by omega) (by simp [hi])
  unfold impl_highest.f
  rw [wr (by omega) (by omega)]; exact e

theorem hi_trit (l : List Int) (h : ∀ x ∈ l, -1 ≤ x ∧ x ≤ 1) : -1 ≤ hi l ∧ hi l ≤ 1 := by
  induction l with
  | nil => simp [hi]
  | cons a l ih =>
    have h1 := ih (fun x hx => h x (List.mem_cons_of_mem _ hx))
    have h2 := h a (List.mem_cons_self ..)
    simp only [hi]; split <;> omega
theorem hi_val (l : List Int) (h : ∀ x ∈ l, -1 ≤ x ∧ x ≤ 1) : (hi l = 0 ↔ val l = 0) ∧ (hi l = 1 ↔ 0 < val l) := by
  induction l with
  | nil => simp [hi, val]
  | cons a l ih =>
    have hl := fun x hx => h x (List.mem_cons_of_mem _ hx)
    have h1 := ih hl
    have h2 := h a (List.mem_cons_self ..)
    have h3 := hi_trit l hl
    simp only [hi, val]
    by_cases e : hi l = 0
    · rw [if_pos e]; have := h1.1.mp e; omega
    · rw [if_neg e]
      have := fun x => e (h1.1.mpr x)
      by_cases e1 : hi l = 1
      · have := h1.2.mp e1; omega
      · have := fun x => e1 (h1.2.mpr x); omega
theorem hi_sgn (l : List Int) (h : ∀ x ∈ l, -1 ≤ x ∧ x ≤ 1) : hi l = sgn (val l) := by
  have h1 := hi_val l h
  have h2 := hi_trit l h
  unfold sgn
  by_cases e : val l < 0
  · rw [if_pos e]
    have : hi l ≠ 0 := fun x => by have := h1.1.mp x; omega
    have : hi l ≠ 1 := fun x => by have := h1.2.mp x; omega
    omega
  · rw [if_neg e]
    by_cases e2 : val l > 0
    · rw [if_pos e2]; exact h1.2.mpr e2
    · rw [if_neg e2]; exact h1.1.mpr (by omega)

theorem impl_SignOf_t (n : Int) : impl_SignOf.f n = some (sgn n) := by
  unfold impl_SignOf.f sgn; split
  · rfl
  · split <;> rfl

theorem impl_negated_l0 (l : List Int) (hl : l.length ≤ 1000000) (hb : ∀ x ∈ l, -2 ≤ x ∧ x ≤ 2) (d : Nat) : ∀ (k j : Nat), j + d = l.length → d < k →
    impl_negated.l0 k ((l.take j).map fun x => -x) l (l.length : Int) (j : Int) = some (l.map fun x => -x) := by
  induction d with
  | zero =>
    intro k j hj hk
    obtain ⟨k, rfl⟩ : ∃ m, k = m + 1 := ⟨k - 1, by omega⟩
    simp only [impl_negated.l0]
    rw [if_neg (by omega), List.take_of_length_le (by omega)]
  | succ d ih =>
    intro k j hj hk
    obtain ⟨k, rfl⟩ : ∃ m, k = m + 1 := ⟨k - 1, by omega⟩
    simp only [impl_negated.l0]
    have e := ih k (j + 1) (by omega) (by omega)
    have hm : l.getD j 0 ∈ l := by rw [List.getD_eq_getElem?_getD, List.getElem?_eq_getElem (by omega)]; exact List.getElem_mem (by omega)
    have h1 := hb _ hm
    rw [if_pos (by omega), if_pos (by omega), if_pos (by omega), if_pos (by simp; omega), rd_nat, wr (x := -(l.getD j 0)) (by omega) (by omega), wr (by omega) (by omega)]
    rw [take_snoc l j (by omega)] at e
    simp only [List.map_append, List.map_cons, List.map_nil] at e
    exact_mod_cast e
theorem impl_negated_t (k : Nat) (l : List Int) (hl : l.length ≤ 1000000) (hb : ∀ x ∈ l, -2 ≤ x ∧ x ≤ 2) (hk : l.length < k) : impl_negated.f k l = some (l.map fun x => -x) := by
  have e := impl_negated_l0 l hl hb l.length k 0 (by omega) (by omega)
  unfold impl_negated.f; simpa using e

/-- NegateWord. -/
def negW (l : List Int) : List Int := if isW l = true then l.map (fun x => -x) else []
theorem negW_len (l : List Int) : (negW l).length ≤ 30 := by
  unfold negW; split
  · rename_i h; have hw := isW_iff.mp h; simpa using hw.2.1
  · simp

theorem impl_NegateWord_t (k : Nat) (l : List Int) (hk : 40 < k) : impl_NegateWord.f k l = some (negW l) := by
  unfold impl_NegateWord.f negW
  rw [impl_IsWord_t k l (by omega)]; simp only [Option.bind_some]
  by_cases h : isW l = true
  · have hw := isW_iff.mp h
    rw [if_pos h, if_pos h, impl_negated_t k l (by omega) (fun x hx => by have := hw.2.2 x hx; omega) (by omega)]; rfl
  · rw [if_neg h, if_neg h]

/-- ReverseWord. -/
def revW (l : List Int) : List Int := if isW l = true then l.reverse else []
theorem revW_len (l : List Int) : (revW l).length ≤ 30 := by
  unfold revW; split
  · rename_i h; have hw := isW_iff.mp h; simpa using hw.2.1
  · simp

theorem impl_ReverseWord_t (k : Nat) (l : List Int) (hk : 40 < k) : impl_ReverseWord.f k l = some (revW l) := by
  unfold impl_ReverseWord.f revW
  rw [impl_IsWord_t k l (by omega)]; simp only [Option.bind_some]
  by_cases h : isW l = true
  · have hw := isW_iff.mp h
    rw [if_pos h, if_pos h, impl_backwards_t k l (by omega) (by omega)]; rfl
  · rw [if_neg h, if_neg h]

theorem bt_str (xs : List Int) (h : ∀ x ∈ xs, 0 ≤ x ∧ x ≤ 255) (i : Nat) (hi : i < xs.length) : bt (strOfNums xs) (i : Int) = xs.getD i 0 := by
  have hm : xs.getD i 0 ∈ xs := by rw [List.getD_eq_getElem?_getD, List.getElem?_eq_getElem hi]; exact List.getElem_mem hi
  have hx := h _ hm
  have hs : ((i : Int)).toNat < (strOfNums xs).size := by rw [strOfNums_size]; simpa using hi
  unfold bt
  rw [dif_pos hs]
  have e : (strOfNums xs)[((i : Int)).toNat]'hs = UInt8.ofNat (xs.getD i 0).toNat := by
    simp [strOfNums, ByteArray.getElem_eq_getElem_data, List.getD_eq_getElem?_getD, List.getElem?_eq_getElem hi]
  rw [e, UInt8.toNat_ofNat']
  omega
theorem chr_b (a : Int) (h : -1 ≤ a ∧ a ≤ 1) : (0 ≤ chr a ∧ chr a ≤ 255) ∧ trB (chr a) = a := by
  obtain rfl | rfl | rfl := trit3 h
  all_goals decide
theorem parse_fmt (w : List Int) (h : isW w = true) : parseW (fmtW w) = (w, true) := by
  have hw := isW_iff.mp h
  have hb : ∀ x ∈ (w.map chr).reverse, 0 ≤ x ∧ x ≤ 255 := by
    intro x hx
    obtain ⟨a, ha, rfl⟩ := List.mem_map.mp (List.mem_reverse.mp hx)
    exact (chr_b a (hw.2.2 a ha)).1
  have ht : trs (strOfNums (w.map chr).reverse) = w.reverse := by
    apply ext_getD
    · rw [trs_len, strOfNums_size]; simp
    · intro p hp
      rw [trs_len, strOfNums_size] at hp
      rw [trs_get _ p (by rw [strOfNums_size]; exact hp), bt_str _ hb p hp]
      have hp2 : p < w.length := by simpa using hp
      rw [getD_rev _ p (by simpa using hp2), getD_rev w p hp2]
      have hm : w.getD (w.length - 1 - p) 0 ∈ w := by rw [List.getD_eq_getElem?_getD, List.getElem?_eq_getElem (by omega)]; exact List.getElem_mem (by omega)
      have e : (w.map chr).getD ((w.map chr).length - 1 - p) 0 = chr (w.getD (w.length - 1 - p) 0) := by
        rw [List.length_map, List.getD_eq_getElem?_getD, List.getElem?_map, List.getElem?_eq_getElem (by omega), List.getD_eq_getElem?_getD, List.getElem?_eq_getElem (by omega)]; rfl
      rw [e, (chr_b _ (hw.2.2 _ hm)).2]
  unfold parseW fmtW
  rw [if_pos h, ht, if_pos (by simpa [isW] using h), List.reverse_reverse]
theorem len_l0 (n : Int) (h30 : -lim 30 ≤ n ∧ n ≤ lim 30) (d : Nat) : ∀ (k i : Nat), 1 ≤ i → i + d = 30 → d + 40 < k → (∀ j, 1 ≤ j → j < i → ¬ (-lim j ≤ n ∧ n ≤ lim j)) →
    ∃ r : Nat, impl_LengthOf.l0 k n (i : Int) = some (r : Int) ∧ 1 ≤ r ∧ r ≤ 30 ∧ (-lim r ≤ n ∧ n ≤ lim r) ∧ (∀ j, 1 ≤ j → j < r → ¬ (-lim j ≤ n ∧ n ≤ lim j)) := by
  induction d with
  | zero =>
    intro k i h1 hi hk hj
    obtain ⟨k, rfl⟩ : ∃ m, k = m + 1 := ⟨k - 1, by omega⟩
    have e : i = 30 := by omega
    subst e
    have hL : limOf ((30 : Nat) : Int) = lim 30 := by unfold limOf; rw [if_pos (by omega)]; rfl
    rw [impl_LengthOf.l0, if_pos (by omega), impl_fits_t k (by omega), Option.bind_some, hL, if_pos (decide_eq_true h30)]
    exact ⟨30, rfl, by omega, by omega, h30, hj⟩
  | succ d ih =>
    intro k i h1 hi hk hj
    obtain ⟨k, rfl⟩ : ∃ m, k = m + 1 := ⟨k - 1, by omega⟩
    have hL : limOf (i : Int) = lim i := by unfold limOf; rw [if_pos (by omega)]; simp
    rw [impl_LengthOf.l0, if_pos (by omega), impl_fits_t k (by omega), Option.bind_some, hL]
    by_cases c : -lim i ≤ n ∧ n ≤ lim i
    · rw [if_pos (decide_eq_true c)]; exact ⟨i, rfl, h1, by omega, c, hj⟩
    · rw [if_neg (by simpa using c), wr (x := (i : Int) + 1) (by omega) (by omega), show (i : Int) + 1 = ((i + 1 : Nat) : Int) by omega]
      refine ih k (i + 1) (by omega) (by omega) (by omega) (fun j h2 h3 => ?_)
      by_cases e : j = i
      · rw [e]; exact c
      · exact hj j h2 (by omega)
theorem len_t (k : Nat) (n : Int) (h30 : -lim 30 ≤ n ∧ n ≤ lim 30) (hk : 100 < k) :
    ∃ r : Nat, impl_LengthOf.f k n = some (r : Int) ∧ 1 ≤ r ∧ r ≤ 30 ∧ (-lim r ≤ n ∧ n ≤ lim r) ∧ (∀ j, 1 ≤ j → j < r → ¬ (-lim j ≤ n ∧ n ≤ lim j)) :=
  len_l0 n h30 29 k 1 (by omega) (by omega) (by omega) (fun j h1 h2 => by omega)
/-- The sum of all trits. -/
def sumL : List Int → Int
  | [] => 0
  | a :: l => a + sumL l
/-- The number of trits that are not 0. -/
def wgt : List Int → Int
  | [] => 0
  | a :: l => a * a + wgt l
theorem sq_b (a : Int) (h : -1 ≤ a ∧ a ≤ 1) : 0 ≤ a * a ∧ a * a ≤ 1 ∧ a ≤ a * a ∧ -a ≤ a * a := by
  obtain rfl | rfl | rfl : a = -1 ∨ a = 0 ∨ a = 1 := by omega
  all_goals omega
theorem sum_b (l : List Int) (h : ∀ x ∈ l, -1 ≤ x ∧ x ≤ 1) : (-(l.length : Int) ≤ sumL l ∧ sumL l ≤ l.length) ∧ (0 ≤ wgt l ∧ wgt l ≤ l.length) ∧ sumL l ≤ wgt l ∧ -sumL l ≤ wgt l ∧ (sumL l - val l) % 2 = 0 := by
  induction l with
  | nil => simp [sumL, wgt, val]
  | cons a l ih =>
    have h1 := ih (fun x hx => h x (List.mem_cons_of_mem _ hx))
    have h2 := h a (List.mem_cons_self ..)
    have h3 := sq_b a h2
    simp only [sumL, wgt, val, List.length_cons]
    omega
theorem impl_SumOf_l0 (l : List Int) (hl : l.length ≤ 30) (hb : ∀ x ∈ l, -1 ≤ x ∧ x ≤ 1) (d : Nat) : ∀ (k j : Nat) (s : Int), j + d = l.length → d < k → -1000 - j ≤ s → s ≤ 1000 + j →
    impl_SumOf.l0 k s l (l.length : Int) (j : Int) = some (s + sumL (l.drop j)) := by
  induction d with
  | zero =>
    intro k j s hj hk _ _
    obtain ⟨k, rfl⟩ : ∃ m, k = m + 1 := ⟨k - 1, by omega⟩
    rw [impl_SumOf.l0, if_neg (by omega), List.drop_of_length_le (by omega)]; simp [sumL]
  | succ d ih =>
    intro k j s hj hk s1 s2
    obtain ⟨k, rfl⟩ : ∃ m, k = m + 1 := ⟨k - 1, by omega⟩
    have m1 := hb _ (mem_getD l j (by omega))
    have e := ih k (j + 1) (s + l.getD j 0) (by omega) (by omega) (by omega) (by omega)
    rw [impl_SumOf.l0, if_pos (by omega), if_pos (by omega), if_pos (by omega), rd_nat, wr (x := s + l.getD j 0) (by omega) (by omega), wr (x := (j : Int) + 1) (by omega) (by omega), show (j : Int) + 1 = ((j + 1 : Nat) : Int) by omega, e, drop_cons l j (by omega)]
    simp only [sumL]; congr 1; omega
theorem impl_WeightOf_l0 (l : List Int) (hl : l.length ≤ 30) (hb : ∀ x ∈ l, -1 ≤ x ∧ x ≤ 1) (d : Nat) : ∀ (k j : Nat) (s : Int), j + d = l.length → d < k → 0 ≤ s → s ≤ 1000 + j →
    impl_WeightOf.l0 k s l (l.length : Int) (j : Int) = some (s + wgt (l.drop j)) := by
  induction d with
  | zero =>
    intro k j s hj hk _ _
    obtain ⟨k, rfl⟩ : ∃ m, k = m + 1 := ⟨k - 1, by omega⟩
    rw [impl_WeightOf.l0, if_neg (by omega), List.drop_of_length_le (by omega)]; simp [wgt]
  | succ d ih =>
    intro k j s hj hk s1 s2
    obtain ⟨k, rfl⟩ : ∃ m, k = m + 1 := ⟨k - 1, by omega⟩
    have m1 := sq_b _ (hb _ (mem_getD l j (by omega)))
    have e := ih k (j + 1) (s + l.getD j 0 * l.getD j 0) (by omega) (by omega) (by omega) (by omega)
    rw [impl_WeightOf.l0, if_pos (by omega), if_pos (by omega), if_pos (by omega), rd_nat, wr (x := l.getD j 0 * l.getD j 0) (by omega) (by omega), wr (x := s + l.getD j 0 * l.getD j 0) (by omega) (by omega), wr (x := (j : Int) + 1) (by omega) (by omega), show (j : Int) + 1 = ((j + 1 : Nat) : Int) by omega, e, drop_cons l j (by omega)]
    simp only [wgt]; congr 1; omega
theorem impl_SumOf_w (k : Nat) (l : List Int) (h : isW l = true) (hk : 40 < k) : impl_SumOf.f k l = some (sumL l) := by
  have hw := isW_iff.mp h
  have e := impl_SumOf_l0 l hw.2.1 hw.2.2 l.length k 0 0 (by omega) (by omega) (by omega) (by omega)
  rw [List.drop_zero, Int.zero_add] at e
  unfold impl_SumOf.f
  rw [impl_IsWord_t k l (by omega), Option.bind_some, if_pos h]; exact e
theorem impl_WeightOf_w (k : Nat) (l : List Int) (h : isW l = true) (hk : 40 < k) : impl_WeightOf.f k l = some (wgt l) := by
  have hw := isW_iff.mp h
  have e := impl_WeightOf_l0 l hw.2.1 hw.2.2 l.length k 0 0 (by omega) (by omega) (by omega) (by omega)
  rw [List.drop_zero, Int.zero_add] at e
  unfold impl_WeightOf.f
  rw [impl_IsWord_t k l (by omega), Option.bind_some, if_pos h]; exact e
theorem impl_SignWord_w (k : Nat) (l : List Int) (h : isW l = true) (hk : 40 < k) : impl_SignWord.f k l = some (hi l) := by
  have hw := isW_iff.mp h
  unfold impl_SignWord.f
  rw [impl_IsWord_t k l (by omega), Option.bind_some, if_pos h, impl_highest_t k l hw.2.1 (by omega), Option.bind_some]
theorem val_neg (l : List Int) : val (l.map fun x => -x) = -val l := by
  induction l with
  | nil => rfl
  | cons a l ih => simp only [List.map_cons, val, ih]; omega
/-- The last trit that is not 0, else s. -/
def nz : List Int → Int → Int
  | [], s => s
  | a :: l, s => nz l (if a = 0 then s else a)
theorem nz_hi (l : List Int) : ∀ s, nz l s = if hi l = 0 then s else hi l := by
  induction l with
  | nil => intro s; simp [nz, hi]
  | cons a l ih =>
    intro s
    have hh : hi (a :: l) = if hi l = 0 then a else hi l := rfl
    rw [nz, ih, hh]
    by_cases c : hi l = 0
    · rw [if_pos c, if_pos c]
    · rw [if_neg c, if_neg c, if_neg c]
theorem tail_t (k : Nat) (w : List Int) (hw : isW w = true) (hk : 300 < k) :
    laws_FnValues.l0 (k + 1) w (val w) false (hi w) w (w.length : Int) (w.length : Int) = some true := by
  have hh := isW_iff.mp hw
  have hs := hi_sgn w hh.2.2
  have hS := sum_b w hh.2.2
  have b := val_bound30 1 (by omega) (by omega) w hh.2.1 hh.2.2
  have hn : negW w = w.map (fun x => -x) := by unfold negW; rw [if_pos hw]
  have hnw : isW (w.map fun x => -x) = true := isW_iff.mpr ⟨by simpa using hh.1, by simpa using hh.2.1, fun x hx => by
    obtain ⟨a, ha, rfl⟩ := List.mem_map.mp hx
    have := hh.2.2 a ha; omega⟩
  have hr : revW w = w.reverse := by unfold revW; rw [if_pos hw]
  have hrw : isW w.reverse = true := by simpa [isW] using hw
  have hrr : revW w.reverse = w := by unfold revW; rw [if_pos hrw, List.reverse_reverse]
  have hp : Int.tmod (sumL w - val w) 2 = 0 := by
    obtain ⟨q, hq⟩ : ∃ q, sumL w - val w = 2 * q := ⟨(sumL w - val w) / 2, by omega⟩
    rw [hq]; exact Int.mul_tmod_right _ _
  have ha : laws_abs.f (sumL w) = some (mx (sumL w) (-sumL w)) := by unfold laws_abs.f; rw [wr (by omega) (by omega)]
  have hge : wgt w ≥ mx (sumL w) (-sumL w) := by unfold mx; split <;> omega
  rw [laws_FnValues.l0, if_neg (by omega), if_neg (by simp), impl_SignWord_w _ w hw (by omega), Option.bind_some, if_pos rfl, impl_SignOf_t, Option.bind_some, if_pos hs,
    impl_NegateWord_t _ _ (by omega), hn, Option.bind_some, impl_ValueOf_w _ _ hnw (by omega), Option.bind_some, val_neg, wr (x := -val w) (by omega) (by omega), if_pos rfl,
    impl_SumOf_w _ w hw (by omega), Option.bind_some, wr (x := sumL w - val w) (by omega) (by omega), if_pos hp, impl_WeightOf_w _ w hw (by omega), Option.bind_some, Option.bind_some, ha, Option.bind_some, if_pos hge,
    impl_ReverseWord_t _ _ (by omega), hr, Option.bind_some, impl_ReverseWord_t _ _ (by omega), hrr, Option.bind_some, laws_ints_t _ w (by omega) (by omega), Option.bind_some]
theorem sign_l0 (w : List Int) (hw : isW w = true) (d : Nat) : ∀ (k j : Nat) (s : Int), j + d = w.length → nz (w.drop j) s = hi w → d + 400 < k →
    laws_FnValues.l0 k w (val w) false s w (w.length : Int) (j : Int) = some true := by
  have hh := isW_iff.mp hw
  induction d with
  | zero =>
    intro k j s hj hs hk
    obtain ⟨k, rfl⟩ : ∃ m, k = m + 1 := ⟨k - 1, by omega⟩
    rw [List.drop_of_length_le (by omega)] at hs
    have hs' : s = hi w := hs
    rw [show j = w.length by omega, hs']
    exact tail_t k w hw (by omega)
  | succ d ih =>
    intro k j s hj hs hk
    obtain ⟨k, rfl⟩ : ∃ m, k = m + 1 := ⟨k - 1, by omega⟩
    rw [drop_cons w j (by omega), nz] at hs
    rw [laws_FnValues.l0, if_pos (by omega), if_pos (by omega), if_pos (by omega), rd_nat, wr (x := (j : Int) + 1) (by omega) (by omega), show (j : Int) + 1 = ((j + 1 : Nat) : Int) by omega]
    by_cases c : w.getD j 0 = 0
    · rw [if_pos c] at hs ⊢
      exact ih k (j + 1) s (by omega) hs (by omega)
    · rw [if_neg c] at hs ⊢
      exact ih k (j + 1) _ (by omega) hs (by omega)
theorem FnValues : laws_FnValues.Pure := by
  intro l h1 h2 h3
  obtain ⟨K, hK⟩ : ∃ K : Nat, K = 5000 := ⟨_, rfl⟩
  refine ⟨K + 3, ?_⟩
  unfold laws_FnValues.f
  split
  · rfl
  · obtain ⟨w, ew, w1, w2, tw⟩ := makeWord_t (K + 3) l (by omega) 30 (by omega) (by omega)
    have hw : isW w = true := isW_iff.mpr ⟨by omega, by omega, tw⟩
    have vb := val_b1 w tw
    have lm := lim_mono (j := w.length) (k := 30) (by omega)
    have l30 := lim30
    obtain ⟨r, er, r1, r2, r3, r4⟩ := len_t (K + 3) (val w) (by omega) (by omega)
    have hrl : r ≤ w.length := by
      by_cases c : r ≤ w.length
      · exact c
      · exact absurd vb (r4 w.length (by omega) (by omega))
    have hL : limOf (w.length : Int) = lim w.length := by unfold limOf; rw [if_pos (by omega)]; simp
    have hLr : limOf (r : Int) = lim r := by unfold limOf; rw [if_pos (by omega)]; simp
    have s1 : wordOf (val w) w.length = (w, true) := by
      unfold wordOf; rw [hL, if_pos ⟨by omega, by omega, by omega⟩, Int.toNat_natCast, wordL_val w tw]
    have s3 : wordOf (val w) r = (wordL r (val w), true) := by
      unfold wordOf; rw [hLr, if_pos ⟨by omega, by omega, by omega⟩, Int.toNat_natCast]
    have s4 : (wordOf (val w) ((r : Int) - 1)).2 = false := by
      unfold wordOf
      rw [if_neg]
      rintro ⟨c1, c2⟩
      have hL1 : limOf ((r : Int) - 1) = lim (r - 1) := by unfold limOf; rw [if_pos (by omega), show ((r : Int) - 1).toNat = r - 1 by omega]
      rw [hL1] at c2
      exact r4 (r - 1) (by omega) (by omega) c2
    have s2 := parse_fmt w hw
    have b3 := val_bound30 1 (by omega) (by omega) w (by omega) tw
    have ha : laws_abs.f (val w) = some (mx (val w) (-val w)) := by unfold laws_abs.f; rw [wr (by omega) (by omega)]
    have hmx : ¬ mx (val w) (-val w) > lim w.length := by unfold mx; split <;> omega
    rw [ew, Option.bind_some, impl_ValueOf_w _ w hw (by omega), Option.bind_some, impl_WordOf_t _ (by omega), s1, Option.bind_some, impl_FormatWord_t _ w (by omega), Option.bind_some, impl_ParseWord_t _ _ (by omega), s2, Option.bind_some, er, Option.bind_some, impl_WordOf_t _ (by omega), s3, Option.bind_some]
    dsimp only
    rw [if_pos rfl, if_pos rfl, if_pos rfl, laws_ints_t _ w (by omega) (by omega), Option.bind_some, if_pos rfl, Option.bind_some, if_pos rfl, if_neg (by omega), if_pos (by rw [wordL_len]), ha, Option.bind_some, impl_LimitOf_t _ (by omega), hL, Option.bind_some, decide_eq_false hmx,
      laws_FnValues.j0, if_neg (by simp), wr (x := (r : Int) - 1) (by omega) (by omega), impl_WordOf_t _ (by omega), Option.bind_some, s4]
    exact sign_l0 w hw w.length (K + 2) 0 0 (by omega) (by rw [List.drop_zero, nz_hi]; split <;> simp_all) (by omega)

end Go.Proofs.Ytaieeaniadgjiaa.Pure.InFnValues
namespace Go.Proofs.Ytaieeaniadgjiaa.Pure
theorem FnValues : QFnValues.laws_FnValues.Pure := InFnValues.FnValues
end Go.Proofs.Ytaieeaniadgjiaa.Pure
