/- FnSliced: a word that is sliced and joined is the word, its value that of its parts, and a longer word keeps its value, whatever the bytes. No condition. -/
import Derived.Test.YtaieeaniadgjiaaQFnSlicedx4
set_option linter.unusedVariables false
set_option linter.unusedSimpArgs false
namespace Go.Proofs.Ytaieeaniadgjiaa.Pure.InFnSliced
open Go.RowKit Go.Proofs.Ytaieeaniadgjiaa.QFnSliced Go.Proofs.YtaieeaniadgjiaaW.PrintWords Go.Proofs.YtaieeaniadgjiaaW.PrintLast Go.Proofs.YtaieeaniadgjiaaW.PrintMore

theorem wr {x : Int} (h1 : -9223372036854775808 ≤ x) (h2 : x ≤ 9223372036854775807) : wrap64 x = x := by unfold wrap64; omega
theorem wfB {a : Int} (h : (Lit.int .i64 a).wf = true) : -9223372036854775808 ≤ a ∧ a ≤ 9223372036854775807 := by
  have h' := h
  simp only [Lit.wf, Bool.and_eq_true, decide_eq_true_eq] at h'
  exact h'
/-- A trit. -/
def isT (a : Int) : Bool := decide (-1 ≤ a ∧ a ≤ 1)
theorem isT_iff {a : Int} : isT a = true ↔ (-1 ≤ a ∧ a ≤ 1) := by simp [isT]

theorem rd_nat (l : List Int) (j : Nat) : rd l (j : Int) = l.getD j 0 := by unfold rd; simp
theorem drop_cons (l : List Int) (j : Nat) (h : j < l.length) : l.drop j = l.getD j 0 :: l.drop (j + 1) := by
  rw [List.drop_eq_getElem_cons h]; simp [List.getD_eq_getElem?_getD, h]
theorem take_snoc (l : List Int) (j : Nat) (h : j < l.length) : l.take (j + 1) = l.take j ++ [l.getD j 0] := by
  rw [List.take_succ_eq_append_getElem h]; simp [List.getD_eq_getElem?_getD, h]

theorem and255 (x : Int) : 0 ≤ Go.bits .and .i64 x 255 ∧ Go.bits .and .i64 x 255 ≤ 255 := by
  have h : Go.bits .and .i64 x 255 = IntKind.i64.wrap (((BitVec.ofInt 64 x &&& BitVec.ofInt 64 255).toNat : Nat) : Int) := rfl
  rw [h, BitVec.toNat_and]
  have e : (BitVec.ofInt 64 255).toNat = 255 := by decide
  rw [e]
  have := Nat.and_le_right (n := (BitVec.ofInt 64 x).toNat) (m := 255)
  generalize (BitVec.ofInt 64 x).toNat &&& 255 = n at *
  rw [IntKind.wrap_i64]; omega
theorem byte_t (b : List Int) (i h : Int) (h0 : 0 ≤ i) (h1 : i ≤ b.length) (hb : b.length ≤ 1000000000000) : ∃ r j g, spec_l01Byte.f b i h = some (r, j, g) ∧ 0 ≤ r ∧ r ≤ 255 ∧ 0 ≤ j ∧ j ≤ b.length := by
  unfold spec_l01Byte.f
  by_cases c : i < b.length
  · rw [if_pos c, if_pos h0, wr (x := i + 1) (by omega) (by omega)]
    refine ⟨_, _, _, rfl, (and255 _).1, (and255 _).2, by omega, by omega⟩
  · rw [if_neg c]
    exact ⟨_, _, _, rfl, (and255 _).1, (and255 _).2, h0, h1⟩
theorem tmod_b (r n : Int) (h : 0 ≤ r) (hn : 0 < n) : 0 ≤ Int.tmod r n ∧ Int.tmod r n < n := by
  rw [Int.tmod_eq_emod_of_nonneg h]; exact ⟨Int.emod_nonneg _ (by omega), Int.emod_lt_of_pos _ hn⟩
theorem below_t (b : List Int) (i h n : Int) (h0 : 0 ≤ i) (h1 : i ≤ b.length) (hb : b.length ≤ 1000000000000) (hn : 1 ≤ n ∧ n ≤ 256) : ∃ r j g, spec_l01Below.f b i h n = some (r, j, g) ∧ 0 ≤ r ∧ r < n ∧ 0 ≤ j ∧ j ≤ b.length := by
  unfold spec_l01Below.f
  obtain ⟨r, j, g, e, a1, a2, a3, a4⟩ := byte_t b i h h0 h1 hb
  rw [if_neg (by omega), if_pos (by omega), e]; simp only [Option.bind_some]
  rw [if_neg (by omega)]
  exact ⟨_, _, _, rfl, (tmod_b r n a1 (by omega)).1, (tmod_b r n a1 (by omega)).2, a3, a4⟩
theorem new_l0 (l : List Int) (hl : l.length ≤ 1000000000000) (d : Nat) : ∀ (k j : Nat) (h : Int), j ≤ 4000 → 4000 - j ≤ d → d < k → ∃ g, spec_l01New.l0 k l h (j : Int) = some (l, 0, g) := by
  induction d with
  | zero =>
    intro k j h hj hd hk
    obtain ⟨k, rfl⟩ : ∃ m, k = m + 1 := ⟨k - 1, by omega⟩
    rw [spec_l01New.l0]
    by_cases c : (j : Int) < l.length
    · rw [if_pos c, if_neg (by omega)]; exact ⟨_, rfl⟩
    · rw [if_neg c]; exact ⟨_, rfl⟩
  | succ d ih =>
    intro k j h hj hd hk
    obtain ⟨k, rfl⟩ : ∃ m, k = m + 1 := ⟨k - 1, by omega⟩
    rw [spec_l01New.l0]
    by_cases c : (j : Int) < l.length
    · rw [if_pos c]
      by_cases c2 : (j : Int) < 4000
      · rw [if_pos c2, if_pos (by omega), wr (x := (j : Int) + 1) (by omega) (by omega)]
        rw [show (j : Int) + 1 = ((j + 1 : Nat) : Int) by omega]
        exact ih k (j + 1) _ (by omega) (by omega) (by omega)
      · rw [if_neg c2]; exact ⟨_, rfl⟩
    · rw [if_neg c]; exact ⟨_, rfl⟩
theorem new_t (k : Nat) (l : List Int) (hl : l.length ≤ 1000000000000) (hk : 4001 < k) : ∃ g, spec_l01New.f k l = some (l, 0, g) := by
  unfold spec_l01New.f
  exact new_l0 l hl 4000 k 0 _ (by omega) (by omega) (by omega)
/-- All trits. -/
def allT (l : List Int) : Prop := ∀ x ∈ l, -1 ≤ x ∧ x ≤ 1
theorem allT_snoc (l : List Int) (x : Int) (h : allT l) (hx : -1 ≤ x ∧ x ≤ 1) : allT (l ++ [x]) := by
  intro y hy; rcases List.mem_append.mp hy with h1 | h1
  · exact h y h1
  · have := List.mem_singleton.mp h1; omega

theorem allT_set (l : List Int) (i : Nat) (x : Int) (h : allT l) (hx : -1 ≤ x ∧ x ≤ 1) : allT (l.set i x) := by
  intro y hy; rcases List.mem_or_eq_of_mem_set hy with h1 | h1
  · exact h y h1
  · omega
theorem draw_l1 (b : List Int) (i h : Int) (n : Nat) (hn : n ≤ 1000) (d : Nat) : ∀ (k j : Nat) (x : List Int), j + d = n → d < k → x.length = n → allT x →
    ∃ w, spec_l2Draw.l1 k x (n : Int) (j : Int) b i h = some (w, i, h) ∧ w.length = n ∧ allT w := by
  induction d with
  | zero =>
    intro k j x hj hk hx ht
    obtain ⟨k, rfl⟩ : ∃ m, k = m + 1 := ⟨k - 1, by omega⟩
    simp only [spec_l2Draw.l1]
    rw [if_neg (by omega)]; exact ⟨x, rfl, hx, ht⟩
  | succ d ih =>
    intro k j x hj hk hx ht
    obtain ⟨k, rfl⟩ : ∃ m, k = m + 1 := ⟨k - 1, by omega⟩
    simp only [spec_l2Draw.l1]
    rw [if_pos (by omega), if_pos (by omega), if_pos (by omega), wr (x := (j : Int) + 1) (by omega) (by omega)]
    exact_mod_cast ih k (j + 1) _ (by omega) (by omega) (by simp [hx]) (allT_set _ _ _ ht (by omega))
theorem draw_l2 (b : List Int) (i h : Int) (n : Nat) (hn : n ≤ 1000) (d : Nat) : ∀ (k j : Nat) (x : List Int), j + d = n → d < k → x.length = n → allT x →
    ∃ w, spec_l2Draw.l2 k x (n : Int) (j : Int) b i h = some (w, i, h) ∧ w.length = n ∧ allT w := by
  induction d with
  | zero =>
    intro k j x hj hk hx ht
    obtain ⟨k, rfl⟩ : ∃ m, k = m + 1 := ⟨k - 1, by omega⟩
    simp only [spec_l2Draw.l2]
    rw [if_neg (by omega)]; exact ⟨x, rfl, hx, ht⟩
  | succ d ih =>
    intro k j x hj hk hx ht
    obtain ⟨k, rfl⟩ : ∃ m, k = m + 1 := ⟨k - 1, by omega⟩
    simp only [spec_l2Draw.l2]
    rw [if_pos (by omega), if_pos (by omega), if_pos (by omega), wr (x := (j : Int) + 1) (by omega) (by omega)]
    exact_mod_cast ih k (j + 1) _ (by omega) (by omega) (by simp [hx]) (allT_set _ _ _ ht (by omega))
theorem draw_l3 (b : List Int) (i h : Int) (n : Nat) (hn : n ≤ 1000) (d : Nat) : ∀ (k j : Nat) (x : List Int), j + d = n → d < k → x.length = n → allT x →
    ∃ w, spec_l2Draw.l3 k x (n : Int) (j : Int) b i h = some (w, i, h) ∧ w.length = n ∧ allT w := by
  induction d with
  | zero =>
    intro k j x hj hk hx ht
    obtain ⟨k, rfl⟩ : ∃ m, k = m + 1 := ⟨k - 1, by omega⟩
    simp only [spec_l2Draw.l3]
    rw [if_neg (by omega)]; exact ⟨x, rfl, hx, ht⟩
  | succ d ih =>
    intro k j x hj hk hx ht
    obtain ⟨k, rfl⟩ : ∃ m, k = m + 1 := ⟨k - 1, by omega⟩
    simp only [spec_l2Draw.l3]
    rw [if_pos (by omega), if_pos (by omega), if_pos (by omega), wr (x := (j : Int) + 1) (by omega) (by omega)]
    exact_mod_cast ih k (j + 1) _ (by omega) (by omega) (by simp [hx]) (allT_set _ _ _ ht (by omega))
theorem draw_l0 (b : List Int) (hb : b.length ≤ 1000000000000) (n : Nat) (hn : n ≤ 100) (d : Nat) : ∀ (k j : Nat) (acc : List Int) (i h : Int), j + d = n → d + 200 < k → acc.length = j → allT acc → 0 ≤ i → i ≤ b.length →
    ∃ w i' h', spec_l2Draw.l0 k acc (d : Int) b i h = some (w, i', h') ∧ w.length = n ∧ allT w := by
  induction d with
  | zero =>
    intro k j acc i h hj hk ha ht h0 h1
    obtain ⟨k, rfl⟩ : ∃ m, k = m + 1 := ⟨k - 1, by omega⟩
    simp only [spec_l2Draw.l0]
    obtain ⟨r, j', g, e, a1, a2, a3, a4⟩ := below_t b i h 12 h0 h1 hb (by omega)
    rw [if_neg (by omega), e]; simp only [Option.bind_some]
    have hlen : acc.length = n := by omega
    by_cases c0 : r = 0
    · obtain ⟨w, e1, e2, e3⟩ := draw_l1 b j' g n (by omega) n k 0 acc (by omega) (by omega) hlen ht
      rw [if_pos c0, hlen]; exact ⟨w, j', g, by exact_mod_cast e1, e2, e3⟩
    · rw [if_neg c0]
      by_cases c1 : r = 1
      · obtain ⟨w, e1, e2, e3⟩ := draw_l2 b j' g n (by omega) n k 0 acc (by omega) (by omega) hlen ht
        rw [if_pos c1, hlen]; exact ⟨w, j', g, by exact_mod_cast e1, e2, e3⟩
      · rw [if_neg c1]
        by_cases c2 : r = 2
        · obtain ⟨w, e1, e2, e3⟩ := draw_l3 b j' g n (by omega) n k 0 acc (by omega) (by omega) hlen ht
          rw [if_pos c2, hlen]; exact ⟨w, j', g, by exact_mod_cast e1, e2, e3⟩
        · rw [if_neg c2]; exact ⟨acc, j', g, rfl, hlen, ht⟩
  | succ d ih =>
    intro k j acc i h hj hk ha ht h0 h1
    obtain ⟨k, rfl⟩ : ∃ m, k = m + 1 := ⟨k - 1, by omega⟩
    simp only [spec_l2Draw.l0]
    obtain ⟨r, j', g, e, a1, a2, a3, a4⟩ := below_t b i h 3 h0 h1 hb (by omega)
    rw [if_pos (by omega), e]; simp only [Option.bind_some]
    rw [if_pos (by omega), wr (x := r - 1) (by omega) (by omega), wr (x := ((d + 1 : Nat) : Int) - 1) (by omega) (by omega), show ((d + 1 : Nat) : Int) - 1 = (d : Int) by omega]
    exact ih k (j + 1) (acc ++ [r - 1]) j' g (by omega) (by omega) (by simp; omega) (allT_snoc _ _ ht (by omega)) a3 a4
theorem makeWord_t (k : Nat) (l : List Int) (hl : l.length ≤ 1000000000000) (n : Int) (hn : 1 ≤ n ∧ n ≤ 30) (hk : 4040 < k) : ∃ w, spec_MakeWord.f k l n = some w ∧ 1 ≤ w.length ∧ (w.length : Int) ≤ n ∧ allT w := by
  unfold spec_MakeWord.f spec_l2Draw.f
  obtain ⟨g, e⟩ := new_t k l hl (by omega)
  have hx : mx 1 (mn n 30) = n := by unfold mx mn; split <;> split <;> omega
  obtain ⟨r, j', g', e1, a1, a2, a3, a4⟩ := below_t l 0 g n (by omega) (by omega) hl (by omega)
  rw [e]; simp only [Option.bind_some, hx]
  rw [e1]; simp only [Option.bind_some]
  rw [wr (x := 1 + r) (by omega) (by omega)]
  obtain ⟨m, hm⟩ : ∃ m : Nat, 1 + r = m := ⟨(1 + r).toNat, by omega⟩
  rw [hm]
  obtain ⟨w, i', h', e2, e3, e4⟩ := draw_l0 l hl m (by omega) m k 0 [] j' g' (by omega) (by omega) rfl (by intro y hy; simp at hy) a3 a4
  rw [e2]
  exact ⟨w, rfl, by omega, by omega, e4⟩

theorem at_t (l : List Int) (hl : l.length ≤ 1048576) (hb : ∀ x ∈ l, 0 ≤ x ∧ x ≤ 255) (j : Nat) (hj : j ≤ 100) : ∃ r, laws_at.f l (j : Int) = some r ∧ 0 ≤ r ∧ r ≤ 255 := by
  unfold laws_at.f
  by_cases c : (j : Int) < l.length
  · have hm : l.getD j 0 ∈ l := by rw [List.getD_eq_getElem?_getD, List.getElem?_eq_getElem (by omega)]; exact List.getElem_mem (by omega)
    have := hb _ hm
    rw [if_pos c, if_pos (by omega), rd_nat, wr (by omega) (by omega)]
    exact ⟨_, rfl, this.1, this.2⟩
  · rw [if_neg c, wr (x := (j : Int) * 37) (by omega) (by omega), wr (x := (l.length : Int) * 11) (by omega) (by omega), wr (by omega) (by omega), Int.tmod_eq_emod_of_nonneg (by omega)]
    exact ⟨_, rfl, by omega, by omega⟩
theorem wf8 {l : List Int} (h : ∀ x ∈ l, (Lit.int .u8 x).wf = true) : ∀ x ∈ l, 0 ≤ x ∧ x ≤ 255 := by
  intro x hx
  have h' := h x hx
  simp only [Lit.wf, Bool.and_eq_true, decide_eq_true_eq] at h'
  exact h'

theorem laws_ints_l0 (a b : List Int) (hab : a.length = b.length) (hl : a.length ≤ 9000000000000000000) (d : Nat) : ∀ (k j : Nat), j + d = a.length → d < k →
    laws_ints.l0 k a b (a.length : Int) (j : Int) = some (decide (a.drop j = b.drop j)) := by
  induction d with
  | zero =>
    intro k j hj hk
    obtain ⟨k, rfl⟩ : ∃ m, k = m + 1 := ⟨k - 1, by omega⟩
    simp only [laws_ints.l0]
    rw [if_neg (by omega), List.drop_eq_nil_of_le (by omega), List.drop_eq_nil_of_le (by omega)]; simp
  | succ d ih =>
    intro k j hj hk
    obtain ⟨k, rfl⟩ : ∃ m, k = m + 1 := ⟨k - 1, by omega⟩
    simp only [laws_ints.l0]
    rw [if_pos (by omega), if_pos (by omega), if_pos (by omega), if_pos (by omega), rd_nat, rd_nat, wr (by omega) (by omega), drop_cons a j (by omega), drop_cons b j (by omega)]
    have e := ih k (j + 1) (by omega) (by omega)
    by_cases h : a.getD j 0 = b.getD j 0
    · rw [if_pos h, h]; simp only [List.cons.injEq, true_and]; exact_mod_cast e
    · rw [if_neg h]; simp only [List.cons.injEq, h, false_and, decide_false]
theorem laws_ints_t (k : Nat) (a : List Int) (hl : a.length ≤ 9000000000000000000) (hk : a.length < k) : laws_ints.f k a a = some true := by
  unfold laws_ints.f
  rw [if_pos rfl]
  have e := laws_ints_l0 a a rfl hl a.length k 0 (by omega) hk
  simpa using e

/-- A word. -/
def isW (l : List Int) : Bool := decide (1 ≤ l.length) && decide (l.length ≤ 30) && l.all isT
theorem isW_iff {l : List Int} : isW l = true ↔ (1 ≤ l.length ∧ l.length ≤ 30 ∧ ∀ x ∈ l, -1 ≤ x ∧ x ≤ 1) := by
  simp [isW, isT, List.all_eq_true, and_assoc]
/-- The value of digits, the lowest first. -/
def val : List Int → Int
  | [] => 0
  | a :: l => 3 * val l + a

theorem impl_IsTrit_t (a : Int) : impl_IsTrit.f a = some (isT a) := by
  unfold impl_IsTrit.f isT
  by_cases h : a ≥ -1
  · have h' : -1 ≤ a := h
    rw [if_pos h]; simp [h']
  · have h' : ¬ -1 ≤ a := h
    rw [if_neg h]; simp [h']

theorem impl_trits_l0 (l : List Int) (hl : l.length ≤ 9000000000000000000) (d : Nat) : ∀ (k j : Nat), j + d = l.length → d < k →
    impl_trits.l0 k l (l.length : Int) (j : Int) = some ((l.drop j).all isT) := by
  induction d with
  | zero =>
    intro k j hj hk
    obtain ⟨k, rfl⟩ : ∃ m, k = m + 1 := ⟨k - 1, by omega⟩
    simp only [impl_trits.l0]
    rw [if_neg (by omega), List.drop_eq_nil_of_le (by omega)]; rfl
  | succ d ih =>
    intro k j hj hk
    obtain ⟨k, rfl⟩ : ∃ m, k = m + 1 := ⟨k - 1, by omega⟩
    simp only [impl_trits.l0]
    rw [if_pos (by omega), if_pos (by omega), if_pos (by omega), impl_IsTrit_t, rd_nat, drop_cons l j (by omega)]
    simp only [Option.bind_some, List.all_cons]
    have e := ih k (j + 1) (by omega) (by omega)
    rw [wr (by omega) (by omega)]
    cases isT (l.getD j 0) with
    | false => rfl
    | true => simp only [if_true, Bool.true_and]; exact_mod_cast e
theorem impl_trits_t (k : Nat) (l : List Int) (hl : l.length ≤ 9000000000000000000) (hk : l.length < k) : impl_trits.f k l = some (l.all isT) := by
  have e := impl_trits_l0 l hl l.length k 0 (by omega) hk
  unfold impl_trits.f; simpa using e

theorem impl_IsWord_t (k : Nat) (l : List Int) (hk : 30 < k) : impl_IsWord.f k l = some (isW l) := by
  unfold impl_IsWord.f isW
  by_cases h1 : 1 ≤ l.length
  · rw [if_pos (by omega)]
    by_cases h2 : l.length ≤ 30
    · rw [if_pos (by omega), impl_trits_t k l (by omega) (by omega)]; simp [h1, h2]
    · rw [if_neg (by omega)]; simp [h2]
  · rw [if_neg (by omega)]; simp [h1]

/-- (3^k - 1) / 2. -/
def lim : Nat → Int
  | 0 => 0
  | k + 1 => 3 * lim k + 1
/-- 3^k. -/
def pw : Nat → Int
  | 0 => 1
  | k + 1 => pw k * 3
theorem pw_lim (k : Nat) : pw k = 2 * lim k + 1 := by
  induction k with
  | zero => rfl
  | succ k ih => simp only [pw, lim]; omega
theorem lim_mono {j k : Nat} (h : j ≤ k) : lim j ≤ lim k := by
  induction k with
  | zero => have : j = 0 := by omega
            subst this; exact Int.le_refl _
  | succ k ih =>
    by_cases e : j = k + 1
    · subst e; exact Int.le_refl _
    · have := ih (by omega)
      have h0 : ∀ m, 0 ≤ lim m := by
        intro m; induction m with
        | zero => exact Int.le_refl _
        | succ m im => simp only [lim]; omega
      have := h0 k
      simp only [lim]; omega
theorem lim_nonneg (k : Nat) : 0 ≤ lim k := lim_mono (Nat.zero_le k)
theorem lim30 : lim 30 = 102945566047324 := by decide
theorem lim_le {k : Nat} (h : k ≤ 30) : lim k ≤ 102945566047324 := by rw [← lim30]; exact lim_mono h
/-- LimitOf. -/
def limOf (k : Int) : Int := if 1 ≤ k ∧ k ≤ 30 then lim k.toNat else 0

theorem val_drop (l : List Int) (j : Nat) (h : j < l.length) : val (l.drop j) = 3 * val (l.drop (j + 1)) + l.getD j 0 := by
  rw [drop_cons l j h]; rfl
/-- Digits from -d to d have a value within d times the limit. -/
theorem val_bound (d : Int) (hd : 0 ≤ d) (l : List Int) (h : ∀ x ∈ l, -d ≤ x ∧ x ≤ d) : -(d * lim l.length) ≤ val l ∧ val l ≤ d * lim l.length := by
  induction l with
  | nil => simp [val, lim]
  | cons a l ih =>
    have h1 := ih (fun x hx => h x (List.mem_cons_of_mem _ hx))
    have h2 := h a (List.mem_cons_self ..)
    simp only [val, List.length_cons, lim]
    have e : d * (3 * lim l.length + 1) = 3 * (d * lim l.length) + d := by rw [Int.mul_add, Int.mul_one, Int.mul_left_comm]
    rw [e]; omega
theorem val_bound30 (d : Int) (hd : 0 ≤ d) (hd2 : d ≤ 2) (l : List Int) (hl : l.length ≤ 30) (h : ∀ x ∈ l, -d ≤ x ∧ x ≤ d) : -300000000000000 ≤ val l ∧ val l ≤ 300000000000000 := by
  have h1 := val_bound d hd l h
  have h2 := lim_le hl
  have h3 := lim_nonneg l.length
  have h4 : d * lim l.length ≤ 2 * lim l.length := Int.mul_le_mul_of_nonneg_right hd2 h3
  omega
theorem mem_getD (l : List Int) (j : Nat) (h : j < l.length) : l.getD j 0 ∈ l := by
  rw [List.getD_eq_getElem?_getD, List.getElem?_eq_getElem h]; exact List.getElem_mem h

theorem impl_value_l0 (d : Int) (hd : 0 ≤ d) (hd2 : d ≤ 2) (l : List Int) (hl : l.length ≤ 30) (hb : ∀ x ∈ l, -d ≤ x ∧ x ≤ d) (j : Nat) : ∀ (k : Nat), j ≤ l.length → j < k →
    impl_value.l0 k l (val (l.drop j)) ((j : Int) - 1) = some (val l) := by
  induction j with
  | zero =>
    intro k hj hk
    obtain ⟨k, rfl⟩ : ∃ m, k = m + 1 := ⟨k - 1, by omega⟩
    simp only [impl_value.l0]
    rw [if_neg (by omega)]; simp
  | succ j ih =>
    intro k hj hk
    obtain ⟨k, rfl⟩ : ∃ m, k = m + 1 := ⟨k - 1, by omega⟩
    simp only [impl_value.l0]
    have e := ih k (by omega) (by omega)
    have b1 := val_bound30 d hd hd2 (l.drop (j + 1)) (by simp; omega) (fun x hx => hb x (List.mem_of_mem_drop hx))
    have b2 := hb _ (mem_getD l j (by omega))
    have v := val_drop l j (by omega)
    rw [if_pos (by omega), if_pos (by omega), if_pos (by omega), show ((j + 1 : Nat) : Int) - 1 = (j : Int) by omega, rd_nat,
      wr (x := 3 * val (l.drop (j + 1))) (by omega) (by omega), wr (x := _ + _) (by omega) (by omega), wr (x := (j : Int) - 1) (by omega) (by omega), ← v]
    exact e
theorem impl_value_t (d : Int) (hd : 0 ≤ d) (hd2 : d ≤ 2) (k : Nat) (l : List Int) (hl : l.length ≤ 30) (hb : ∀ x ∈ l, -d ≤ x ∧ x ≤ d) (hk : 30 < k) : impl_value.f k l = some (val l) := by
  have e := impl_value_l0 d hd hd2 l hl hb l.length k (by omega) (by omega)
  unfold impl_value.f
  rw [wr (by omega) (by omega)]
  simpa [val] using e

theorem impl_ValueOf_w (k : Nat) (l : List Int) (h : isW l = true) (hk : 40 < k) : impl_ValueOf.f k l = some (val l) := by
  unfold impl_ValueOf.f
  have hw := isW_iff.mp h
  rw [impl_IsWord_t k l (by omega)]; simp only [Option.bind_some]
  rw [if_pos h, impl_value_t 1 (by omega) (by omega) k l hw.2.1 hw.2.2 (by omega)]; rfl

/-- SliceWord. -/
def sliceW (l : List Int) (a b : Int) : List Int × Bool := if isW l = true ∧ 0 ≤ a ∧ b ≤ l.length ∧ a < b then ((l.take b.toNat).drop a.toNat, true) else ([], false)
theorem sliceW_len (l : List Int) (a b : Int) : (sliceW l a b).1.length ≤ 30 := by
  unfold sliceW; split
  · rename_i h; have hw := isW_iff.mp h.1; simp; omega
  · simp

theorem slices_Clone_t (l : List Int) (hl : l.length ≤ 1000000000) : slices_Clone_int_int.f l = some l := by
  unfold slices_Clone_int_int.f; rw [if_pos (by omega)]

theorem impl_SliceWord_t (k : Nat) (l : List Int) (a b : Int) (hk : 40 < k) : impl_SliceWord.f k l a b = some (sliceW l a b) := by
  unfold impl_SliceWord.f sliceW
  rw [impl_IsWord_t k l (by omega)]; simp only [Option.bind_some]
  by_cases h : isW l = true
  · have hw := isW_iff.mp h
    rw [if_pos h]
    by_cases h1 : a < 0
    · rw [if_pos h1, if_neg (by omega)]
    · rw [if_neg h1]
      by_cases h2 : b > l.length
      · rw [if_pos h2, if_neg (by omega)]
      · rw [if_neg h2]
        by_cases h3 : a ≥ b
        · rw [if_pos h3, if_neg (by omega)]
        · rw [if_neg h3, if_pos (by omega), if_pos (by omega), if_pos (by omega), slices_Clone_t _ (by simp; omega), if_pos ⟨h, by omega, by omega, by omega⟩]; rfl
  · rw [if_neg h, if_neg (fun x => h x.1)]

/-- JoinWords. -/
def joinW (a b : List Int) : List Int × Bool := if isW a = true ∧ isW b = true ∧ a.length + b.length ≤ 30 then (a ++ b, true) else ([], false)
theorem joinW_len (a b : List Int) : (joinW a b).1.length ≤ 30 := by
  unfold joinW; split
  · rename_i h; simp; omega
  · simp

theorem concat_t (a b : List Int) (h : a.length + b.length ≤ 1000000) : slices_Concat_int_int.f [a, b] = some (a ++ b) := by
  unfold slices_Concat_int_int.f
  rw [if_pos (by simp; omega)]; simp

theorem impl_JoinWords_t (k : Nat) (a b : List Int) (hk : 40 < k) : impl_JoinWords.f k a b = some (joinW a b) := by
  unfold impl_JoinWords.f joinW
  rw [impl_IsWord_t k a (by omega), impl_IsWord_t k b (by omega)]; simp only [Option.bind_some]
  by_cases h : isW a = true
  · have hw := isW_iff.mp h
    rw [if_pos h]
    by_cases h' : isW b = true
    · have hw' := isW_iff.mp h'
      rw [if_pos h', wr (by omega) (by omega)]
      by_cases h2 : a.length + b.length ≤ 30
      · rw [if_neg (by omega), concat_t a b (by omega), if_pos ⟨h, h', h2⟩]; rfl
      · rw [if_pos (by omega), if_neg (fun x => h2 x.2.2)]
    · rw [if_neg h', if_neg (fun x => h' x.2.1)]
  · rw [if_neg h, if_neg (fun x => h x.1)]

/-- The balanced rest by 3. -/
def dig (n : Int) : Int := (n + 1) % 3 - 1
/-- The trits of a number, the lowest first. -/
def wordL : Nat → Int → List Int
  | 0, _ => []
  | k + 1, n => dig n :: wordL k ((n - dig n) / 3)
theorem wordL_len (k : Nat) : ∀ n, (wordL k n).length = k := by
  induction k with
  | zero => intro n; rfl
  | succ k ih => intro n; simp [wordL, ih]
theorem td3 (n : Int) : Int.tdiv (n - dig n) 3 = (n - dig n) / 3 := by
  rw [Int.tdiv_eq_ediv_of_dvd]; unfold dig; omega
theorem dig_b (n : Int) : -1 ≤ dig n ∧ dig n ≤ 1 := by unfold dig; omega

theorem limOf_nonneg (k : Int) : 0 ≤ limOf k ∧ limOf k ≤ 102945566047324 := by
  unfold limOf; split
  · exact ⟨lim_nonneg _, lim_le (by omega)⟩
  · omega

/-- WordOf. -/
def wordOf (n m : Int) : List Int × Bool := if (1 ≤ m ∧ m ≤ 30) ∧ (-limOf m ≤ n ∧ n ≤ limOf m) then (wordL m.toNat n, true) else ([], false)
theorem wordOf_len (n m : Int) : (wordOf n m).1.length ≤ 30 := by
  unfold wordOf; split
  · rw [wordL_len]; omega
  · simp

/-- ExtendWord. -/
def extW (l : List Int) (m : Int) : List Int × Bool := if isW l = true then wordOf (val l) m else ([], false)
theorem extW_len (l : List Int) (m : Int) : (extW l m).1.length ≤ 30 := by
  unfold extW; split
  · exact wordOf_len _ _
  · simp

/-- The trit of a small number, and the carry. -/
def crd (n : Int) : Int × Int := if n > 1 then (n - 3, 1) else if n < -1 then (n + 3, -1) else (n, 0)

theorem tm3 (n : Int) : Int.tmod n 3 = n % 3 - if 0 ≤ n ∨ n % 3 = 0 then 0 else 3 := by
  rw [Int.tmod_eq_emod]
  by_cases h : 0 ≤ n
  · simp [h]
  · have : (3 ∣ n) ↔ n % 3 = 0 := by omega
    simp only [h, false_or, this]
    split <;> simp
theorem tm3_dig (n : Int) : (crd (Int.tmod n 3)).1 = dig n := by
  rw [tm3]; unfold crd dig
  by_cases a : 0 ≤ n ∨ n % 3 = 0
  · rw [if_pos a]
    by_cases b : n % 3 - 0 > 1
    · rw [if_pos b]; simp only; omega
    · rw [if_neg b]
      by_cases c : n % 3 - 0 < -1
      · rw [if_pos c]; simp only; omega
      · rw [if_neg c]; simp only; omega
  · rw [if_neg a]
    by_cases b : n % 3 - 3 > 1
    · rw [if_pos b]; simp only; omega
    · rw [if_neg b]
      by_cases c : n % 3 - 3 < -1
      · rw [if_pos c]; simp only; omega
      · rw [if_neg c]; simp only; omega

theorem impl_power_l0 (n : Nat) (hn : n ≤ 38) (d : Nat) : ∀ (k j : Nat), j + d = n → d < k →
    impl_power.l0 k (pw j) (n : Int) (j : Int) = some (pw n) := by
  induction d with
  | zero =>
    intro k j hj hk
    obtain ⟨k, rfl⟩ : ∃ m, k = m + 1 := ⟨k - 1, by omega⟩
    simp only [impl_power.l0]
    rw [if_neg (by omega), show j = n by omega]
  | succ d ih =>
    intro k j hj hk
    obtain ⟨k, rfl⟩ : ∃ m, k = m + 1 := ⟨k - 1, by omega⟩
    simp only [impl_power.l0]
    have h1 := lim_mono (j := j) (k := 37) (by omega)
    have h2 : lim 37 = 225141952945498681 := by decide
    have := lim_nonneg j
    have h3 := pw_lim j
    rw [if_pos (by omega), wr (x := pw j * 3) (by omega) (by omega), wr (by omega) (by omega)]
    have e := ih k (j + 1) (by omega) (by omega)
    exact_mod_cast e
theorem impl_power_t (k : Nat) (n : Nat) (hn : n ≤ 38) (hk : n < k) : impl_power.f k (n : Int) = some (pw n) := by
  have e := impl_power_l0 n hn n k 0 (by omega) hk
  unfold impl_power.f; simpa [pw] using e

theorem impl_LimitOf_t (k : Nat) (hk : 31 < k) (n : Int) : impl_LimitOf.f k n = some (limOf n) := by
  unfold impl_LimitOf.f limOf
  by_cases h1 : n < 1
  · rw [if_pos h1, if_neg (by omega)]
  · rw [if_neg h1]
    by_cases h2 : n > 30
    · rw [if_pos h2, if_neg (by omega)]
    · rw [if_neg h2, if_pos (by omega)]
      obtain ⟨m, rfl⟩ : ∃ m : Nat, n = m := ⟨n.toNat, by omega⟩
      have hm : m ≤ 30 := by omega
      rw [impl_power_t k m (by omega) (by omega)]
      have h3 := pw_lim m
      have := lim_le hm
      have := lim_nonneg m
      simp only [Option.bind_some, Int.toNat_natCast]
      rw [wr (x := pw m - 1) (by omega) (by omega), h3, Int.tdiv_eq_ediv_of_nonneg (by omega), wr (by omega) (by omega)]
      congr 1; omega

theorem impl_fits_t (k : Nat) (hk : 31 < k) (n m : Int) : impl_fits.f k n m = some (decide (-limOf m ≤ n ∧ n ≤ limOf m)) := by
  unfold impl_fits.f
  have := limOf_nonneg m
  rw [impl_LimitOf_t k hk]; simp only [Option.bind_some]
  rw [wr (by omega) (by omega)]
  by_cases h : n ≥ -limOf m
  · have h' : -limOf m ≤ n := h
    rw [if_pos h]; simp [h']
  · have h' : ¬ -limOf m ≤ n := h
    rw [if_neg h]; simp only [h', false_and, decide_false]

theorem impl_carried_t (n : Int) (h : -1000 ≤ n ∧ n ≤ 1000) : impl_carried.f n = some (crd n) := by
  unfold impl_carried.f crd
  by_cases h1 : n > 1
  · rw [if_pos h1, if_pos h1, wr (by omega) (by omega)]
  · rw [if_neg h1, if_neg h1]
    by_cases h2 : n < -1
    · rw [if_pos h2, if_pos h2, wr (by omega) (by omega)]
    · rw [if_neg h2, if_neg h2]

theorem impl_WordOf_l0 (m : Nat) (hm : m ≤ 30) (d : Nat) : ∀ (k j : Nat) (n : Int) (acc : List Int), j + d = m → d < k → acc.length ≤ 1000 + j → -1000000000000000 ≤ n → n ≤ 1000000000000000 →
    impl_WordOf.l0 k n acc (m : Int) (j : Int) = some (acc ++ wordL d n, true) := by
  induction d with
  | zero =>
    intro k j n acc hj hk ha h1 h2
    obtain ⟨k, rfl⟩ : ∃ m, k = m + 1 := ⟨k - 1, by omega⟩
    simp only [impl_WordOf.l0]
    rw [if_neg (by omega)]; simp [wordL]
  | succ d ih =>
    intro k j n acc hj hk ha h1 h2
    obtain ⟨k, rfl⟩ : ∃ m, k = m + 1 := ⟨k - 1, by omega⟩
    simp only [impl_WordOf.l0]
    have hb := dig_b n
    have hd := td3 n
    have e := ih k (j + 1) ((n - dig n) / 3) (acc ++ [dig n]) (by omega) (by omega) (by simp; omega) (by omega) (by omega)
    have t := tm3 n
    have hl : acc.length < 17592186044416 := by omega
    have hr : -2 ≤ Int.tmod n 3 ∧ Int.tmod n 3 ≤ 2 := by rw [t]; split <;> omega
    rw [if_pos (by omega), impl_carried_t _ (by omega)]
    simp only [Option.bind_some, tm3_dig]
    rw [if_pos hl, wr (x := n - dig n) (by omega) (by omega), hd, wr (x := (n - dig n) / 3) (by omega) (by omega), wr (x := (j : Int) + 1) (by omega) (by omega)]
    have e' : acc ++ [dig n] ++ wordL d ((n - dig n) / 3) = acc ++ wordL (d + 1) n := by simp [wordL]
    rw [← e']; exact_mod_cast e
theorem impl_WordOf_t (k : Nat) (hk : 40 < k) (n m : Int) : impl_WordOf.f k n m = some (wordOf n m) := by
  unfold impl_WordOf.f wordOf
  obtain ⟨k, rfl⟩ : ∃ m, k = m + 1 := ⟨k - 1, by omega⟩
  simp only [impl_WordOf.j0]
  have hL := limOf_nonneg m
  by_cases h1 : m < 1
  · rw [if_pos h1]; simp only [if_true]; rw [if_neg (by omega)]
  · rw [if_neg h1]
    by_cases h2 : m > 30
    · rw [if_pos h2]; simp only [if_true]; rw [if_neg (by omega)]
    · rw [if_neg h2, impl_fits_t (k + 1) (by omega)]
      simp only [Option.bind_some]
      by_cases h3 : -limOf m ≤ n ∧ n ≤ limOf m
      · rw [if_neg (by simp [h3]), if_pos ⟨by omega, h3⟩]
        obtain ⟨q, rfl⟩ : ∃ q : Nat, m = q := ⟨m.toNat, by omega⟩
        have e := impl_WordOf_l0 q (by omega) q k 0 n [] (by omega) (by omega) (by simp) (by omega) (by omega)
        simpa using e
      · rw [if_pos (by simp only [h3, decide_false, Bool.not_false]), if_neg (fun x => h3 x.2)]

theorem impl_ExtendWord_t (k : Nat) (l : List Int) (m : Int) (hk : 50 < k) : impl_ExtendWord.f k l m = some (extW l m) := by
  unfold impl_ExtendWord.f extW
  rw [impl_IsWord_t k l (by omega)]; simp only [Option.bind_some]
  by_cases h : isW l = true
  · have hw := isW_iff.mp h
    rw [if_pos h, if_pos h, impl_value_t 1 (by omega) (by omega) k l hw.2.1 hw.2.2 (by omega)]; simp only [Option.bind_some]
    rw [impl_WordOf_t k (by omega)]; rfl
  · rw [if_neg h, if_neg h]

theorem val_append (a b : List Int) : val (a ++ b) = val a + pw a.length * val b := by
  induction a with
  | nil => simp [val, pw]
  | cons x xs ih => simp only [List.cons_append, val, List.length_cons, pw, ih, Int.mul_add, Int.mul_assoc, Int.mul_left_comm 3]; omega
theorem val_zeros (k : Nat) : val (List.replicate k 0) = 0 := by
  induction k with
  | zero => rfl
  | succ k ih => simp [List.replicate_succ, val, ih]
theorem val_wordL (k : Nat) : ∀ n : Int, -lim k ≤ n → n ≤ lim k → val (wordL k n) = n := by
  induction k with
  | zero => intro n h1 h2; simp only [lim] at h1 h2; simp only [wordL, val]; omega
  | succ k ih =>
    intro n h1 h2
    simp only [lim] at h1 h2
    have hd := dig_b n
    have e := ih ((n - dig n) / 3) (by unfold dig at *; omega) (by unfold dig at *; omega)
    simp only [wordL, val, e]
    unfold dig; omega
theorem wordL_trits (k : Nat) : ∀ n : Int, ∀ x ∈ wordL k n, -1 ≤ x ∧ x ≤ 1 := by
  induction k with
  | zero => intro n x hx; simp [wordL] at hx
  | succ k ih =>
    intro n x hx
    simp only [wordL] at hx
    rcases List.mem_cons.mp hx with h | h
    · rw [h]; exact dig_b n
    · exact ih _ x h
theorem wordL_val (l : List Int) (h : ∀ x ∈ l, -1 ≤ x ∧ x ≤ 1) : wordL l.length (val l) = l := by
  induction l with
  | nil => rfl
  | cons a l ih =>
    have h2 := h a (List.mem_cons_self ..)
    have e := ih (fun x hx => h x (List.mem_cons_of_mem _ hx))
    have hd : dig (3 * val l + a) = a := by unfold dig; omega
    simp only [List.length_cons, val, wordL, hd]
    rw [show (3 * val l + a - a) / 3 = val l by omega, e]
theorem val_b1 (l : List Int) (h : ∀ x ∈ l, -1 ≤ x ∧ x ≤ 1) : -lim l.length ≤ val l ∧ val l ≤ lim l.length := by
  have := val_bound 1 (by omega) l h; omega
theorem isW_wordL (k : Nat) (n : Int) (h1 : 1 ≤ k) (h2 : k ≤ 30) : isW (wordL k n) = true := isW_iff.mpr ⟨by rw [wordL_len]; omega, by rw [wordL_len]; omega, wordL_trits k n⟩

theorem pw_pos (k : Nat) : 0 < pw k := by have := lim_nonneg k; have := pw_lim k; omega
theorem pw_le (k : Nat) (h : k ≤ 30) : pw k ≤ 205891132094649 := by have := lim_le h; have := pw_lim k; omega
theorem pw_add (a b : Nat) : pw (a + b) = pw a * pw b := by
  induction b with
  | zero => simp [pw]
  | succ b ih => rw [Nat.add_succ]; simp only [pw, ih, Int.mul_assoc]
theorem spec_l5Lift_l0 (n : Nat) (hn : n ≤ 30) (d : Nat) : ∀ (k j : Nat), j + d = n → d < k → spec_l5Lift.l0 k (pw j) (d : Int) = some (pw n) := by
  induction d with
  | zero =>
    intro k j hj hk
    obtain ⟨k, rfl⟩ : ∃ m, k = m + 1 := ⟨k - 1, by omega⟩
    simp only [spec_l5Lift.l0]
    rw [if_neg (by omega), show j = n by omega]
  | succ d ih =>
    intro k j hj hk
    obtain ⟨k, rfl⟩ : ∃ m, k = m + 1 := ⟨k - 1, by omega⟩
    simp only [spec_l5Lift.l0]
    have e := ih k (j + 1) (by omega) (by omega)
    have := pw_pos j
    have := pw_le j (by omega)
    rw [if_pos (by omega), wr (x := 3 * pw j) (by omega) (by omega), wr (by omega) (by omega), show ((d + 1 : Nat) : Int) - 1 = (d : Int) by omega, Int.mul_comm 3]
    exact e
theorem spec_MakePower_t (k n : Nat) (hn : n ≤ 30) (hk : 40 < k) : spec_MakePower.f k (n : Int) = some (pw n) := by
  unfold spec_MakePower.f spec_l5Lift.f
  have hx : mx 0 (mn (n : Int) 30) = n := by unfold mx mn; split <;> split <;> omega
  have e := spec_l5Lift_l0 n hn n k 0 (by omega) (by omega)
  rw [hx, show (1 : Int) = pw 0 from rfl, e]; rfl

theorem FnSliced : laws_FnSliced.Pure := by
  intro l h1 h2 h3
  refine ⟨5000, ?_⟩
  unfold laws_FnSliced.f
  split
  · rfl
  · have hb8 := wf8 h3
    obtain ⟨x1, e1, a1, a2⟩ := at_t l (by omega) hb8 1 (by omega)
    obtain ⟨x2, e2, a3, a4⟩ := at_t l (by omega) hb8 2 (by omega)
    have e1' : laws_at.f l 1 = some x1 := e1
    have e2' : laws_at.f l 2 = some x2 := e2
    obtain ⟨w, ew, w1, w2, tw⟩ := makeWord_t 5000 l (by omega) 24 (by omega) (by omega)
    rw [ew]; simp only [Option.bind_some]
    by_cases c : (w.length : Int) < 2
    · rw [if_pos c]
    · rw [if_neg c, e1']; simp only [Option.bind_some]
      rw [wr (x := (w.length : Int) - 1) (by omega) (by omega), if_neg (by omega)]
      have t1 := tmod_b x1 ((w.length : Int) - 1) a1 (by omega)
      have t2 := tmod_b x2 6 a3 (by omega)
      obtain ⟨m, hm⟩ : ∃ m : Nat, 1 + Int.tmod x1 ((w.length : Int) - 1) = m := ⟨(1 + Int.tmod x1 ((w.length : Int) - 1)).toNat, by omega⟩
      obtain ⟨q, hq⟩ : ∃ q : Nat, (w.length : Int) + Int.tmod x2 6 = q := ⟨((w.length : Int) + Int.tmod x2 6).toNat, by omega⟩
      have hw : isW w = true := isW_iff.mpr ⟨by omega, by omega, tw⟩
      have tl : ∀ x ∈ w.take m, -1 ≤ x ∧ x ≤ 1 := fun x hx => tw x (List.mem_of_mem_take hx)
      have th : ∀ x ∈ w.drop m, -1 ≤ x ∧ x ≤ 1 := fun x hx => tw x (List.mem_of_mem_drop hx)
      have hl : isW (w.take m) = true := isW_iff.mpr ⟨by simp; omega, by simp; omega, tl⟩
      have hh : isW (w.drop m) = true := isW_iff.mpr ⟨by simp; omega, by simp; omega, th⟩
      have s1 : sliceW w 0 m = (w.take m, true) := by unfold sliceW; rw [if_pos ⟨hw, by omega, by omega, by omega⟩]; simp
      have s2 : sliceW w m w.length = (w.drop m, true) := by unfold sliceW; rw [if_pos ⟨hw, by omega, by omega, by omega⟩]; simp
      have s3 : joinW (w.take m) (w.drop m) = (w, true) := by unfold joinW; rw [if_pos ⟨hl, hh, by simp; omega⟩, List.take_append_drop]
      have vb := val_b1 w tw
      have lm := lim_mono (j := w.length) (k := q) (by omega)
      have hL : limOf (q : Int) = lim q := by unfold limOf; rw [if_pos (by omega)]; simp
      have s4 : extW w q = (wordL q (val w), true) := by
        unfold extW wordOf; rw [if_pos hw, hL, if_pos ⟨by omega, by omega, by omega⟩]; simp
      have vx := val_wordL q (val w) (by omega) (by omega)
      have hx : isW (wordL q (val w)) = true := isW_wordL q _ (by omega) (by omega)
      have va := val_append (w.take m) (w.drop m)
      rw [List.take_append_drop, List.length_take, Nat.min_eq_left (by omega)] at va
      rw [wr (x := 1 + Int.tmod x1 ((w.length : Int) - 1)) (by omega) (by omega), hm, impl_SliceWord_t _ _ _ _ (by omega), impl_SliceWord_t _ _ _ _ (by omega), s1, s2]; simp only [Option.bind_some]
      rw [impl_JoinWords_t _ _ _ (by omega), s3]; simp only [Option.bind_some]
      rw [e2']; simp only [Option.bind_some]
      rw [wr (x := (w.length : Int) + Int.tmod x2 6) (by omega) (by omega), hq, impl_ExtendWord_t _ _ _ (by omega), s4]; simp only [Option.bind_some, if_true]
      rw [laws_ints_t _ w (by omega) (by omega)]; simp only [Option.bind_some, if_true]
      have b1 := val_bound30 1 (by omega) (by omega) (w.take m) (by simp; omega) tl
      have b2 := val_bound30 1 (by omega) (by omega) (w.drop m) (by simp; omega) th
      have b3 := val_bound30 1 (by omega) (by omega) w (by omega) tw
      rw [impl_ValueOf_w _ w hw (by omega), impl_ValueOf_w _ _ hl (by omega), spec_MakePower_t _ m (by omega) (by omega), impl_ValueOf_w _ _ hh (by omega), impl_ValueOf_w _ _ hx (by omega)]; simp only [Option.bind_some]
      rw [wr (x := pw m * val (w.drop m)) (by omega) (by omega), wr (by omega) (by omega), if_pos va, vx]; simp

end Go.Proofs.Ytaieeaniadgjiaa.Pure.InFnSliced
namespace Go.Proofs.Ytaieeaniadgjiaa.Pure
theorem FnSliced : QFnSliced.laws_FnSliced.Pure := InFnSliced.FnSliced
end Go.Proofs.Ytaieeaniadgjiaa.Pure
