/- FnRounded: to replace low trits by 0 is to round to the nearest multiple, and to shift them away is to divide and round, whatever the bytes. No condition. -/
import Derived.Test.YtaieeaniadgjiaaQFnRoundedx4
set_option linter.unusedVariables false
set_option linter.unusedSimpArgs false
namespace Go.Proofs.Ytaieeaniadgjiaa.Pure.InFnRounded
open Go.RowKit Go.Proofs.Ytaieeaniadgjiaa.QFnRounded Go.Proofs.YtaieeaniadgjiaaW.PrintWords Go.Proofs.YtaieeaniadgjiaaW.PrintLast Go.Proofs.YtaieeaniadgjiaaW.PrintMore

theorem wr {x : Int} (h1 : -9223372036854775808 ≤ x) (h2 : x ≤ 9223372036854775807) : wrap64 x = x := by unfold wrap64; omega
theorem wfB {a : Int} (h : (Lit.int .i64 a).wf = true) : -9223372036854775808 ≤ a ∧ a ≤ 9223372036854775807 := by
  have h' := h
  simp only [Lit.wf, Bool.and_eq_true, decide_eq_true_eq] at h'
  exact h'
/-- A trit. -/
def isT (a : Int) : Bool := decide (-1 ≤ a ∧ a ≤ 1)
theorem isT_iff {a : Int} : isT a = true ↔ (-1 ≤ a ∧ a ≤ 1) := by simp [isT]

theorem rd_nat (l : List Int) (j : Nat) : rd l (j : Int) = l.getD j 0 := by unfold rd; simp
theorem drop_cons (l : List Int) (j : Nat) (h : j < l.length) : l.drop j = l.getD j 0 :: l.drop (j + 1) := by
  rw [List.drop_eq_getElem_cons h]; simp [List.getD_eq_getElem?_getD, h]
theorem take_snoc (l : List Int) (j : Nat) (h : j < l.length) : l.take (j + 1) = l.take j ++ [l.getD j 0] := by
  rw [List.take_succ_eq_append_getElem h]; simp [List.getD_eq_getElem?_getD, h]

theorem and255 (x : Int) : 0 ≤ Go.bits .and .i64 x 255 ∧ Go.bits .and .i64 x 255 ≤ 255 := by
  have h : Go.bits .and .i64 x 255 = IntKind.i64.wrap (((BitVec.ofInt 64 x &&& BitVec.ofInt 64 255).toNat : Nat) : Int) := rfl
  rw [h, BitVec.toNat_and]
  have e : (BitVec.ofInt 64 255).toNat = 255 := by decide
  rw [e]
  have := Nat.and_le_right (n := (BitVec.ofInt 64 x).toNat) (m := 255)
  generalize (BitVec.ofInt 64 x).toNat &&& 255 = n at *
  rw [IntKind.wrap_i64]; omega
theorem byte_t (b : List Int) (i h : Int) (h0 : 0 ≤ i) (h1 : i ≤ b.length) (hb : b.length ≤ 1000000000000) : ∃ r j g, spec_l01Byte.f b i h = some (r, j, g) ∧ 0 ≤ r ∧ r ≤ 255 ∧ 0 ≤ j ∧ j ≤ b.length := by
  unfold spec_l01Byte.f
  by_cases c : i < b.length
  · rw [if_pos c, if_pos h0, wr (x := i + 1) (by omega) (by omega)]
    refine ⟨_, _, _, rfl, (and255 _).1, (and255 _).2, by omega, by omega⟩
  · rw [if_neg c]
    exact ⟨_, _, _, rfl, (and255 _).1, (and255 _).2, h0, h1⟩
theorem tmod_b (r n : Int) (h : 0 ≤ r) (hn : 0 < n) : 0 ≤ Int.tmod r n ∧ Int.tmod r n < n := by
  rw [Int.tmod_eq_emod_of_nonneg h]; exact ⟨Int.emod_nonneg _ (by omega), Int.emod_lt_of_pos _ hn⟩
theorem below_t (b : List Int) (i h n : Int) (h0 : 0 ≤ i) (h1 : i ≤ b.length) (hb : b.length ≤ 1000000000000) (hn : 1 ≤ n ∧ n ≤ 256) : ∃ r j g, spec_l01Below.f b i h n = some (r, j, g) ∧ 0 ≤ r ∧ r < n ∧ 0 ≤ j ∧ j ≤ b.length := by
  unfold spec_l01Below.f
  obtain ⟨r, j, g, e, a1, a2, a3, a4⟩ := byte_t b i h h0 h1 hb
  rw [if_neg (by omega), if_pos (by omega), e]; simp only [Option.bind_some]
  rw [if_neg (by omega)]
  exact ⟨_, _, _, rfl, (tmod_b r n a1 (by omega)).1, (tmod_b r n a1 (by omega)).2, a3, a4⟩
theorem new_l0 (l : List Int) (hl : l.length ≤ 1000000000000) (d : Nat) : ∀ (k j : Nat) (h : Int), j ≤ 4000 → 4000 - j ≤ d → d < k → ∃ g, spec_l01New.l0 k l h (j : Int) = some (l, 0, g) := by
  induction d with
  | zero =>
    intro k j h hj hd hk
    obtain ⟨k, rfl⟩ : ∃ m, k = m + 1 := ⟨k - 1, by omega⟩
    rw [spec_l01New.l0]
    by_cases c : (j : Int) < l.length
    · rw [if_pos c, if_neg (by omega)]; exact ⟨_, rfl⟩
    · rw [if_neg c]; exact ⟨_, rfl⟩
  | succ d ih =>
    intro k j h hj hd hk
    obtain ⟨k, rfl⟩ : ∃ m, k = m + 1 := ⟨k - 1, by omega⟩
    rw [spec_l01New.l0]
    by_cases c : (j : Int) < l.length
    · rw [if_pos c]
      by_cases c2 : (j : Int) < 4000
      · rw [if_pos c2, if_pos (by omega), wr (x := (j : Int) + 1) (by omega) (by omega)]
        rw [show (j : Int) + 1 = ((j + 1 : Nat) : Int) by omega]
        exact ih k (j + 1) _ (by omega) (by omega) (by omega)
      · rw [if_neg c2]; exact ⟨_, rfl⟩
    · rw [if_neg c]; exact ⟨_, rfl⟩
theorem new_t (k : Nat) (l : List Int) (hl : l.length ≤ 1000000000000) (hk : 4001 < k) : ∃ g, spec_l01New.f k l = some (l, 0, g) := by
  unfold spec_l01New.f
  exact new_l0 l hl 4000 k 0 _ (by omega) (by omega) (by omega)
/-- All trits. -/
def allT (l : List Int) : Prop := ∀ x ∈ l, -1 ≤ x ∧ x ≤ 1
theorem allT_snoc (l : List Int) (x : Int) (h : allT l) (hx : -1 ≤ x ∧ x ≤ 1) : allT (l ++ [x]) := by
  intro y hy; rcases List.mem_append.mp hy with h1 | h1
  · exact h y h1
  · have := List.mem_singleton.mp h1; omega

theorem allT_set (l : List Int) (i : Nat) (x : Int) (h : allT l) (hx : -1 ≤ x ∧ x ≤ 1) : allT (l.set i x) := by
  intro y hy; rcases List.mem_or_eq_of_mem_set hy with h1 | h1
  · exact h y h1
  · omega
theorem draw_l1 (b : List Int) (i h : Int) (n : Nat) (hn : n ≤ 1000) (d : Nat) : ∀ (k j : Nat) (x : List Int), j + d = n → d < k → x.length = n → allT x →
    ∃ w, spec_l2Draw.l1 k x (n : Int) (j : Int) b i h = some (w, i, h) ∧ w.length = n ∧ allT w := by
  induction d with
  | zero =>
    intro k j x hj hk hx ht
    obtain ⟨k, rfl⟩ : ∃ m, k = m + 1 := ⟨k - 1, by omega⟩
    simp only [spec_l2Draw.l1]
    rw [if_neg (by omega)]; exact ⟨x, rfl, hx, ht⟩
  | succ d ih =>
    intro k j x hj hk hx ht
    obtain ⟨k, rfl⟩ : ∃ m, k = m + 1 := ⟨k - 1, by omega⟩
    simp only [spec_l2Draw.l1]
    rw [if_pos (by omega), if_pos (by omega), if_pos (by omega), wr (x := (j : Int) + 1) (by omega) (by omega)]
    exact_mod_cast ih k (j + 1) _ (by omega) (by omega) (by simp [hx]) (allT_set _ _ _ ht (by omega))
theorem draw_l2 (b : List Int) (i h : Int) (n : Nat) (hn : n ≤ 1000) (d : Nat) : ∀ (k j : Nat) (x : List Int), j + d = n → d < k → x.length = n → allT x →
    ∃ w, spec_l2Draw.l2 k x (n : Int) (j : Int) b i h = some (w, i, h) ∧ w.length = n ∧ allT w := by
  induction d with
  | zero =>
    intro k j x hj hk hx ht
    obtain ⟨k, rfl⟩ : ∃ m, k = m + 1 := ⟨k - 1, by omega⟩
    simp only [spec_l2Draw.l2]
    rw [if_neg (by omega)]; exact ⟨x, rfl, hx, ht⟩
  | succ d ih =>
    intro k j x hj hk hx ht
    obtain ⟨k, rfl⟩ : ∃ m, k = m + 1 := ⟨k - 1, by omega⟩
    simp only [spec_l2Draw.l2]
    rw [if_pos (by omega), if_pos (by omega), if_pos (by omega), wr (x := (j : Int) + 1) (by omega) (by omega)]
    exact_mod_cast ih k (j + 1) _ (by omega) (by omega) (by simp [hx]) (allT_set _ _ _ ht (by omega))
theorem draw_l3 (b : List Int) (i h : Int) (n : Nat) (hn : n ≤ 1000) (d : Nat) : ∀ (k j : Nat) (x : List Int), j + d = n → d < k → x.length = n → allT x →
    ∃ w, spec_l2Draw.l3 k x (n : Int) (j : Int) b i h = some (w, i, h) ∧ w.length = n ∧ allT w := by
  induction d with
  | zero =>
    intro k j x hj hk hx ht
    obtain ⟨k, rfl⟩ : ∃ m, k = m + 1 := ⟨k - 1, by omega⟩
    simp only [spec_l2Draw.l3]
    rw [if_neg (by omega)]; exact ⟨x, rfl, hx, ht⟩
  | succ d ih =>
    intro k j x hj hk hx ht
    obtain ⟨k, rfl⟩ : ∃ m, k = m + 1 := ⟨k - 1, by omega⟩
    simp only [spec_l2Draw.l3]
    rw [if_pos (by omega), if_pos (by omega), if_pos (by omega), wr (x := (j : Int) + 1) (by omega) (by omega)]
    exact_mod_cast ih k (j + 1) _ (by omega) (by omega) (by simp [hx]) (allT_set _ _ _ ht (by omega))
theorem draw_l0 (b : List Int) (hb : b.length ≤ 1000000000000) (n : Nat) (hn : n ≤ 100) (d : Nat) : ∀ (k j : Nat) (acc : List Int) (i h : Int), j + d = n → d + 200 < k → acc.length = j → allT acc → 0 ≤ i → i ≤ b.length →
    ∃ w i' h', spec_l2Draw.l0 k acc (d : Int) b i h = some (w, i', h') ∧ w.length = n ∧ allT w := by
  induction d with
  | zero =>
    intro k j acc i h hj hk ha ht h0 h1
    obtain ⟨k, rfl⟩ : ∃ m, k = m + 1 := ⟨k - 1, by omega⟩
    simp only [spec_l2Draw.l0]
    obtain ⟨r, j', g, e, a1, a2, a3, a4⟩ := below_t b i h 12 h0 h1 hb (by omega)
    rw [if_neg (by omega), e]; simp only [Option.bind_some]
    have hlen : acc.length = n := by omega
    by_cases c0 : r = 0
    · obtain ⟨w, e1, e2, e3⟩ := draw_l1 b j' g n (by omega) n k 0 acc (by omega) (by omega) hlen ht
      rw [if_pos c0, hlen]; exact ⟨w, j', g, by exact_mod_cast e1, e2, e3⟩
    · rw [if_neg c0]
      by_cases c1 : r = 1
      · obtain ⟨w, e1, e2, e3⟩ := draw_l2 b j' g n (by omega) n k 0 acc (by omega) (by omega) hlen ht
        rw [if_pos c1, hlen]; exact ⟨w, j', g, by exact_mod_cast e1, e2, e3⟩
      · rw [if_neg c1]
        by_cases c2 : r = 2
        · obtain ⟨w, e1, e2, e3⟩ := draw_l3 b j' g n (by omega) n k 0 acc (by omega) (by omega) hlen ht
          rw [if_pos c2, hlen]; exact ⟨w, j', g, by exact_mod_cast e1, e2, e3⟩
        · rw [if_neg c2]; exact ⟨acc, j', g, rfl, hlen, ht⟩
  | succ d ih =>
    intro k j acc i h hj hk ha ht h0 h1
    obtain ⟨k, rfl⟩ : ∃ m, k = m + 1 := ⟨k - 1, by omega⟩
    simp only [spec_l2Draw.l0]
    obtain ⟨r, j', g, e, a1, a2, a3, a4⟩ := below_t b i h 3 h0 h1 hb (by omega)
    rw [if_pos (by omega), e]; simp only [Option.bind_some]
    rw [if_pos (by omega), wr (x := r - 1) (by omega) (by omega), wr (x := ((d + 1 : Nat) : Int) - 1) (by omega) (by omega), show ((d + 1 : Nat) : Int) - 1 = (d : Int) by omega]
    exact ih k (j + 1) (acc ++ [r - 1]) j' g (by omega) (by omega) (by simp; omega) (allT_snoc _ _ ht (by omega)) a3 a4
theorem makeWord_t (k : Nat) (l : List Int) (hl : l.length ≤ 1000000000000) (n : Int) (hn : 1 ≤ n ∧ n ≤ 30) (hk : 4040 < k) : ∃ w, spec_MakeWord.f k l n = some w ∧ 1 ≤ w.length ∧ (w.length : Int) ≤ n ∧ allT w := by
  unfold spec_MakeWord.f spec_l2Draw.f
  obtain ⟨g, e⟩ := new_t k l hl (by omega)
  have hx : mx 1 (mn n 30) = n := by unfold mx mn; split <;> split <;> omega
  obtain ⟨r, j', g', e1, a1, a2, a3, a4⟩ := below_t l 0 g n (by omega) (by omega) hl (by omega)
  rw [e]; simp only [Option.bind_some, hx]
  rw [e1]; simp only [Option.bind_some]
  rw [wr (x := 1 + r) (by omega) (by omega)]
  obtain ⟨m, hm⟩ : ∃ m : Nat, 1 + r = m := ⟨(1 + r).toNat, by omega⟩
  rw [hm]
  obtain ⟨w, i', h', e2, e3, e4⟩ := draw_l0 l hl m (by omega) m k 0 [] j' g' (by omega) (by omega) rfl (by intro y hy; simp at hy) a3 a4
  rw [e2]
  exact ⟨w, rfl, by omega, by omega, e4⟩

theorem at_t (l : List Int) (hl : l.length ≤ 1048576) (hb : ∀ x ∈ l, 0 ≤ x ∧ x ≤ 255) (j : Nat) (hj : j ≤ 100) : ∃ r, laws_at.f l (j : Int) = some r ∧ 0 ≤ r ∧ r ≤ 255 := by
  unfold laws_at.f
  by_cases c : (j : Int) < l.length
  · have hm : l.getD j 0 ∈ l := by rw [List.getD_eq_getElem?_getD, List.getElem?_eq_getElem (by omega)]; exact List.getElem_mem (by omega)
    have := hb _ hm
    rw [if_pos c, if_pos (by omega), rd_nat, wr (by omega) (by omega)]
    exact ⟨_, rfl, this.1, this.2⟩
  · rw [if_neg c, wr (x := (j : Int) * 37) (by omega) (by omega), wr (x := (l.length : Int) * 11) (by omega) (by omega), wr (by omega) (by omega), Int.tmod_eq_emod_of_nonneg (by omega)]
    exact ⟨_, rfl, by omega, by omega⟩
theorem wf8 {l : List Int} (h : ∀ x ∈ l, (Lit.int .u8 x).wf = true) : ∀ x ∈ l, 0 ≤ x ∧ x ≤ 255 := by
  intro x hx
  have h' := h x hx
  simp only [Lit.wf, Bool.and_eq_true, decide_eq_true_eq] at h'
  exact h'

theorem laws_ints_l0 (a b : List Int) (hab : a.length = b.length) (hl : a.length ≤ 9000000000000000000) (d : Nat) : ∀ (k j : Nat), j + d = a.length → d < k →
    laws_ints.l0 k a b (a.length : Int) (j : Int) = some (decide (a.drop j = b.drop j)) := by
  induction d with
  | zero =>
    intro k j hj hk
    obtain ⟨k, rfl⟩ : ∃ m, k = m + 1 := ⟨k - 1, by omega⟩
    simp only [laws_ints.l0]
    rw [if_neg (by omega), List.drop_eq_nil_of_le (by omega), List.drop_eq_nil_of_le (by omega)]; simp
  | succ d ih =>
    intro k j hj hk
    obtain ⟨k, rfl⟩ : ∃ m, k = m + 1 := ⟨k - 1, by omega⟩
    simp only [laws_ints.l0]
    rw [if_pos (by omega), if_pos (by omega), if_pos (by omega), if_pos (by omega), rd_nat, rd_nat, wr (by omega) (by omega), drop_cons a j (by omega), drop_cons b j (by omega)]
    have e := ih k (j + 1) (by omega) (by omega)
    by_cases h : a.getD j 0 = b.getD j 0
    · rw [if_pos h, h]; simp only [List.cons.injEq, true_and]; exact_mod_cast e
    · rw [if_neg h]; simp only [List.cons.injEq, h, false_and, decide_false]
theorem laws_ints_t (k : Nat) (a : List Int) (hl : a.length ≤ 9000000000000000000) (hk : a.length < k) : laws_ints.f k a a = some true := by
  unfold laws_ints.f
  rw [if_pos rfl]
  have e := laws_ints_l0 a a rfl hl a.length k 0 (by omega) hk
  simpa using e

/-- A word. -/
def isW (l : List Int) : Bool := decide (1 ≤ l.length) && decide (l.length ≤ 30) && l.all isT
theorem isW_iff {l : List Int} : isW l = true ↔ (1 ≤ l.length ∧ l.length ≤ 30 ∧ ∀ x ∈ l, -1 ≤ x ∧ x ≤ 1) := by
  simp [isW, isT, List.all_eq_true, and_assoc]
/-- The value of digits, the lowest first. -/
def val : List Int → Int
  | [] => 0
  | a :: l => 3 * val l + a

theorem impl_IsTrit_t (a : Int) : impl_IsTrit.f a = some (isT a) := by
  unfold impl_IsTrit.f isT
  by_cases h : a ≥ -1
  · have h' : -1 ≤ a := h
    rw [if_pos h]; simp [h']
  · have h' : ¬ -1 ≤ a := h
    rw [if_neg h]; simp [h']

theorem impl_trits_l0 (l : List Int) (hl : l.length ≤ 9000000000000000000) (d : Nat) : ∀ (k j : Nat), j + d = l.length → d < k →
    impl_trits.l0 k l (l.length : Int) (j : Int) = some ((l.drop j).all isT) := by
  induction d with
  | zero =>
    intro k j hj hk
    obtain ⟨k, rfl⟩ : ∃ m, k = m + 1 := ⟨k - 1, by omega⟩
    simp only [impl_trits.l0]
    rw [if_neg (by omega), List.drop_eq_nil_of_le (by omega)]; rfl
  | succ d ih =>
    intro k j hj hk
    obtain ⟨k, rfl⟩ : ∃ m, k = m + 1 := ⟨k - 1, by omega⟩
    simp only [impl_trits.l0]
    rw [if_pos (by omega), if_pos (by omega), if_pos (by omega), impl_IsTrit_t, rd_nat, drop_cons l j (by omega)]
    simp only [Option.bind_some, List.all_cons]
    have e := ih k (j + 1) (by omega) (by omega)
    rw [wr (by omega) (by omega)]
    cases isT (l.getD j 0) with
    | false => rfl
    | true => simp only [if_true, Bool.true_and]; exact_mod_cast e
theorem impl_trits_t (k : Nat) (l : List Int) (hl : l.length ≤ 9000000000000000000) (hk : l.length < k) : impl_trits.f k l = some (l.all isT) := by
  have e := impl_trits_l0 l hl l.length k 0 (by omega) hk
  unfold impl_trits.f; simpa using e

theorem impl_IsWord_t (k : Nat) (l : List Int) (hk : 30 < k) : impl_IsWord.f k l = some (isW l) := by
  unfold impl_IsWord.f isW
  by_cases h1 : 1 ≤ l.length
  · rw [if_pos (by omega)]
    by_cases h2 : l.length ≤ 30
    · rw [if_pos (by omega), impl_trits_t k l (by omega) (by omega)]; simp [h1, h2]
    · rw [if_neg (by omega)]; simp [h2]
  · rw [if_neg (by omega)]; simp [h1]

/-- (3^k - 1) / 2. -/
def lim : Nat → Int
  | 0 => 0
  | k + 1 => 3 * lim k + 1
/-- 3^k. -/
def pw : Nat → Int
  | 0 => 1
  | k + 1 => pw k * 3
theorem pw_lim (k : Nat) : pw k = 2 * lim k + 1 := by
  induction k with
  | zero => rfl
  | succ k ih => simp only [pw, lim]; omega
theorem lim_mono {j k : Nat} (h : j ≤ k) : lim j ≤ lim k := by
  induction k with
  | zero => have : j = 0 := by omega
            subst this; exact Int.le_refl _
  | succ k ih =>
    by_cases e : j = k + 1
    · subst e; exact Int.le_refl _
    · have := ih (by omega)
      have h0 : ∀ m, 0 ≤ lim m := by
        intro m; induction m with
        | zero => exact Int.le_refl _
        | succ m im => simp only [lim]; omega
      have := h0 k
      simp only [lim]; omega
theorem lim_nonneg (k : Nat) : 0 ≤ lim k := lim_mono (Nat.zero_le k)
theorem lim30 : lim 30 = 102945566047324 := by decide
theorem lim_le {k : Nat} (h : k ≤ 30) : lim k ≤ 102945566047324 := by rw [← lim30]; exact lim_mono h
/-- LimitOf. -/
def limOf (k : Int) : Int := if 1 ≤ k ∧ k ≤ 30 then lim k.toNat else 0

theorem val_drop (l : List Int) (j : Nat) (h : j < l.length) : val (l.drop j) = 3 * val (l.drop (j + 1)) + l.getD j 0 := by
  rw [drop_cons l j h]; rfl
/-- Digits from -d to d have a value within d times the limit. -/
theorem val_bound (d : Int) (hd : 0 ≤ d) (l : List Int) (h : ∀ x ∈ l, -d ≤ x ∧ x ≤ d) : -(d * lim l.length) ≤ val l ∧ val l ≤ d * lim l.length := by
  induction l with
  | nil => simp [val, lim]
  | cons a l ih =>
    have h1 := ih (fun x hx => h x (List.mem_cons_of_mem _ hx))
    have h2 := h a (List.mem_cons_self ..)
    simp only [val, List.length_cons, lim]
    have e : d * (3 * lim l.length + 1) = 3 * (d * lim l.length) + d := by rw [Int.mul_add, Int.mul_one, Int.mul_left_comm]
    rw [e]; omega
theorem val_bound30 (d : Int) (hd : 0 ≤ d) (hd2 : d ≤ 2) (l : List Int) (hl : l.length ≤ 30) (h : ∀ x ∈ l, -d ≤ x ∧ x ≤ d) : -300000000000000 ≤ val l ∧ val l ≤ 300000000000000 := by
  have h1 := val_bound d hd l h
  have h2 := lim_le hl
  have h3 := lim_nonneg l.length
  have h4 : d * lim l.length ≤ 2 * lim l.length := Int.mul_le_mul_of_nonneg_right hd2 h3
  omega
theorem mem_getD (l : List Int) (j : Nat) (h : j < l.length) : l.getD j 0 ∈ l := by
  rw [List.getD_eq_getElem?_getD, List.getElem?_eq_getElem h]; exact List.getElem_mem h

theorem impl_value_l0 (d : Int) (hd : 0 ≤ d) (hd2 : d ≤ 2) (l : List Int) (hl : l.length ≤ 30) (hb : ∀ x ∈ l, -d ≤ x ∧ x ≤ d) (j : Nat) : ∀ (k : Nat), j ≤ l.length → j < k →
    impl_value.l0 k l (val (l.drop j)) ((j : Int) - 1) = some (val l) := by
  induction j with
  | zero =>
    intro k hj hk
    obtain ⟨k, rfl⟩ : ∃ m, k = m + 1 := ⟨k - 1, by omega⟩
    simp only [impl_value.l0]
    rw [if_neg (by omega)]; simp
  | succ j ih =>
    intro k hj hk
    obtain ⟨k, rfl⟩ : ∃ m, k = m + 1 := ⟨k - 1, by omega⟩
    simp only [impl_value.l0]
    have e := ih k (by omega) (by omega)
    have b1 := val_bound30 d hd hd2 (l.drop (j + 1)) (by simp; omega) (fun x hx => hb x (List.mem_of_mem_drop hx))
    have b2 := hb _ (mem_getD l j (by omega))
    have v := val_drop l j (by omega)
    rw [if_pos (by omega), if_pos (by omega), if_pos (by omega), show ((j + 1 : Nat) : Int) - 1 = (j : Int) by omega, rd_nat,
      wr (x := 3 * val (l.drop (j + 1))) (by omega) (by omega), wr (x := _ + _) (by omega) (by omega), wr (x := (j : Int) - 1) (by omega) (by omega), ← v]
    exact e
theorem impl_value_t (d : Int) (hd : 0 ≤ d) (hd2 : d ≤ 2) (k : Nat) (l : List Int) (hl : l.length ≤ 30) (hb : ∀ x ∈ l, -d ≤ x ∧ x ≤ d) (hk : 30 < k) : impl_value.f k l = some (val l) := by
  have e := impl_value_l0 d hd hd2 l hl hb l.length k (by omega) (by omega)
  unfold impl_value.f
  rw [wr (by omega) (by omega)]
  simpa [val] using e

theorem impl_ValueOf_w (k : Nat) (l : List Int) (h : isW l = true) (hk : 40 < k) : impl_ValueOf.f k l = some (val l) := by
  unfold impl_ValueOf.f
  have hw := isW_iff.mp h
  rw [impl_IsWord_t k l (by omega)]; simp only [Option.bind_some]
  rw [if_pos h, impl_value_t 1 (by omega) (by omega) k l hw.2.1 hw.2.2 (by omega)]; rfl

/-- RoundWord. -/
def roundW (l : List Int) (m : Int) : List Int × Bool := if isW l = true ∧ 0 ≤ m ∧ m ≤ l.length then (List.replicate m.toNat 0 ++ l.drop m.toNat, true) else ([], false)
theorem roundW_len (l : List Int) (m : Int) : (roundW l m).1.length ≤ 30 := by
  unfold roundW; split
  · rename_i h; have hw := isW_iff.mp h.1; simp; omega
  · simp

theorem concat_t (a b : List Int) (h : a.length + b.length ≤ 1000000) : slices_Concat_int_int.f [a, b] = some (a ++ b) := by
  unfold slices_Concat_int_int.f
  rw [if_pos (by simp; omega)]; simp

theorem impl_RoundWord_t (k : Nat) (l : List Int) (m : Int) (hk : 40 < k) : impl_RoundWord.f k l m = some (roundW l m) := by
  unfold impl_RoundWord.f roundW
  rw [impl_IsWord_t k l (by omega)]; simp only [Option.bind_some]
  by_cases h : isW l = true
  · have hw := isW_iff.mp h
    rw [if_pos h]
    by_cases h1 : m < 0
    · rw [if_pos h1, if_neg (by omega)]
    · rw [if_neg h1]
      by_cases h2 : m > l.length
      · rw [if_pos h2, if_neg (by omega)]
      · rw [if_neg h2, if_pos (by omega), if_pos (by omega), if_pos (by omega), concat_t _ _ (by simp; omega), if_pos ⟨h, by omega, by omega⟩]; rfl
  · rw [if_neg h, if_neg (fun x => h x.1)]

/-- ShiftWord. -/
def shiftW (l : List Int) (m : Int) : List Int × Bool :=
  if isW l = true ∧ m ≤ 30 - l.length then (if 0 ≤ m then List.replicate m.toNat 0 ++ l else if m ≤ -(l.length : Int) then [0] else l.drop (-m).toNat, true) else ([], false)
theorem shiftW_ok {l : List Int} {m : Int} (h : isW l = true) (h1 : m ≤ 30 - l.length) : shiftW l m = (if 0 ≤ m then List.replicate m.toNat 0 ++ l else if m ≤ -(l.length : Int) then [0] else l.drop (-m).toNat, true) := by
  unfold shiftW; rw [if_pos ⟨h, h1⟩]
theorem shiftW_no {l : List Int} {m : Int} (h : ¬ (isW l = true ∧ m ≤ 30 - l.length)) : shiftW l m = ([], false) := by
  unfold shiftW; rw [if_neg h]
theorem shiftW_len (l : List Int) (m : Int) : (shiftW l m).1.length ≤ 30 := by
  unfold shiftW; split
  · rename_i h; have hw := isW_iff.mp h.1
    simp only; split
    · simp; omega
    · split
      · simp
      · simp; omega
  · simp

theorem slices_Clone_t (l : List Int) (hl : l.length ≤ 1000000000) : slices_Clone_int_int.f l = some l := by
  unfold slices_Clone_int_int.f; rw [if_pos (by omega)]

theorem impl_ShiftWord_t (k : Nat) (l : List Int) (m : Int) (hk : 50 < k) : impl_ShiftWord.f k l m = some (shiftW l m) := by
  unfold impl_ShiftWord.f
  obtain ⟨k, rfl⟩ : ∃ m, k = m + 1 := ⟨k - 1, by omega⟩
  rw [impl_IsWord_t _ l (by omega)]; simp only [Option.bind_some, impl_ShiftWord.j0]
  by_cases h : isW l = true
  · have hw := isW_iff.mp h
    rw [if_pos h, wr (x := 30 - (l.length : Int)) (by omega) (by omega)]
    by_cases h1 : m ≤ 30 - l.length
    · rw [if_neg (by simp; omega), shiftW_ok h h1, wr (x := -(l.length : Int)) (by omega) (by omega)]
      by_cases h2 : m ≤ -(l.length : Int)
      · rw [if_pos h2, if_neg (by omega), if_pos h2]
      · rw [if_neg h2]
        by_cases h3 : m < 0
        · rw [if_pos h3, wr (x := -m) (by omega) (by omega), if_pos (by omega), if_pos (by omega), slices_Clone_t _ (by simp; omega), if_neg (by omega), if_neg h2]; rfl
        · rw [if_neg h3, if_pos (by omega), if_pos (by omega), concat_t _ _ (by simp; omega), if_pos (by omega)]; rfl
    · rw [if_pos (by simp; omega), shiftW_no (fun x => h1 x.2)]
  · rw [if_neg h]; simp only [if_true]; rw [shiftW_no (fun x => h x.1)]

/-- The balanced rest by 3. -/
def dig (n : Int) : Int := (n + 1) % 3 - 1
/-- The trits of a number, the lowest first. -/
def wordL : Nat → Int → List Int
  | 0, _ => []
  | k + 1, n => dig n :: wordL k ((n - dig n) / 3)
theorem wordL_len (k : Nat) : ∀ n, (wordL k n).length = k := by
  induction k with
  | zero => intro n; rfl
  | succ k ih => intro n; simp [wordL, ih]
theorem td3 (n : Int) : Int.tdiv (n - dig n) 3 = (n - dig n) / 3 := by
  rw [Int.tdiv_eq_ediv_of_dvd]; unfold dig; omega
theorem dig_b (n : Int) : -1 ≤ dig n ∧ dig n ≤ 1 := by unfold dig; omega

theorem val_append (a b : List Int) : val (a ++ b) = val a + pw a.length * val b := by
  induction a with
  | nil => simp [val, pw]
  | cons x xs ih => simp only [List.cons_append, val, List.length_cons, pw, ih, Int.mul_add, Int.mul_assoc, Int.mul_left_comm 3]; omega
theorem val_zeros (k : Nat) : val (List.replicate k 0) = 0 := by
  induction k with
  | zero => rfl
  | succ k ih => simp [List.replicate_succ, val, ih]
theorem val_wordL (k : Nat) : ∀ n : Int, -lim k ≤ n → n ≤ lim k → val (wordL k n) = n := by
  induction k with
  | zero => intro n h1 h2; simp only [lim] at h1 h2; simp only [wordL, val]; omega
  | succ k ih =>
    intro n h1 h2
    simp only [lim] at h1 h2
    have hd := dig_b n
    have e := ih ((n - dig n) / 3) (by unfold dig at *; omega) (by unfold dig at *; omega)
    simp only [wordL, val, e]
    unfold dig; omega
theorem wordL_trits (k : Nat) : ∀ n : Int, ∀ x ∈ wordL k n, -1 ≤ x ∧ x ≤ 1 := by
  induction k with
  | zero => intro n x hx; simp [wordL] at hx
  | succ k ih =>
    intro n x hx
    simp only [wordL] at hx
    rcases List.mem_cons.mp hx with h | h
    · rw [h]; exact dig_b n
    · exact ih _ x h
theorem wordL_val (l : List Int) (h : ∀ x ∈ l, -1 ≤ x ∧ x ≤ 1) : wordL l.length (val l) = l := by
  induction l with
  | nil => rfl
  | cons a l ih =>
    have h2 := h a (List.mem_cons_self ..)
    have e := ih (fun x hx => h x (List.mem_cons_of_mem _ hx))
    have hd : dig (3 * val l + a) = a := by unfold dig; omega
    simp only [List.length_cons, val, wordL, hd]
    rw [show (3 * val l + a - a) / 3 = val l by omega, e]
theorem val_b1 (l : List Int) (h : ∀ x ∈ l, -1 ≤ x ∧ x ≤ 1) : -lim l.length ≤ val l ∧ val l ≤ lim l.length := by
  have := val_bound 1 (by omega) l h; omega
theorem isW_wordL (k : Nat) (n : Int) (h1 : 1 ≤ k) (h2 : k ≤ 30) : isW (wordL k n) = true := isW_iff.mpr ⟨by rw [wordL_len]; omega, by rw [wordL_len]; omega, wordL_trits k n⟩

theorem pw_pos (k : Nat) : 0 < pw k := by have := lim_nonneg k; have := pw_lim k; omega
theorem pw_le (k : Nat) (h : k ≤ 30) : pw k ≤ 205891132094649 := by have := lim_le h; have := pw_lim k; omega
theorem pw_add (a b : Nat) : pw (a + b) = pw a * pw b := by
  induction b with
  | zero => simp [pw]
  | succ b ih => rw [Nat.add_succ]; simp only [pw, ih, Int.mul_assoc]
theorem spec_l5Lift_l0 (n : Nat) (hn : n ≤ 30) (d : Nat) : ∀ (k j : Nat), j + d = n → d < k → spec_l5Lift.l0 k (pw j) (d : Int) = some (pw n) := by
  induction d with
  | zero =>
    intro k j hj hk
    obtain ⟨k, rfl⟩ : ∃ m, k = m + 1 := ⟨k - 1, by omega⟩
    simp only [spec_l5Lift.l0]
    rw [if_neg (by omega), show j = n by omega]
  | succ d ih =>
    intro k j hj hk
    obtain ⟨k, rfl⟩ : ∃ m, k = m + 1 := ⟨k - 1, by omega⟩
    simp only [spec_l5Lift.l0]
    have e := ih k (j + 1) (by omega) (by omega)
    have := pw_pos j
    have := pw_le j (by omega)
    rw [if_pos (by omega), wr (x := 3 * pw j) (by omega) (by omega), wr (by omega) (by omega), show ((d + 1 : Nat) : Int) - 1 = (d : Int) by omega, Int.mul_comm 3]
    exact e
theorem spec_MakePower_t (k n : Nat) (hn : n ≤ 30) (hk : 40 < k) : spec_MakePower.f k (n : Int) = some (pw n) := by
  unfold spec_MakePower.f spec_l5Lift.f
  have hx : mx 0 (mn (n : Int) 30) = n := by unfold mx mn; split <;> split <;> omega
  have e := spec_l5Lift_l0 n hn n k 0 (by omega) (by omega)
  rw [hx, show (1 : Int) = pw 0 from rfl, e]; rfl

theorem FnRounded : laws_FnRounded.Pure := by
  intro l h1 h2 h3
  obtain ⟨K, hK⟩ : ∃ K : Nat, K = 5000 := ⟨_, rfl⟩
  refine ⟨K + 3, ?_⟩
  unfold laws_FnRounded.f
  split
  · rfl
  · have hb8 := wf8 h3
    obtain ⟨x1, e1, a1, a2⟩ := at_t l (by omega) hb8 1 (by omega)
    have e1' : laws_at.f l 1 = some x1 := e1
    obtain ⟨w, ew, w1, w2, tw⟩ := makeWord_t (K + 3) l (by omega) 25 (by omega) (by omega)
    rw [ew, Option.bind_some, e1', Option.bind_some, wr (x := (w.length : Int) + 1) (by omega) (by omega), if_neg (by omega)]
    have t1 := tmod_b x1 ((w.length : Int) + 1) a1 (by omega)
    obtain ⟨m, hm⟩ : ∃ m : Nat, Int.tmod x1 ((w.length : Int) + 1) = m := ⟨(Int.tmod x1 ((w.length : Int) + 1)).toNat, by omega⟩
    rw [hm, wr (x := -(m : Int)) (by omega) (by omega)]
    have hw : isW w = true := isW_iff.mpr ⟨by omega, by omega, tw⟩
    have tl : ∀ x ∈ w.take m, -1 ≤ x ∧ x ≤ 1 := fun x hx => tw x (List.mem_of_mem_take hx)
    have th : ∀ x ∈ w.drop m, -1 ≤ x ∧ x ≤ 1 := fun x hx => tw x (List.mem_of_mem_drop hx)
    have s1 : roundW w m = (List.replicate m 0 ++ w.drop m, true) := by unfold roundW; rw [if_pos ⟨hw, by omega, by omega⟩]; simp
    obtain ⟨s, es, ss, vs⟩ : ∃ s, shiftW w (-(m : Int)) = (s, true) ∧ isW s = true ∧ val s = val (w.drop m) := by
      unfold shiftW
      rw [if_pos ⟨hw, by omega⟩]
      by_cases c0 : 0 ≤ -(m : Int)
      · have : m = 0 := by omega
        subst this
        rw [if_pos c0]; exact ⟨w, by simp, hw, by simp⟩
      · rw [if_neg c0]
        by_cases c1 : -(m : Int) ≤ -(w.length : Int)
        · rw [if_pos c1]
          have hml : m = w.length := by omega
          exact ⟨[0], rfl, by decide, by rw [hml, List.drop_length]; rfl⟩
        · rw [if_neg c1]
          refine ⟨w.drop m, ?_, isW_iff.mpr ⟨by simp; omega, by simp; omega, th⟩, rfl⟩
          rw [show (-(-(m : Int))).toNat = m by omega]
    have s3 : shiftW w 3 = (List.replicate 3 0 ++ w, true) := by unfold shiftW; rw [if_pos ⟨hw, by omega⟩, if_pos (by omega)]; rfl
    have tz : ∀ (j : Nat) (u : List Int), (∀ x ∈ u, -1 ≤ x ∧ x ≤ 1) → ∀ x ∈ List.replicate j 0 ++ u, -1 ≤ x ∧ x ≤ 1 := by
      intro j u hu x hx
      rcases List.mem_append.mp hx with h | h
      · have := (List.mem_replicate.mp h).2; omega
      · exact hu x h
    have hr : isW (List.replicate m 0 ++ w.drop m) = true := isW_iff.mpr ⟨by simp; omega, by simp; omega, tz m _ th⟩
    have hu : isW (List.replicate 3 0 ++ w) = true := isW_iff.mpr ⟨by simp, by simp; omega, tz 3 _ tw⟩
    have s4 : shiftW (List.replicate 3 0 ++ w) (-3) = (w, true) := by
      unfold shiftW; rw [if_pos ⟨hu, by simp; omega⟩, if_neg (by omega), if_neg (by simp; omega)]; simp
    have va := val_append (w.take m) (w.drop m)
    rw [List.take_append_drop, List.length_take, Nat.min_eq_left (by omega)] at va
    have vr := val_append (List.replicate m 0) (w.drop m)
    rw [val_zeros, List.length_replicate] at vr
    have vu := val_append (List.replicate 3 0) w
    rw [val_zeros, List.length_replicate] at vu
    have p3 : pw 3 = 27 := by decide
    have b1 := val_b1 (w.take m) tl
    rw [List.length_take, Nat.min_eq_left (by omega)] at b1
    have hpl := pw_lim m
    have hpp := pw_pos m
    have b3 := val_bound30 1 (by omega) (by omega) w (by omega) tw
    have b4 := val_bound30 1 (by omega) (by omega) _ (isW_iff.mp hr).2.1 (isW_iff.mp hr).2.2
    have b5 := val_bound30 1 (by omega) (by omega) _ (isW_iff.mp hu).2.1 (isW_iff.mp hu).2.2
    have b6 := lim_le (k := m) (by omega)
    rw [impl_RoundWord_t _ _ _ (by omega), s1, Option.bind_some, impl_ShiftWord_t _ _ _ (by omega), es, Option.bind_some, spec_MakePower_t _ m (by omega) (by omega), Option.bind_some, impl_ValueOf_w _ w hw (by omega), Option.bind_some]
    dsimp only
    have hlen : ((List.replicate m (0 : Int) ++ w.drop m).length : Int) = (w.length : Int) := by simp; omega
    rw [if_pos rfl, if_pos rfl, hlen, bne_self_eq_false, laws_FnRounded.j0, if_neg (by simp), impl_ValueOf_w _ _ hr (by omega), Option.bind_some, impl_ShiftWord_t _ _ _ (by omega), s3, Option.bind_some]
    dsimp only
    rw [impl_ShiftWord_t _ _ _ (by omega), s4, Option.bind_some]
    dsimp only
    rw [if_neg (by omega), if_pos (by rw [vr, Int.zero_add]; exact Int.mul_tmod_right _ _)]
    have hab : laws_abs.f (wrap64 (val w - val (List.replicate m 0 ++ w.drop m))) = some (mx (val (w.take m)) (-(val (w.take m)))) := by
      unfold laws_abs.f
      rw [wr (x := val w - _) (by omega) (by omega), show val w - val (List.replicate m 0 ++ w.drop m) = val (w.take m) by omega, wr (by omega) (by omega)]
    have hmx : mx (val (w.take m)) (-(val (w.take m))) ≤ lim m ∧ 0 ≤ mx (val (w.take m)) (-(val (w.take m))) := by unfold mx; split <;> omega
    have hvm : val s * pw m = val (List.replicate m 0 ++ w.drop m) := by rw [vs, vr, Int.mul_comm, Int.zero_add]
    have h27 : val (List.replicate 3 0 ++ w) = 27 * val w := by rw [vu, p3]; omega
    rw [hab, Option.bind_some, wr (x := 2 * _) (by omega) (by omega), if_pos (by omega), impl_ValueOf_w _ _ ss (by omega), Option.bind_some, hvm, wr (x := val (List.replicate m 0 ++ w.drop m)) (by omega) (by omega), if_pos rfl, if_pos rfl, if_pos rfl,
      laws_ints_t _ w (by omega) (by omega), Option.bind_some, if_pos rfl, impl_ValueOf_w _ _ hu (by omega), Option.bind_some, wr (x := 27 * val w) (by omega) (by omega), h27]
    simp

end Go.Proofs.Ytaieeaniadgjiaa.Pure.InFnRounded
namespace Go.Proofs.Ytaieeaniadgjiaa.Pure
theorem FnRounded : QFnRounded.laws_FnRounded.Pure := InFnRounded.FnRounded
end Go.Proofs.Ytaieeaniadgjiaa.Pure
