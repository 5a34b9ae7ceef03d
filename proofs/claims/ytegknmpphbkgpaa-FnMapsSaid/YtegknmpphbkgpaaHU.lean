/- What the functions of the law of carry maps answer. -/
import Derived.Test.YtegknmpphbkgpaaProg
import Derived.Below
import Derived.WalkSpells
import Derived.Deep.Draws
import Derived.Deep.AppendLies
import Derived.Maps.AppendAt
import Derived.OwnWalk
import Derived.Laws.BytesArg
import Derived.Laws.MakeOwn
import Derived.Laws.OwnMore
import Derived.Deep.OwnRows
import Derived.Tactics
import Derived.Lib.ConvBytes
import Derived.Laws.Slices
import Derived.WalkKit
import Derived.KernelRfl
import Derived.RowKit3
import Derived.Deep.LoopGhost
import Derived.Deep.QuietTactic
import Derived.BigQuiet
import Derived.WideLaws
import Derived.Deep.DeepCutAuto
import Derived.Deep.CutBlock
import Derived.Deep.RegionHeld3
import Derived.Laws.Rows
import Derived.Lib.AppendStr
import Derived.ArgAppend
import Derived.Laws.IdiomCopy
import Derived.OrdersHeld
import Derived.Laws.BitsLemmas
import Derived.RowKit
import Derived.Test.YtegknmpphbkgpaaWWords
import Derived.Test.YtegknmpphbkgpaaWLast
import Derived.Test.YtegknmpphbkgpaaWTab
import Derived.Test.YtegknmpphbkgpaaWFour
import Derived.Test.YtegknmpphbkgpaaWQPut
import Derived.Test.YtegknmpphbkgpaaWApart
import Derived.Test.YtegknmpphbkgpaaWArr
import Derived.Test.YtegknmpphbkgpaaWZeros
import Derived.Test.YtegknmpphbkgpaaWFoot
import Derived.Test.YtegknmpphbkgpaaWKept
import Derived.Test.YtegknmpphbkgpaaWShare
import Derived.Test.YtegknmpphbkgpaaWN
import Derived.Test.YtegknmpphbkgpaaWFootNe
import Derived.Test.YtegknmpphbkgpaaWAt
import Derived.Test.YtegknmpphbkgpaaWEqStruct
import Derived.Test.YtegknmpphbkgpaaWRepsOne
import Derived.Test.YtegknmpphbkgpaaWInv
import Derived.Test.YtegknmpphbkgpaaWInvWords
import Derived.Test.YtegknmpphbkgpaaWGuard
import Derived.Test.YtegknmpphbkgpaaWNEv
import Derived.Test.YtegknmpphbkgpaaWMore
import Derived.Test.YtegknmpphbkgpaaQFnMapsx2
set_option linter.unusedVariables false
set_option linter.unusedSimpArgs false
namespace Go.Proofs.Ytegknmpphbkgpaa.HU
open Go.RowKit Go.Proofs.YtegknmpphbkgpaaW.PrintWords Go.Proofs.YtegknmpphbkgpaaW.PrintLast Go.Proofs.YtegknmpphbkgpaaW.PrintMore Go.Proofs.Ytegknmpphbkgpaa.QFnMaps
theorem wr {x : Int} (h1 : -9223372036854775808 ≤ x) (h2 : x ≤ 9223372036854775807) : wrap64 x = x := by unfold wrap64; omega
theorem wfB {a : Int} (h : (Lit.int .i64 a).wf = true) : -9223372036854775808 ≤ a ∧ a ≤ 9223372036854775807 := by
  have h' := h
  simp only [Lit.wf, Bool.and_eq_true, decide_eq_true_eq] at h'
  exact h'
/-- A trit. -/
def isT (a : Int) : Bool := decide (-1 ≤ a ∧ a ≤ 1)
theorem isT_iff {a : Int} : isT a = true ↔ (-1 ≤ a ∧ a ≤ 1) := by simp [isT]
theorem rd_nat (l : List Int) (j : Nat) : rd l (j : Int) = l.getD j 0 := by unfold rd; simp
theorem drop_cons (l : List Int) (j : Nat) (h : j < l.length) : l.drop j = l.getD j 0 :: l.drop (j + 1) := by
  rw [List.drop_eq_getElem_cons h]; simp [List.getD_eq_getElem?_getD, h]
theorem take_snoc (l : List Int) (j : Nat) (h : j < l.length) : l.take (j + 1) = l.take j ++ [l.getD j 0] := by
  rw [List.take_succ_eq_append_getElem h]; simp [List.getD_eq_getElem?_getD, h]
theorem and255 (x : Int) : 0 ≤ Go.bits .and .i64 x 255 ∧ Go.bits .and .i64 x 255 ≤ 255 := by
  have h : Go.bits .and .i64 x 255 = IntKind.i64.wrap (((BitVec.ofInt 64 x &&& BitVec.ofInt 64 255).toNat : Nat) : Int) := rfl
  rw [h, BitVec.toNat_and]
  have e : (BitVec.ofInt 64 255).toNat = 255 := by decide
  rw [e]
  have := Nat.and_le_right (n := (BitVec.ofInt 64 x).toNat) (m := 255)
  generalize (BitVec.ofInt 64 x).toNat &&& 255 = n at *
  rw [IntKind.wrap_i64]; omega
theorem byte_t (b : List Int) (i h : Int) (h0 : 0 ≤ i) (h1 : i ≤ b.length) (hb : b.length ≤ 1000000000000) : ∃ r j g, spec_l01Byte.f b i h = some (r, j, g) ∧ 0 ≤ r ∧ r ≤ 255 ∧ 0 ≤ j ∧ j ≤ b.length := by
  unfold spec_l01Byte.f
  by_cases c : i < b.length
  · rw [if_pos c, if_pos h0, wr (x := i + 1) (by omega) (by omega)]
    refine ⟨_, _, _, rfl, (and255 _).1, (and255 _).2, by omega, by omega⟩
  · rw [if_neg c]
    exact ⟨_, _, _, rfl, (and255 _).1, (and255 _).2, h0, h1⟩
theorem tmod_b (r n : Int) (h : 0 ≤ r) (hn : 0 < n) : 0 ≤ Int.tmod r n ∧ Int.tmod r n < n := by
  rw [Int.tmod_eq_emod_of_nonneg h]; exact ⟨Int.emod_nonneg _ (by omega), Int.emod_lt_of_pos _ hn⟩
theorem below_t (b : List Int) (i h n : Int) (h0 : 0 ≤ i) (h1 : i ≤ b.length) (hb : b.length ≤ 1000000000000) (hn : 1 ≤ n ∧ n ≤ 256) : ∃ r j g, spec_l01Below.f b i h n = some (r, j, g) ∧ 0 ≤ r ∧ r < n ∧ 0 ≤ j ∧ j ≤ b.length := by
  unfold spec_l01Below.f
  obtain ⟨r, j, g, e, a1, a2, a3, a4⟩ := byte_t b i h h0 h1 hb
  rw [if_neg (by omega), if_pos (by omega), e]; simp only [Option.bind_some]
  rw [if_neg (by omega)]
  exact ⟨_, _, _, rfl, (tmod_b r n a1 (by omega)).1, (tmod_b r n a1 (by omega)).2, a3, a4⟩
theorem new_l0 (l : List Int) (hl : l.length ≤ 1000000000000) (d : Nat) : ∀ (k j : Nat) (h : Int), j ≤ 4000 → 4000 - j ≤ d → d < k → ∃ g, spec_l01New.l0 k l h (j : Int) = some (l, 0, g) := by
  induction d with
  | zero =>
    intro k j h hj hd hk
    obtain ⟨k, rfl⟩ : ∃ m, k = m + 1 := ⟨k - 1, by omega⟩
    rw [spec_l01New.l0]
    by_cases c : (j : Int) < l.length
    · rw [if_pos c, if_neg (by omega)]; exact ⟨_, rfl⟩
    · rw [if_neg c]; exact ⟨_, rfl⟩
  | succ d ih =>
    intro k j h hj hd hk
    obtain ⟨k, rfl⟩ : ∃ m, k = m + 1 := ⟨k - 1, by omega⟩
    rw [spec_l01New.l0]
    by_cases c : (j : Int) < l.length
    · rw [if_pos c]
      by_cases c2 : (j : Int) < 4000
      · rw [if_pos c2, if_pos (by omega), wr (x := (j : Int) + 1) (by omega) (by omega)]
        rw [show (j : Int) + 1 = ((j + 1 : Nat) : Int) by omega]
        exact ih k (j + 1) _ (by omega) (by omega) (by omega)
      · rw [if_neg c2]; exact ⟨_, rfl⟩
    · rw [if_neg c]; exact ⟨_, rfl⟩
theorem new_t (k : Nat) (l : List Int) (hl : l.length ≤ 1000000000000) (hk : 4001 < k) : ∃ g, spec_l01New.f k l = some (l, 0, g) := by
  unfold spec_l01New.f
  exact new_l0 l hl 4000 k 0 _ (by omega) (by omega) (by omega)
/-- All trits. -/
def allT (l : List Int) : Prop := ∀ x ∈ l, -1 ≤ x ∧ x ≤ 1
theorem allT_snoc (l : List Int) (x : Int) (h : allT l) (hx : -1 ≤ x ∧ x ≤ 1) : allT (l ++ [x]) := by
  intro y hy; rcases List.mem_append.mp hy with h1 | h1
  · exact h y h1
  · have := List.mem_singleton.mp h1; omega
theorem makeExact_l0 (b : List Int) (hb : b.length ≤ 1000000000000) (n : Nat) (hn : n ≤ 30) (x : Int) (hx : mx 1 (mn x 30) = n) (d : Nat) : ∀ (k j : Nat) (acc : List Int) (i h : Int), j + d = n → d < k → acc.length = j → allT acc → 0 ≤ i → i ≤ b.length →
    ∃ w, spec_MakeExact.l0 k x acc (j : Int) b i h = some w ∧ w.length = n ∧ allT w := by
  induction d with
  | zero =>
    intro k j acc i h hj hk ha ht h0 h1
    obtain ⟨k, rfl⟩ : ∃ m, k = m + 1 := ⟨k - 1, by omega⟩
    simp only [spec_MakeExact.l0]
    rw [hx, if_neg (by omega)]; exact ⟨acc, rfl, by omega, ht⟩
  | succ d ih =>
    intro k j acc i h hj hk ha ht h0 h1
    obtain ⟨k, rfl⟩ : ∃ m, k = m + 1 := ⟨k - 1, by omega⟩
    simp only [spec_MakeExact.l0]
    obtain ⟨r, j', g, e, a1, a2, a3, a4⟩ := below_t b i h 3 h0 h1 hb (by omega)
    rw [hx, if_pos (by omega), e]; simp only [Option.bind_some]
    rw [if_pos (by omega), wr (x := r - 1) (by omega) (by omega), wr (x := (j : Int) + 1) (by omega) (by omega)]
    exact_mod_cast ih k (j + 1) (acc ++ [r - 1]) j' g (by omega) (by omega) (by simp; omega) (allT_snoc _ _ ht (by omega)) a3 a4
theorem makeExact_t (k : Nat) (l : List Int) (hl : l.length ≤ 1000000000000) (n : Nat) (hn : 1 ≤ n ∧ n ≤ 30) (hk : 4040 < k) : ∃ w, spec_MakeExact.f k l (n : Int) = some w ∧ w.length = n ∧ allT w := by
  unfold spec_MakeExact.f
  obtain ⟨g, e⟩ := new_t k l hl (by omega)
  rw [e]; simp only [Option.bind_some]
  have hx : mx 1 (mn (n : Int) 30) = n := by unfold mx mn; split <;> split <;> omega
  exact_mod_cast makeExact_l0 l hl n hn.2 n hx n k 0 [] 0 g (by omega) (by omega) rfl (by intro y hy; simp at hy) (by omega) (by omega)
theorem at_t (l : List Int) (hl : l.length ≤ 1048576) (hb : ∀ x ∈ l, 0 ≤ x ∧ x ≤ 255) (j : Nat) (hj : j ≤ 100) : ∃ r, laws_at.f l (j : Int) = some r ∧ 0 ≤ r ∧ r ≤ 255 := by
  unfold laws_at.f
  by_cases c : (j : Int) < l.length
  · have hm : l.getD j 0 ∈ l := by rw [List.getD_eq_getElem?_getD, List.getElem?_eq_getElem (by omega)]; exact List.getElem_mem (by omega)
    have := hb _ hm
    rw [if_pos c, if_pos (by omega), rd_nat, wr (by omega) (by omega)]
    exact ⟨_, rfl, this.1, this.2⟩
  · rw [if_neg c, wr (x := (j : Int) * 37) (by omega) (by omega), wr (x := (l.length : Int) * 11) (by omega) (by omega), wr (by omega) (by omega), Int.tmod_eq_emod_of_nonneg (by omega)]
    exact ⟨_, rfl, by omega, by omega⟩
theorem wf8 {l : List Int} (h : ∀ x ∈ l, (Lit.int .u8 x).wf = true) : ∀ x ∈ l, 0 ≤ x ∧ x ≤ 255 := by
  intro x hx
  have h' := h x hx
  simp only [Lit.wf, Bool.and_eq_true, decide_eq_true_eq] at h'
  exact h'
/-- A word. -/
def isW (l : List Int) : Bool := decide (1 ≤ l.length) && decide (l.length ≤ 30) && l.all isT
theorem isW_iff {l : List Int} : isW l = true ↔ (1 ≤ l.length ∧ l.length ≤ 30 ∧ ∀ x ∈ l, -1 ≤ x ∧ x ≤ 1) := by
  simp [isW, isT, List.all_eq_true, and_assoc]
/-- The value of digits, the lowest first. -/
def val : List Int → Int
  | [] => 0
  | a :: l => 3 * val l + a
/-- The trit of a small number, and the carry. -/
def crd (n : Int) : Int × Int := if n > 1 then (n - 3, 1) else if n < -1 then (n + 3, -1) else (n, 0)
theorem impl_carried_t (n : Int) (h : -1000 ≤ n ∧ n ≤ 1000) : impl_carried.f n = some (crd n) := by
  unfold impl_carried.f crd
  by_cases h1 : n > 1
  · rw [if_pos h1, if_pos h1, wr (by omega) (by omega)]
  · rw [if_neg h1, if_neg h1]
    by_cases h2 : n < -1
    · rw [if_pos h2, if_pos h2, wr (by omega) (by omega)]
    · rw [if_neg h2, if_neg h2]
/-- The sum's trits, the carries into the places, and the carry out. -/
def addL : List Int → List Int → Int → List Int × List Int × Int
  | a :: xs, b :: ys, c => ((crd (a + b + c)).1 :: (addL xs ys (crd (a + b + c)).2).1, c :: (addL xs ys (crd (a + b + c)).2).2.1, (addL xs ys (crd (a + b + c)).2).2.2)
  | _, _, c => ([], [], c)
theorem addL_len (a : List Int) : ∀ (b : List Int) (c : Int), (addL a b c).1.length ≤ a.length := by
  induction a with
  | nil => intro b c; simp [addL]
  | cons x xs ih =>
    intro b c
    cases b with
    | nil => simp [addL]
    | cons y ys => simp only [addL, List.length_cons]; have := ih ys (crd (x + y + c)).2; omega
/-- AddWords. -/
def addW (a b : List Int) (c : Int) : List Int × Int × Bool := if isT c = true ∧ isW a = true ∧ isW b = true ∧ a.length = b.length then ((addL a b c).1, (addL a b c).2.2, true) else ([], 0, false)
theorem addW_len (a b : List Int) (c : Int) : (addW a b c).1.length ≤ 30 := by
  unfold addW; split
  · rename_i h; have hw := isW_iff.mp h.2.1; have := addL_len a b c; simp only; omega
  · simp
theorem mem_getD1 (l : List Int) (j : Nat) (h : j < l.length) : l.getD j 0 ∈ l := by
  rw [List.getD_eq_getElem?_getD, List.getElem?_eq_getElem h]; exact List.getElem_mem h
theorem impl_IsTrit_t (a : Int) : impl_IsTrit.f a = some (isT a) := by
  unfold impl_IsTrit.f isT
  by_cases h : a ≥ -1
  · have h' : -1 ≤ a := h
    rw [if_pos h]; simp [h']
  · have h' : ¬ -1 ≤ a := h
    rw [if_neg h]; simp [h']
theorem impl_trits_l0 (l : List Int) (hl : l.length ≤ 9000000000000000000) (d : Nat) : ∀ (k j : Nat), j + d = l.length → d < k →
    impl_trits.l0 k l (l.length : Int) (j : Int) = some ((l.drop j).all isT) := by
  induction d with
  | zero =>
    intro k j hj hk
    obtain ⟨k, rfl⟩ : ∃ m, k = m + 1 := ⟨k - 1, by omega⟩
    simp only [impl_trits.l0]
    rw [if_neg (by omega), List.drop_eq_nil_of_le (by omega)]; rfl
  | succ d ih =>
    intro k j hj hk
    obtain ⟨k, rfl⟩ : ∃ m, k = m + 1 := ⟨k - 1, by omega⟩
    simp only [impl_trits.l0]
    rw [if_pos (by omega), if_pos (by omega), if_pos (by omega), impl_IsTrit_t, rd_nat, drop_cons l j (by omega)]
    simp only [Option.bind_some, List.all_cons]
    have e := ih k (j + 1) (by omega) (by omega)
    rw [wr (by omega) (by omega)]
    cases isT (l.getD j 0) with
    | false => rfl
    | true => simp only [if_true, Bool.true_and]; exact_mod_cast e
theorem impl_trits_t (k : Nat) (l : List Int) (hl : l.length ≤ 9000000000000000000) (hk : l.length < k) : impl_trits.f k l = some (l.all isT) := by
  have e := impl_trits_l0 l hl l.length k 0 (by omega) hk
  unfold impl_trits.f; simpa using e
theorem impl_FullAdd_t (k : Nat) (a b c : Int) (ha : -1 ≤ a ∧ a ≤ 1) (hb : -1 ≤ b ∧ b ≤ 1) (hc : -1 ≤ c ∧ c ≤ 1) (hk : 5 < k) : impl_FullAdd.f k a b c = some (crd (a + b + c)) := by
  unfold impl_FullAdd.f
  rw [impl_trits_t k _ (by simp) (by simp; omega)]
  simp only [List.all_cons, List.all_nil, Bool.and_true, Option.bind_some, isT_iff.mpr ha, isT_iff.mpr hb, isT_iff.mpr hc, if_true]
  rw [wr (x := a + b) (by omega) (by omega), wr (by omega) (by omega), impl_carried_t _ (by omega)]; rfl
theorem crd_trit (n : Int) (h : -3 ≤ n ∧ n ≤ 3) : (-1 ≤ (crd n).1 ∧ (crd n).1 ≤ 1) ∧ (-1 ≤ (crd n).2 ∧ (crd n).2 ≤ 1) := by
  unfold crd; split
  · simp; omega
  · split <;> simp <;> omega
theorem impl_added_l0 (a b : List Int) (hab : a.length = b.length) (hl : a.length ≤ 30) (ha : ∀ x ∈ a, -1 ≤ x ∧ x ≤ 1) (hb : ∀ x ∈ b, -1 ≤ x ∧ x ≤ 1) (d : Nat) : ∀ (k j : Nat) (c : Int) (s1 s2 : List Int), j + d = a.length → d + 10 < k → s1.length = j → s2.length = j → -1 ≤ c → c ≤ 1 →
    impl_added.l0 k a b c s1 s2 (a.length : Int) (j : Int) = some (s1 ++ (addL (a.drop j) (b.drop j) c).1, s2 ++ (addL (a.drop j) (b.drop j) c).2.1, (addL (a.drop j) (b.drop j) c).2.2) := by
  induction d with
  | zero =>
    intro k j c s1 s2 hj hk _ _ _ _
    obtain ⟨k, rfl⟩ : ∃ m, k = m + 1 := ⟨k - 1, by omega⟩
    simp only [impl_added.l0]
    rw [if_neg (by omega), List.drop_of_length_le (by omega)]; simp [addL]
  | succ d ih =>
    intro k j c s1 s2 hj hk l1 l2 c1 c2
    obtain ⟨k, rfl⟩ : ∃ m, k = m + 1 := ⟨k - 1, by omega⟩
    simp only [impl_added.l0]
    have m1 := ha _ (mem_getD1 a j (by omega))
    have m2 := hb _ (mem_getD1 b j (by omega))
    have t := crd_trit (a.getD j 0 + b.getD j 0 + c) (by omega)
    have e := ih k (j + 1) (crd (a.getD j 0 + b.getD j 0 + c)).2 (s1 ++ [(crd (a.getD j 0 + b.getD j 0 + c)).1]) (s2 ++ [c]) (by omega) (by omega) (by simp; omega) (by simp; omega) t.2.1 t.2.2
    rw [drop_cons a j (by omega), drop_cons b j (by omega)]
    simp only [addL]
    rw [if_pos (by omega), if_pos (by omega), if_pos (by omega), if_pos (by omega), rd_nat, rd_nat, impl_FullAdd_t k _ _ _ m1 m2 ⟨c1, c2⟩ (by omega)]
    simp only [Option.bind_some]
    rw [if_pos (by omega), if_pos (by omega), wr (x := (j : Int) + 1) (by omega) (by omega)]
    rw [List.append_assoc, List.append_assoc] at e
    exact_mod_cast e
theorem impl_added_t (k : Nat) (a b : List Int) (c : Int) (hab : a.length = b.length) (hl : a.length ≤ 30) (ha : ∀ x ∈ a, -1 ≤ x ∧ x ≤ 1) (hb : ∀ x ∈ b, -1 ≤ x ∧ x ≤ 1) (hc : -1 ≤ c ∧ c ≤ 1) (hk : 50 < k) : impl_added.f k a b c = some (addL a b c) := by
  have e := impl_added_l0 a b hab hl ha hb a.length k 0 c [] [] (by omega) (by omega) rfl rfl hc.1 hc.2
  unfold impl_added.f; simpa using e
theorem impl_IsWord_t (k : Nat) (l : List Int) (hk : 30 < k) : impl_IsWord.f k l = some (isW l) := by
  unfold impl_IsWord.f isW
  by_cases h1 : 1 ≤ l.length
  · rw [if_pos (by omega)]
    by_cases h2 : l.length ≤ 30
    · rw [if_pos (by omega), impl_trits_t k l (by omega) (by omega)]; simp [h1, h2]
    · rw [if_neg (by omega)]; simp [h2]
  · rw [if_neg (by omega)]; simp [h1]
theorem same2 (a b : List Int) : impl_sameLength.f [a, b] = some (isW a && isW b && decide (b.length = a.length)) := by
  simp [impl_sameLength.f, goodS, impl_IsWord_t, Bool.and_assoc]
theorem same3 (a b c : List Int) : impl_sameLength.f [a, b, c] = some (isW a && (isW b && decide (b.length = a.length)) && (isW c && decide (c.length = a.length))) := by
  simp [impl_sameLength.f, goodS, impl_IsWord_t, Bool.and_assoc]
theorem impl_AddWords_t (k : Nat) (a b : List Int) (c : Int) (hk : 60 < k) : impl_AddWords.f k a b c = some (addW a b c) := by
  unfold impl_AddWords.f addW
  rw [impl_IsTrit_t, same2]; simp only [Option.bind_some]
  by_cases h : isT c = true
  · rw [if_pos h]
    by_cases h1 : isW a = true ∧ isW b = true ∧ a.length = b.length
    · have wa := isW_iff.mp h1.1
      have wb := isW_iff.mp h1.2.1
      rw [if_pos (by simp [h1]), if_pos ⟨h, h1⟩, impl_added_t k a b c h1.2.2 wa.2.1 wa.2.2 wb.2.2 (isT_iff.mp h) (by omega)]; rfl
    · rw [if_neg (by simp only [Bool.and_eq_true, decide_eq_true_eq]; exact fun x => h1 ⟨x.1.1, x.1.2, x.2.symm⟩), if_neg (fun x => h1 x.2)]
  · rw [if_neg h, if_neg (fun x => h x.1)]
theorem fresh_l0 (l : List Int) (hl : l.length ≤ 1048576) (s : Int) (d : Nat) : ∀ (k j : Nat) (acc : List Int), j ≤ 600 → 600 - j ≤ d → d < k → acc.length ≤ 1000 + j →
    ∃ r, laws_fresh.l0 k l s acc (j : Int) = some r ∧ r.length ≤ 1700 := by
  induction d with
  | zero =>
    intro k j acc hj hd hk ha
    obtain ⟨k, rfl⟩ : ∃ m, k = m + 1 := ⟨k - 1, by omega⟩
    rw [laws_fresh.l0]
    by_cases c : (j : Int) < l.length
    · rw [if_pos c, if_neg (by omega)]; exact ⟨_, rfl, by omega⟩
    · rw [if_neg c]; exact ⟨_, rfl, by omega⟩
  | succ d ih =>
    intro k j acc hj hd hk ha
    obtain ⟨k, rfl⟩ : ∃ m, k = m + 1 := ⟨k - 1, by omega⟩
    rw [laws_fresh.l0]
    by_cases c : (j : Int) < l.length
    · rw [if_pos c]
      by_cases c2 : (j : Int) < 600
      · rw [if_pos c2, if_pos (by omega), if_pos (by omega), wr (x := (j : Int) + 1) (by omega) (by omega)]
        rw [show (j : Int) + 1 = ((j + 1 : Nat) : Int) by omega]
        exact ih k (j + 1) _ (by omega) (by omega) (by omega) (by simp; omega)
      · rw [if_neg c2]; exact ⟨_, rfl, by omega⟩
    · rw [if_neg c]; exact ⟨_, rfl, by omega⟩
theorem fresh_t (l : List Int) (hl : l.length ≤ 1048576) : ∃ r, laws_fresh.f 5000 l 3 = some r ∧ r.length ≤ 1700 := by
  obtain ⟨fr, ef, lf⟩ := fresh_l0 l hl 3 600 5000 0 [3 % 256] (by omega) (by omega) (by omega) (by simp)
  exact ⟨fr, by unfold laws_fresh.f; exact ef, lf⟩
theorem impl_CarriesOf_t (k : Nat) (a b : List Int) (c : Int) (hc : isT c = true) (wa : isW a = true) (wb : isW b = true) (hab : a.length = b.length) (hk : 60 < k) : impl_CarriesOf.f k a b c = some ((addL a b c).2.1, true) := by
  unfold impl_CarriesOf.f
  rw [impl_IsTrit_t, same2]; simp only [Option.bind_some]
  have xa := isW_iff.mp wa
  have xb := isW_iff.mp wb
  rw [if_pos hc, if_pos (by simp [wa, wb, hab]), impl_added_t k a b c hab xa.2.1 xa.2.2 xb.2.2 (isT_iff.mp hc) (by omega)]; rfl
theorem impl_AddWords_yes (k : Nat) (a b : List Int) (c : Int) (hc : isT c = true) (wa : isW a = true) (wb : isW b = true) (hab : a.length = b.length) (hk : 60 < k) : impl_AddWords.f k a b c = some ((addL a b c).1, (addL a b c).2.2, true) := by
  rw [impl_AddWords_t k a b c hk]
  unfold addW
  rw [if_pos ⟨hc, wa, wb, hab⟩]
theorem addL_carry (a : List Int) : ∀ (b : List Int) (c : Int), a.length = b.length → (addL a b c).2.1.length = a.length ∧ ((addL a b c).2.1 ++ [(addL a b c).2.2]).getD 0 0 = c ∧ ∀ j, j < a.length → ((addL a b c).2.1 ++ [(addL a b c).2.2]).getD (j + 1) 0 = (crd (a.getD j 0 + b.getD j 0 + ((addL a b c).2.1 ++ [(addL a b c).2.2]).getD j 0)).2 := by
  induction a with
  | nil =>
    intro b c h
    simp [addL]
  | cons x xs ih =>
    intro b c h
    cases b with
    | nil => simp at h
    | cons y ys =>
      obtain ⟨h1, h2, h3⟩ := ih ys (crd (x + y + c)).2 (by simpa using h)
      simp only [addL]
      refine ⟨by simp [h1], by simp, fun j hj => ?_⟩
      cases j with
      | zero => simpa using h2
      | succ j => simpa using h3 j (by simpa using hj)
/-- The carry into a place, and behind the last one the carry out. -/
def cin (a b : List Int) (c : Int) (j : Nat) : Int := ((addL a b c).2.1 ++ [(addL a b c).2.2]).getD j 0
theorem cin_trit (a b : List Int) (c : Int) (hab : a.length = b.length) (ha : ∀ x ∈ a, -1 ≤ x ∧ x ≤ 1) (hb : ∀ x ∈ b, -1 ≤ x ∧ x ≤ 1) (hc : -1 ≤ c ∧ c ≤ 1) (j : Nat) (hj : j ≤ a.length) : -1 ≤ cin a b c j ∧ cin a b c j ≤ 1 := by
  obtain ⟨h1, h2, h3⟩ := addL_carry a b c hab
  induction j with
  | zero =>
    show -1 ≤ ((addL a b c).2.1 ++ [(addL a b c).2.2]).getD 0 0 ∧ _
    unfold cin
    rw [h2]
    exact hc
  | succ j ih =>
    have e := ih (by omega)
    have m1 := ha _ (mem_getD1 a j (by omega))
    have m2 := hb _ (mem_getD1 b j (by omega))
    unfold cin at e ⊢
    rw [h3 j (by omega)]
    exact (crd_trit _ (by omega)).2
theorem cin_step (a b : List Int) (c : Int) (hab : a.length = b.length) (j : Nat) (hj : j < a.length) : cin a b c (j + 1) = (crd (a.getD j 0 + b.getD j 0 + cin a b c j)).2 := (addL_carry a b c hab).2.2 j hj
theorem cin_at (a b : List Int) (c : Int) (hab : a.length = b.length) (j : Nat) (hj : j < a.length) : (addL a b c).2.1.getD j 0 = cin a b c j := by
  unfold cin
  rw [List.getD_eq_getElem?_getD, List.getD_eq_getElem?_getD, List.getElem?_append_left (by rw [(addL_carry a b c hab).1]; exact hj)]
theorem cin_out (a b : List Int) (c : Int) (hab : a.length = b.length) : (addL a b c).2.2 = cin a b c a.length := by
  unfold cin
  rw [List.getD_eq_getElem?_getD, List.getElem?_append_right (by rw [(addL_carry a b c hab).1]; exact Nat.le_refl _), (addL_carry a b c hab).1]
  simp
theorem cin_zero (a b : List Int) (c : Int) (hab : a.length = b.length) : cin a b c 0 = c := (addL_carry a b c hab).2.1
/-- A slice of whole numbers that may be read: block g holds the numbers l from its beginning on. -/
def Num (w : World) (g : Nat) (l : List Int) : Prop := g < w.heap.size ∧ ∀ j, j < l.length → w.cell? ⟨g, j, none⟩ = some (.int .i64 (l.getD j 0))
theorem Num.below {w w' : World} {g : Nat} {l : List Int} (h : Num w g l) (hb : Below w.heap.size w w') : Num w' g l := ⟨Nat.lt_of_lt_of_le h.1 hb.size, fun j hj => by
  have e : w'.cell? ⟨g, j, none⟩ = w.cell? ⟨g, j, none⟩ := by
    unfold World.cell?
    rw [hb.block g h.1]
  rw [e]
  exact h.2 j hj⟩
theorem R_num {w : World} {base : Nat} {ok : Nat → Prop} {v : Value} {l : List Int} (h : Kd.R (Kd.int .i64) 3 w base ok v l) (hl : 0 < l.length) : ∃ g cap, v = .slice (some ⟨g, 0, none⟩) l.length cap ∧ Num w g l ∧ base ≤ g := by
  obtain ⟨A, c, e, hle, hC⟩ := Kd.R_reads h
  obtain ⟨h0, inner, ho, hr⟩ := h
  obtain ⟨_, ho⟩ := ho
  rcases ho with ⟨_, h1⟩ | ⟨g, cap, cur, hv, hbase, hg, _⟩
  · omega
  · refine ⟨g, cap, hv, ⟨(Array.getElem?_eq_some_iff.1 hg).1, fun j hj => ?_⟩, hbase⟩
    rw [hv] at e
    injection e with e1 e2 e3
    subst e1
    obtain ⟨ad, ea, hc⟩ := Kd.at_int hC (j : Int) (by omega) (by omega)
    injection ea with ea
    subst ea
    have hadd : (⟨g, 0, none⟩ : Addr).add j = ⟨g, j, none⟩ := by unfold Addr.add; split <;> simp_all
    rw [Int.toNat_natCast, hadd, rd_nat] at hc
    exact hc
theorem isW_of {l : List Int} (h1 : 1 ≤ l.length) (h2 : l.length ≤ 30) (h3 : allT l) : isW l = true := isW_iff.mpr ⟨h1, h2, h3⟩
theorem exact_calls (A0 : Option Addr) (c0 : Nat) (l0 : List Int) (w : World) (hr0 : Kd.C (Kd.int .u8) w A0 l0.length l0) (hc0 : l0.length ≤ c0) (hl : l0.length ≤ 1000000000000) (x : Int) (h1 : 1 ≤ x) (h2 : x ≤ 30) :
    Calls Try.prog 41 #[.slice A0 l0.length c0, .int .i64 x] w fun e w' => ∃ g cap l, e = .returned (.slice (some ⟨g, 0, none⟩) l.length cap) ∧ (l.length : Int) = x ∧ isW l = true ∧ Num w' g l ∧ (∃ base, Kd.R (Kd.int .i64) 3 w' base (fun _ => True) (.slice (some ⟨g, 0, none⟩) l.length cap) l) ∧ Below w.heap.size w w' := by
  obtain ⟨n, rfl⟩ : ∃ n : Nat, x = n := ⟨x.toNat, by omega⟩
  obtain ⟨l, e, hn, ht⟩ := makeExact_t 5000 l0 hl n (by omega) (by omega)
  refine (spec_MakeExact.calls 5000 A0 c0 l0 n l w hr0 hc0 e).mono ?_
  rintro e w' ⟨v, rfl, hR, hb⟩
  obtain ⟨g, cap, rfl, hN, _⟩ := R_num hR (by omega)
  exact ⟨g, cap, l, rfl, by omega, isW_of (by omega) (by omega) ht, hN, ⟨_, hR⟩, hb⟩
theorem fresh_calls (A0 : Option Addr) (c0 : Nat) (l0 : List Int) (w : World) (hr0 : Kd.C (Kd.int .u8) w A0 l0.length l0) (hc0 : l0.length ≤ c0) (hl : l0.length ≤ 1048576) :
    Calls Try.prog 43 #[.slice A0 l0.length c0, .int .i64 3] w fun e w' => ∃ A c l, e = .returned (.slice A l.length c) ∧ l.length ≤ c ∧ l.length ≤ 1700 ∧ Kd.C (Kd.int .u8) w' A l.length l ∧ Below w.heap.size w w' := by
  obtain ⟨l, e, hn⟩ := fresh_t l0 hl
  refine (laws_fresh.calls 5000 A0 c0 l0 3 l w hr0 hc0 e).mono ?_
  rintro e w' ⟨v, rfl, hR, hb⟩
  obtain ⟨A, c, rfl, hle, hC⟩ := Kd.R_reads hR
  exact ⟨A, c, l, rfl, hle, hn, hC, hb⟩
theorem at_calls (A0 : Option Addr) (c0 : Nat) (l0 : List Int) (w : World) (hr0 : Kd.C (Kd.int .u8) w A0 l0.length l0) (hc0 : l0.length ≤ c0) (hl : l0.length ≤ 1048576) (hb : ∀ x ∈ l0, 0 ≤ x ∧ x ≤ 255) (j : Int) (hj0 : 0 ≤ j) (hj : j ≤ 100) (m : Int) (hm : 0 < m) :
    Calls Try.prog 42 #[.slice A0 l0.length c0, .int .i64 j] w fun e w' => ∃ r : Int, e = .returned (.int .i64 r) ∧ 0 ≤ Int.tmod r m ∧ Int.tmod r m < m ∧ Below w.heap.size w w' := by
  obtain ⟨j, rfl⟩ : ∃ k : Nat, j = k := ⟨j.toNat, by omega⟩
  obtain ⟨r, e, r1, r2⟩ := at_t l0 hl hb j (by omega)
  refine (laws_at.calls A0 c0 l0 j r w hr0 hc0 e).mono ?_
  rintro e w' ⟨rfl, ⟨n, rfl⟩⟩
  exact ⟨r, rfl, (tmod_b r m r1 hm).1, (tmod_b r m r1 hm).2, pw_below_drewN (Below.refl _ _) n⟩
theorem carries_calls (a b : List Int) (c : Int) (hc : isT c = true) (wa : isW a = true) (wb : isW b = true) (hab : a.length = b.length) (ga gb ca cb ba bb : Nat) (w : World) (ha : Kd.R (Kd.int .i64) 3 w ba (fun _ => True) (.slice (some ⟨ga, 0, none⟩) a.length ca) a) (hb : Kd.R (Kd.int .i64) 3 w bb (fun _ => True) (.slice (some ⟨gb, 0, none⟩) b.length cb) b) :
    Calls Try.prog 44 #[.slice (some ⟨ga, 0, none⟩) a.length ca, .slice (some ⟨gb, 0, none⟩) b.length cb, .int .i64 c] w fun e w' => ∃ g cap, e = .returned (.tuple #[.slice (some ⟨g, 0, none⟩) a.length cap, .bool true]) ∧ Num w' g (addL a b c).2.1 ∧ Below w.heap.size w w' := by
  have hl := (addL_carry a b c hab).1
  have h1 := (isW_iff.mp wa).1
  refine (impl_CarriesOf.calls 100 (fun _ => True) _ ca a (fun _ => True) _ cb b c _ _ w (Kd.R_V ha) (Kd.R_V hb) (impl_CarriesOf_t 100 a b c hc wa wb hab (by omega))).mono ?_
  rintro e w' ⟨v, rfl, hR, hb⟩
  obtain ⟨g, cap, rfl, hN, _⟩ := R_num hR (by omega)
  exact ⟨g, cap, by rw [hl], hN, hb⟩
theorem addw_calls (a b : List Int) (c : Int) (hc : isT c = true) (wa : isW a = true) (wb : isW b = true) (hab : a.length = b.length) (ga gb ca cb ba bb : Nat) (w : World) (ha : Kd.R (Kd.int .i64) 3 w ba (fun _ => True) (.slice (some ⟨ga, 0, none⟩) a.length ca) a) (hb : Kd.R (Kd.int .i64) 3 w bb (fun _ => True) (.slice (some ⟨gb, 0, none⟩) b.length cb) b) :
    Calls Try.prog 45 #[.slice (some ⟨ga, 0, none⟩) a.length ca, .slice (some ⟨gb, 0, none⟩) b.length cb, .int .i64 c] w fun e w' => ∃ v, e = .returned (.tuple #[v, .int .i64 (cin a b c a.length), .bool true]) ∧ Below w.heap.size w w' := by
  refine (impl_AddWords.calls 100 (fun _ => True) _ ca a (fun _ => True) _ cb b c _ _ _ w (Kd.R_V ha) (Kd.R_V hb) (impl_AddWords_yes 100 a b c hc wa wb hab (by omega))).mono ?_
  rintro e w' ⟨v, rfl, hR, hb⟩
  exact ⟨v, by rw [cin_out a b c hab], hb⟩
end Go.Proofs.Ytegknmpphbkgpaa.HU
