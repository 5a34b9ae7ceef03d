/- FnTrits: the laws of trits, their turns and sums hold, whatever the bytes. No condition. -/
import Derived.Test.YtaieeaniadgjiaaQFnTritsx2
set_option linter.unusedVariables false
set_option linter.unusedSimpArgs false
namespace Go.Proofs.Ytaieeaniadgjiaa.Pure.InFnTrits
open Go.RowKit Go.Proofs.Ytaieeaniadgjiaa.QFnTrits Go.Proofs.YtaieeaniadgjiaaW.PrintWords Go.Proofs.YtaieeaniadgjiaaW.PrintLast Go.Proofs.YtaieeaniadgjiaaW.PrintMore

theorem wr {x : Int} (h1 : -9223372036854775808 ≤ x) (h2 : x ≤ 9223372036854775807) : wrap64 x = x := by unfold wrap64; omega
theorem wfB {a : Int} (h : (Lit.int .i64 a).wf = true) : -9223372036854775808 ≤ a ∧ a ≤ 9223372036854775807 := by
  have h' := h
  simp only [Lit.wf, Bool.and_eq_true, decide_eq_true_eq] at h'
  exact h'
/-- A trit. -/
def isT (a : Int) : Bool := decide (-1 ≤ a ∧ a ≤ 1)
theorem isT_iff {a : Int} : isT a = true ↔ (-1 ≤ a ∧ a ≤ 1) := by simp [isT]

theorem impl_IsTrit_t (a : Int) : impl_IsTrit.f a = some (isT a) := by
  unfold impl_IsTrit.f isT
  by_cases h : a ≥ -1
  · have h' : -1 ≤ a := h
    rw [if_pos h]; simp [h']
  · have h' : ¬ -1 ≤ a := h
    rw [if_neg h]; simp [h']

theorem rd_nat (l : List Int) (j : Nat) : rd l (j : Int) = l.getD j 0 := by unfold rd; simp
theorem drop_cons (l : List Int) (j : Nat) (h : j < l.length) : l.drop j = l.getD j 0 :: l.drop (j + 1) := by
  rw [List.drop_eq_getElem_cons h]; simp [List.getD_eq_getElem?_getD, h]
theorem take_snoc (l : List Int) (j : Nat) (h : j < l.length) : l.take (j + 1) = l.take j ++ [l.getD j 0] := by
  rw [List.take_succ_eq_append_getElem h]; simp [List.getD_eq_getElem?_getD, h]

theorem impl_trits_l0 (l : List Int) (hl : l.length ≤ 9000000000000000000) (d : Nat) : ∀ (k j : Nat), j + d = l.length → d < k →
    impl_trits.l0 k l (l.length : Int) (j : Int) = some ((l.drop j).all isT) := by
  induction d with
  | zero =>
    intro k j hj hk
    obtain ⟨k, rfl⟩ : ∃ m, k = m + 1 := ⟨k - 1, by omega⟩
    simp only [impl_trits.l0]
    rw [if_neg (by omega), List.drop_eq_nil_of_le (by omega)]; rfl
  | succ d ih =>
    intro k j hj hk
    obtain ⟨k, rfl⟩ : ∃ m, k = m + 1 := ⟨k - 1, by omega⟩
    simp only [impl_trits.l0]
    rw [if_pos (by omega), if_pos (by omega), if_pos (by omega), impl_IsTrit_t, rd_nat, drop_cons l j (by omega)]
    simp only [Option.bind_some, List.all_cons]
    have e := ih k (j + 1) (by omega) (by omega)
    rw [wr (by omega) (by omega)]
    cases isT (l.getD j 0) with
    | false => rfl
    | true => simp only [if_true, Bool.true_and]; exact_mod_cast e
theorem impl_trits_t (k : Nat) (l : List Int) (hl : l.length ≤ 9000000000000000000) (hk : l.length < k) : impl_trits.f k l = some (l.all isT) := by
  have e := impl_trits_l0 l hl l.length k 0 (by omega) hk
  unfold impl_trits.f; simpa using e

/-- The trit of a small number, and the carry. -/
def crd (n : Int) : Int × Int := if n > 1 then (n - 3, 1) else if n < -1 then (n + 3, -1) else (n, 0)

theorem impl_carried_t (n : Int) (h : -1000 ≤ n ∧ n ≤ 1000) : impl_carried.f n = some (crd n) := by
  unfold impl_carried.f crd
  by_cases h1 : n > 1
  · rw [if_pos h1, if_pos h1, wr (by omega) (by omega)]
  · rw [if_neg h1, if_neg h1]
    by_cases h2 : n < -1
    · rw [if_pos h2, if_pos h2, wr (by omega) (by omega)]
    · rw [if_neg h2, if_neg h2]

theorem impl_FullAdd_t (k : Nat) (a b c : Int) (ha : -1 ≤ a ∧ a ≤ 1) (hb : -1 ≤ b ∧ b ≤ 1) (hc : -1 ≤ c ∧ c ≤ 1) (hk : 5 < k) : impl_FullAdd.f k a b c = some (crd (a + b + c)) := by
  unfold impl_FullAdd.f
  rw [impl_trits_t k _ (by simp) (by simp; omega)]
  simp only [List.all_cons, List.all_nil, Bool.and_true, Option.bind_some, isT_iff.mpr ha, isT_iff.mpr hb, isT_iff.mpr hc, if_true]
  rw [wr (x := a + b) (by omega) (by omega), wr (by omega) (by omega), impl_carried_t _ (by omega)]; rfl
theorem crd_trit (n : Int) (h : -3 ≤ n ∧ n ≤ 3) : (-1 ≤ (crd n).1 ∧ (crd n).1 ≤ 1) ∧ (-1 ≤ (crd n).2 ∧ (crd n).2 ≤ 1) := by
  unfold crd; split
  · simp; omega
  · split <;> simp <;> omega

theorem crd_sum (n : Int) (h : -3 ≤ n ∧ n ≤ 3) : (crd n).1 + 3 * (crd n).2 = n := by
  unfold crd; split
  · simp only; omega
  · split <;> simp only <;> omega

/-- The sign of a number. -/
def sgn (n : Int) : Int := if n < 0 then -1 else if n > 0 then 1 else 0

theorem impl_SignOf_t (n : Int) : impl_SignOf.f n = some (sgn n) := by
  unfold impl_SignOf.f sgn; split
  · rfl
  · split <;> rfl

theorem two_t (k : Nat) (a b : Int) (ha : -1 ≤ a ∧ a ≤ 1) (hb : -1 ≤ b ∧ b ≤ 1) (hk : 3 < k) : impl_trits.f k [a, b] = some true := by
  rw [impl_trits_t k _ (by simp) (by simp; omega)]
  simp only [List.all_cons, List.all_nil, Bool.and_true, isT_iff.mpr ha, isT_iff.mpr hb]
theorem impl_NotTrit_t (a : Int) (ha : -1 ≤ a ∧ a ≤ 1) : impl_NotTrit.f a = some (-a) := by
  unfold impl_NotTrit.f
  rw [impl_IsTrit_t, isT_iff.mpr ha, wr (by omega) (by omega)]; rfl
/-- TurnTrit. -/
def turnT (a : Int) : Int := (crd (a + 1)).1
theorem turn_b (a : Int) (ha : -1 ≤ a ∧ a ≤ 1) : -1 ≤ turnT a ∧ turnT a ≤ 1 := by
  obtain rfl | rfl | rfl : a = -1 ∨ a = 0 ∨ a = 1 := by omega
  all_goals decide
theorem turn3 (a : Int) (ha : -1 ≤ a ∧ a ≤ 1) : turnT (turnT (turnT a)) = a := by
  obtain rfl | rfl | rfl : a = -1 ∨ a = 0 ∨ a = 1 := by omega
  all_goals decide
theorem turn_ne (a : Int) (ha : -1 ≤ a ∧ a ≤ 1) : turnT a ≠ a := by
  obtain rfl | rfl | rfl : a = -1 ∨ a = 0 ∨ a = 1 := by omega
  all_goals decide
theorem impl_TurnTrit_t (a : Int) (ha : -1 ≤ a ∧ a ≤ 1) : impl_TurnTrit.f a = some (turnT a) := by
  unfold impl_TurnTrit.f
  rw [impl_IsTrit_t, isT_iff.mpr ha, wr (by omega) (by omega), impl_carried_t _ (by omega)]; rfl
theorem impl_MinTrits_t (k : Nat) (a b : Int) (ha : -1 ≤ a ∧ a ≤ 1) (hb : -1 ≤ b ∧ b ≤ 1) (hk : 3 < k) : impl_MinTrits.f k a b = some (mn a b) := by
  unfold impl_MinTrits.f; rw [two_t k a b ha hb hk]; rfl
theorem impl_MaxTrits_t (k : Nat) (a b : Int) (ha : -1 ≤ a ∧ a ≤ 1) (hb : -1 ≤ b ∧ b ≤ 1) (hk : 3 < k) : impl_MaxTrits.f k a b = some (mx a b) := by
  unfold impl_MaxTrits.f; rw [two_t k a b ha hb hk]; rfl
theorem impl_AgreeTrits_t (k : Nat) (a b : Int) (ha : -1 ≤ a ∧ a ≤ 1) (hb : -1 ≤ b ∧ b ≤ 1) (hk : 3 < k) : impl_AgreeTrits.f k a b = some (if a = b then a else 0) := by
  unfold impl_AgreeTrits.f; rw [two_t k a b ha hb hk]; simp only [Option.bind_some, if_true]; split <;> rfl
theorem impl_AnyTrits_t (k : Nat) (a b : Int) (ha : -1 ≤ a ∧ a ≤ 1) (hb : -1 ≤ b ∧ b ≤ 1) (hk : 3 < k) : impl_AnyTrits.f k a b = some (sgn (a + b)) := by
  unfold impl_AnyTrits.f; rw [two_t k a b ha hb hk, wr (by omega) (by omega), impl_SignOf_t]; rfl
theorem impl_TimesTrits_t (k : Nat) (a b : Int) (ha : -1 ≤ a ∧ a ≤ 1) (hb : -1 ≤ b ∧ b ≤ 1) (hk : 3 < k) : impl_TimesTrits.f k a b = some (a * b) := by
  have hp : -1 ≤ a * b ∧ a * b ≤ 1 := by
    obtain rfl | rfl | rfl : a = -1 ∨ a = 0 ∨ a = 1 := by omega
    all_goals omega
  unfold impl_TimesTrits.f; rw [two_t k a b ha hb hk, wr (by omega) (by omega)]; rfl
theorem impl_HalfAdd_t (k : Nat) (a b : Int) (ha : -1 ≤ a ∧ a ≤ 1) (hb : -1 ≤ b ∧ b ≤ 1) (hk : 3 < k) : impl_HalfAdd.f k a b = some (crd (a + b)) := by
  unfold impl_HalfAdd.f; rw [two_t k a b ha hb hk, wr (by omega) (by omega), impl_carried_t _ (by omega)]; rfl

theorem l2_step (k : Nat) (hk : 20 ≤ k) (a b c : Int) (ha : -1 ≤ a ∧ a ≤ 1) (hb : -1 ≤ b ∧ b ≤ 1) (hc : -1 ≤ c ∧ c ≤ 1) (x0 x18 : List Int) (x19 x20 : Int) (x43 : List Int) (x44 x45 : Int) (j : Nat) (hj : j < 3) (hg : rd [-1, 0, 1] (j : Int) = c) :
    laws_FnTrits.l2 (k + 1) x0 a b x18 x19 x20 x43 x44 x45 [-1, 0, 1] 3 (j : Int) = laws_FnTrits.l2 k x0 a b x18 x19 x20 x43 x44 x45 [-1, 0, 1] 3 ((j + 1 : Nat) : Int) := by
  have h1 := crd_sum (a + b + c) (by omega)
  have h2 := crd_trit (a + b + c) (by omega)
  have m1 : -1 ≤ mx b c ∧ mx b c ≤ 1 := by unfold mx; split <;> omega
  have m2 : -1 ≤ mn a b ∧ mn a b ≤ 1 := by unfold mn; split <;> omega
  have m3 : -1 ≤ mn a c ∧ mn a c ≤ 1 := by unfold mn; split <;> omega
  have e : mn a (mx b c) = mx (mn a b) (mn a c) := by unfold mx mn; (repeat' split) <;> omega
  have i1 : isT (crd (a + b + c)).1 = true := isT_iff.mpr h2.1
  have i2 : isT (crd (a + b + c)).2 = true := isT_iff.mpr h2.2
  have hl : ((([-1, 0, 1] : List Int).length : Nat) : Int) = 3 := rfl
  rw [laws_FnTrits.l2, hg, hl, if_pos (by omega), if_pos (by omega), if_pos (by omega), impl_FullAdd_t k a b c ha hb hc (by omega), Option.bind_some, impl_FullAdd_t k c a b hc ha hb (by omega), Option.bind_some, show c + a + b = a + b + c by omega,
    wr (x := 3 * (crd (a + b + c)).2) (by omega) (by omega), wr (x := (crd (a + b + c)).1 + 3 * (crd (a + b + c)).2) (by omega) (by omega), wr (x := a + b) (by omega) (by omega), wr (x := a + b + c) (by omega) (by omega), if_pos h1,
    impl_IsTrit_t, Option.bind_some, if_pos i1, impl_IsTrit_t, Option.bind_some, if_pos i2, if_pos rfl, if_pos rfl,
    impl_MaxTrits_t k b c hb hc (by omega), Option.bind_some, impl_MinTrits_t k a _ ha m1 (by omega), Option.bind_some, impl_MinTrits_t k a b ha hb (by omega), Option.bind_some, impl_MinTrits_t k a c ha hc (by omega), Option.bind_some, impl_MaxTrits_t k _ _ m2 m3 (by omega), Option.bind_some,
    if_pos e, wr (x := (j : Int) + 1) (by omega) (by omega), show (j : Int) + 1 = ((j + 1 : Nat) : Int) by omega]
theorem l2_all (k : Nat) (hk : 20 ≤ k) (a b : Int) (ha : -1 ≤ a ∧ a ≤ 1) (hb : -1 ≤ b ∧ b ≤ 1) (x0 x18 : List Int) (x19 x20 : Int) (x43 : List Int) (x44 x45 : Int) :
    laws_FnTrits.l2 (k + 4) x0 a b x18 x19 x20 x43 x44 x45 [-1, 0, 1] 3 ((0 : Nat) : Int) = laws_FnTrits.l1 k x0 a x18 x19 x20 x43 x44 (wrap64 (x45 + 1)) := by
  rw [l2_step (k + 3) (by omega) a b (-1) ha hb (by omega) x0 x18 x19 x20 x43 x44 x45 0 (by omega) rfl,
    l2_step (k + 2) (by omega) a b 0 ha hb (by omega) x0 x18 x19 x20 x43 x44 x45 1 (by omega) rfl,
    l2_step (k + 1) (by omega) a b 1 ha hb (by omega) x0 x18 x19 x20 x43 x44 x45 2 (by omega) rfl,
    laws_FnTrits.l2, if_neg (by omega)]
theorem l2_all0 (k : Nat) (hk : 20 ≤ k) (a b : Int) (ha : -1 ≤ a ∧ a ≤ 1) (hb : -1 ≤ b ∧ b ≤ 1) (x0 x18 : List Int) (x19 x20 : Int) (x43 : List Int) (x44 x45 : Int) :
    laws_FnTrits.l2 (k + 4) x0 a b x18 x19 x20 x43 x44 x45 [-1, 0, 1] 3 0 = laws_FnTrits.l1 k x0 a x18 x19 x20 x43 x44 (wrap64 (x45 + 1)) := l2_all k hk a b ha hb x0 x18 x19 x20 x43 x44 x45
theorem l1_step (k : Nat) (hk : 20 ≤ k) (a b : Int) (ha : -1 ≤ a ∧ a ≤ 1) (hb : -1 ≤ b ∧ b ≤ 1) (x0 x18 : List Int) (x19 x20 : Int) (j : Nat) (hj : j < 3) (hg : rd [-1, 0, 1] (j : Int) = b) :
    laws_FnTrits.l1 (k + 6) x0 a x18 x19 x20 [-1, 0, 1] 3 (j : Int) = laws_FnTrits.l1 k x0 a x18 x19 x20 [-1, 0, 1] 3 ((j + 1 : Nat) : Int) := by
  have h1 := crd_sum (a + b) (by omega)
  have h2 := crd_trit (a + b) (by omega)
  have m1 : -1 ≤ mn a b ∧ mn a b ≤ 1 := by unfold mn; split <;> omega
  have e : -(mn a b) = mx (-a) (-b) := by unfold mx mn; (repeat' split) <;> omega
  have g1 : -1 ≤ (if -a = -b then -a else 0) ∧ (if -a = -b then -a else 0) ≤ 1 := by split <;> omega
  have e2 : (if a = b then a else 0) = -(if -a = -b then -a else 0) := by (repeat' split) <;> omega
  have hp : -1 ≤ a * b ∧ a * b ≤ 1 := by
    obtain rfl | rfl | rfl : a = -1 ∨ a = 0 ∨ a = 1 := by omega
    all_goals omega
  have t : laws_trits.f = some [-1, 0, 1] := rfl
  have hl : ((([-1, 0, 1] : List Int).length : Nat) : Int) = 3 := rfl
  rw [laws_FnTrits.l1, hg, hl, if_pos (by omega), if_pos (by omega), if_pos (by omega), impl_HalfAdd_t _ a b ha hb (by omega), Option.bind_some, impl_MinTrits_t _ a b ha hb (by omega), Option.bind_some,
    impl_NotTrit_t _ m1, Option.bind_some, impl_NotTrit_t a ha, Option.bind_some, impl_NotTrit_t b hb, Option.bind_some, impl_MaxTrits_t _ (-a) (-b) (by omega) (by omega) (by omega), Option.bind_some,
    if_pos e, wr (x := 3 * (crd (a + b)).2) (by omega) (by omega), wr (x := (crd (a + b)).1 + 3 * (crd (a + b)).2) (by omega) (by omega), wr (x := a + b) (by omega) (by omega), if_pos h1, wr (x := -a) (by omega) (by omega), wr (x := -b) (by omega) (by omega),
    impl_AgreeTrits_t _ a b ha hb (by omega), Option.bind_some, impl_AgreeTrits_t _ (-a) (-b) (by omega) (by omega) (by omega), Option.bind_some, impl_NotTrit_t _ g1, Option.bind_some, if_pos e2,
    impl_AnyTrits_t _ a b ha hb (by omega), Option.bind_some, impl_SignOf_t, Option.bind_some, if_pos rfl, impl_TimesTrits_t _ a b ha hb (by omega), Option.bind_some, wr (x := a * b) (by omega) (by omega), bne_self_eq_false,
    laws_FnTrits.j3, if_neg (by simp), t, Option.bind_some, hl, l2_all0 k hk a b ha hb, wr (x := (j : Int) + 1) (by omega) (by omega), show (j : Int) + 1 = ((j + 1 : Nat) : Int) by omega]
theorem l1_all (k : Nat) (hk : 20 ≤ k) (a : Int) (ha : -1 ≤ a ∧ a ≤ 1) (x0 x18 : List Int) (x19 x20 : Int) :
    laws_FnTrits.l1 (k + 19) x0 a x18 x19 x20 [-1, 0, 1] 3 ((0 : Nat) : Int) = laws_FnTrits.l0 k x0 x18 x19 (wrap64 (x20 + 1)) := by
  rw [l1_step (k + 13) (by omega) a (-1) ha (by omega) x0 x18 x19 x20 0 (by omega) rfl,
    l1_step (k + 7) (by omega) a 0 ha (by omega) x0 x18 x19 x20 1 (by omega) rfl,
    l1_step (k + 1) (by omega) a 1 ha (by omega) x0 x18 x19 x20 2 (by omega) rfl,
    laws_FnTrits.l1, if_neg (by omega)]
theorem l1_all0 (k : Nat) (hk : 20 ≤ k) (a : Int) (ha : -1 ≤ a ∧ a ≤ 1) (x0 x18 : List Int) (x19 x20 : Int) :
    laws_FnTrits.l1 (k + 19) x0 a x18 x19 x20 [-1, 0, 1] 3 0 = laws_FnTrits.l0 k x0 x18 x19 (wrap64 (x20 + 1)) := l1_all k hk a ha x0 x18 x19 x20
theorem l0_step (k : Nat) (hk : 20 ≤ k) (a : Int) (ha : -1 ≤ a ∧ a ≤ 1) (x0 : List Int) (j : Nat) (hj : j < 3) (hg : rd [-1, 0, 1] (j : Int) = a) :
    laws_FnTrits.l0 (k + 21) x0 [-1, 0, 1] 3 (j : Int) = laws_FnTrits.l0 k x0 [-1, 0, 1] 3 ((j + 1 : Nat) : Int) := by
  have b1 := turn_b a ha
  have b2 := turn_b (turnT a) b1
  have hne : (turnT a == a) = false := by simpa using turn_ne a ha
  have t : laws_trits.f = some [-1, 0, 1] := rfl
  have hl : ((([-1, 0, 1] : List Int).length : Nat) : Int) = 3 := rfl
  rw [laws_FnTrits.l0, hg, hl, if_pos (by omega), if_pos (by omega), if_pos (by omega), impl_NotTrit_t a ha, Option.bind_some, impl_NotTrit_t (-a) (by omega), Option.bind_some, if_pos (by omega),
    impl_TurnTrit_t a ha, Option.bind_some, impl_TurnTrit_t _ b1, Option.bind_some, impl_TurnTrit_t _ b2, Option.bind_some, if_pos (turn3 a ha), Option.bind_some, hne, laws_FnTrits.j1, if_neg (by simp), t, Option.bind_some, hl,
    l1_all0 k hk a ha, wr (x := (j : Int) + 1) (by omega) (by omega), show (j : Int) + 1 = ((j + 1 : Nat) : Int) by omega]
theorem FnTrits : laws_FnTrits.Pure := by
  intro l h1 h2 h3
  refine ⟨21 + 63, ?_⟩
  unfold laws_FnTrits.f
  split
  · rfl
  · have e : laws_trits.f = some [-1, 0, 1] := rfl
    have hl : ((([-1, 0, 1] : List Int).length : Nat) : Int) = 3 := rfl
    rw [e, Option.bind_some, hl]
    have s0 := l0_step 63 (by omega) (-1) (by omega) l 0 (by omega) rfl
    have s1 := l0_step 42 (by omega) 0 (by omega) l 1 (by omega) rfl
    have s2 := l0_step 21 (by omega) 1 (by omega) l 2 (by omega) rfl
    have s3 : laws_FnTrits.l0 21 l [-1, 0, 1] 3 ((2 + 1 : Nat) : Int) = some true := by
      rw [show (21 : Nat) = 20 + 1 from rfl, laws_FnTrits.l0, if_neg (by omega), decide_eq_true (by omega)]
    exact s0.trans (s1.trans (s2.trans s3))

end Go.Proofs.Ytaieeaniadgjiaa.Pure.InFnTrits
namespace Go.Proofs.Ytaieeaniadgjiaa.Pure
theorem FnTrits : QFnTrits.laws_FnTrits.Pure := InFnTrits.FnTrits
end Go.Proofs.Ytaieeaniadgjiaa.Pure
