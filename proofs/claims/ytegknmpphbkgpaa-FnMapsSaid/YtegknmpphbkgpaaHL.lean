/- IsTable of program and reference says whether every number is a trit. No condition but nine numbers. -/
import Derived.Test.YtegknmpphbkgpaaProg
import Derived.Below
import Derived.WalkSpells
import Derived.Deep.Draws
import Derived.Deep.AppendLies
import Derived.Maps.AppendAt
import Derived.OwnWalk
import Derived.Laws.BytesArg
import Derived.Laws.MakeOwn
import Derived.Laws.OwnMore
import Derived.Deep.OwnRows
import Derived.Tactics
import Derived.Lib.ConvBytes
import Derived.Laws.Slices
import Derived.WalkKit
import Derived.KernelRfl
import Derived.RowKit3
import Derived.Deep.LoopGhost
import Derived.Deep.QuietTactic
import Derived.BigQuiet
import Derived.WideLaws
import Derived.Deep.DeepCutAuto
import Derived.Deep.CutBlock
import Derived.Deep.RegionHeld3
import Derived.Laws.Rows
import Derived.Lib.AppendStr
import Derived.ArgAppend
import Derived.Laws.IdiomCopy
import Derived.OrdersHeld
import Derived.Laws.BitsLemmas
import Derived.RowKit
import Derived.Test.YtegknmpphbkgpaaWWords
import Derived.Test.YtegknmpphbkgpaaWLast
import Derived.Test.YtegknmpphbkgpaaWTab
import Derived.Test.YtegknmpphbkgpaaWFour
import Derived.Test.YtegknmpphbkgpaaWQPut
import Derived.Test.YtegknmpphbkgpaaWApart
import Derived.Test.YtegknmpphbkgpaaWArr
import Derived.Test.YtegknmpphbkgpaaWZeros
import Derived.Test.YtegknmpphbkgpaaWFoot
import Derived.Test.YtegknmpphbkgpaaWKept
import Derived.Test.YtegknmpphbkgpaaWShare
import Derived.Test.YtegknmpphbkgpaaWN
import Derived.Test.YtegknmpphbkgpaaWFootNe
import Derived.Test.YtegknmpphbkgpaaWAt
import Derived.Test.YtegknmpphbkgpaaWEqStruct
import Derived.Test.YtegknmpphbkgpaaWRepsOne
import Derived.Test.YtegknmpphbkgpaaWInv
import Derived.Test.YtegknmpphbkgpaaWInvWords
import Derived.Test.YtegknmpphbkgpaaWGuard
import Derived.Test.YtegknmpphbkgpaaWNEv
import Derived.Test.YtegknmpphbkgpaaWMore
import Derived.Test.YtegknmpphbkgpaaHA
import Derived.Test.YtegknmpphbkgpaaPFnExactMapOfx1
set_option linter.unusedVariables false
set_option linter.unusedSimpArgs false
namespace Go.Proofs.Ytegknmpphbkgpaa.HL
open Go.RowKit Go.Proofs.YtegknmpphbkgpaaW.PrintWords Go.Proofs.YtegknmpphbkgpaaW.PrintLast Go.Proofs.YtegknmpphbkgpaaW.PrintMore Go.Proofs.Ytegknmpphbkgpaa.HA Go.Proofs.Ytegknmpphbkgpaa.PFnExactMapOf
theorem wr {x : Int} (h1 : -9223372036854775808 ≤ x) (h2 : x ≤ 9223372036854775807) : wrap64 x = x := by unfold wrap64; omega
theorem wfB {a : Int} (h : (Lit.int .i64 a).wf = true) : -9223372036854775808 ≤ a ∧ a ≤ 9223372036854775807 := by
  have h' := h
  simp only [Lit.wf, Bool.and_eq_true, decide_eq_true_eq] at h'
  exact h'
/-- A trit. -/
def isT (a : Int) : Bool := decide (-1 ≤ a ∧ a ≤ 1)
theorem isT_iff {a : Int} : isT a = true ↔ (-1 ≤ a ∧ a ≤ 1) := by simp [isT]
theorem spec_l1In_t (a b c : Int) : spec_l1In.f a b c = some (decide (b ≤ a ∧ a ≤ c)) := by
  unfold spec_l1In.f
  by_cases h : a ≥ b
  · have h' : b ≤ a := h
    rw [if_pos h]; simp [h']
  · have h' : ¬ b ≤ a := h
    rw [if_neg h]; simp [h']
theorem spec_IsTrit_t (a : Int) : spec_IsTrit.f a = some (isT a) := by
  unfold spec_IsTrit.f; rw [spec_l1In_t]; rfl
theorem spec_l1Two_t (a b : Int) : spec_l1Two.f a b = some (isT a && isT b) := by
  unfold spec_l1Two.f; rw [spec_IsTrit_t, spec_IsTrit_t]; cases isT a <;> simp
theorem impl_IsTrit_t (a : Int) : impl_IsTrit.f a = some (isT a) := by
  unfold impl_IsTrit.f isT
  by_cases h : a ≥ -1
  · have h' : -1 ≤ a := h
    rw [if_pos h]; simp [h']
  · have h' : ¬ -1 ≤ a := h
    rw [if_neg h]; simp [h']
theorem rd_nat (l : List Int) (j : Nat) : rd l (j : Int) = l.getD j 0 := by unfold rd; simp
theorem drop_cons (l : List Int) (j : Nat) (h : j < l.length) : l.drop j = l.getD j 0 :: l.drop (j + 1) := by
  rw [List.drop_eq_getElem_cons h]; simp [List.getD_eq_getElem?_getD, h]
theorem take_snoc (l : List Int) (j : Nat) (h : j < l.length) : l.take (j + 1) = l.take j ++ [l.getD j 0] := by
  rw [List.take_succ_eq_append_getElem h]; simp [List.getD_eq_getElem?_getD, h]
theorem impl_trits_l0 (l : List Int) (hl : l.length ≤ 9000000000000000000) (d : Nat) : ∀ (k j : Nat), j + d = l.length → d < k →
    impl_trits.l0 k l (l.length : Int) (j : Int) = some ((l.drop j).all isT) := by
  induction d with
  | zero =>
    intro k j hj hk
    obtain ⟨k, rfl⟩ : ∃ m, k = m + 1 := ⟨k - 1, by omega⟩
    simp only [impl_trits.l0]
    rw [if_neg (by omega), List.drop_eq_nil_of_le (by omega)]; rfl
  | succ d ih =>
    intro k j hj hk
    obtain ⟨k, rfl⟩ : ∃ m, k = m + 1 := ⟨k - 1, by omega⟩
    simp only [impl_trits.l0]
    rw [if_pos (by omega), if_pos (by omega), if_pos (by omega), impl_IsTrit_t, rd_nat, drop_cons l j (by omega)]
    simp only [Option.bind_some, List.all_cons]
    have e := ih k (j + 1) (by omega) (by omega)
    rw [wr (by omega) (by omega)]
    cases isT (l.getD j 0) with
    | false => rfl
    | true => simp only [if_true, Bool.true_and]; exact_mod_cast e
theorem impl_trits_t (k : Nat) (l : List Int) (hl : l.length ≤ 9000000000000000000) (hk : l.length < k) : impl_trits.f k l = some (l.all isT) := by
  have e := impl_trits_l0 l hl l.length k 0 (by omega) hk
  unfold impl_trits.f; simpa using e
theorem sIsTrit (a : Int) (w : World) : Calls Try.prog 46 #[.int .i64 a] w fun e w' => e = .returned (.bool (isT a)) ∧ Drawn0 w w' := spec_IsTrit.calls a _ w (spec_IsTrit_t a)
theorem sTwo (a b : Int) (w : World) : Calls Try.prog 48 #[.int .i64 a, .int .i64 b] w fun e w' => e = .returned (.bool (isT a && isT b)) ∧ Drawn0 w w' := spec_l1Two.calls a b _ w (spec_l1Two_t a b)
theorem iTrits (g : Nat) (t : TypeId) (l : List Int) (n : Nat) (hl : l.length = n) (hn : n ≤ 9000000000000000000) (w : World) (h : Blk w g t l) : Calls Try.prog 47 #[.slice (some ⟨g, 0, none⟩) n n] w fun e w' => e = .returned (.bool (l.all isT)) ∧ Drawn0 w w' := by
  subst hl
  exact impl_trits.calls (l.length + 1) _ l.length l _ w (h.toC (by omega)) (Nat.le_refl _) (impl_trits_t _ l hn (by omega))
theorem all_step (l : List Int) (j : Nat) (hj : j < l.length) (h : (l.take j).all isT = true) : (l.take (j + 1)).all isT = isT (gt l j) := by
  rw [List.take_succ_eq_append_getElem hj, List.all_append, h]
  simp [gt, List.getD_eq_getElem?_getD, hj]
theorem all_not (l : List Int) (j : Nat) (hj : j < l.length) (h : isT (gt l j) = false) : l.all isT = false := by
  rw [Bool.eq_false_iff]
  intro hh
  have := List.all_eq_true.mp hh (l[j]) (List.getElem_mem hj)
  have e : gt l j = l[j] := by simp [gt, List.getD_eq_getElem?_getD, hj]
  rw [e, this] at h
  cases h
set_option maxHeartbeats 1000000 in
theorem sIsTable (l : List Int) (hl : l.length = 9) (w : World) :
    Calls Try.prog 15 #[.agg (l.map (Value.int .i64)).toArray] w fun e w' => e = .returned (.bool (l.all isT)) ∧ Below w.heap.size w w' := by
  have HL := Aside0.mk hl
  clear hl
  go_enter Try.func15, Try.ntmps15
  go_wp2
  go_loopw [3] (fun v3 w' => ∃ j : Nat, j ≤ 9 ∧ v3 = .int .i64 j ∧ Aside0 (Blk w' w.heap.size 24 l) ∧ Aside0 ((l.take j).all isT = true) ∧ Aside0 (Below w.heap.size w w')) (fun v3 _ => 9 - (intOf v3).toNat)
  case atStart => exact ⟨0, by omega, rfl, ⟨Blk.made w 24 l⟩, ⟨rfl⟩, ⟨below_alloc (Below.refl _ _) _⟩⟩
  case round =>
    obtain ⟨j, hj, rfl, H1, HT, HB⟩ := hrel
    by_cases hlt : j < 9
    · have hx := H1.out.cell j (by rw [HL.out]; exact hlt)
      have HX := Aside0.mk (all_step l j (by rw [HL.out]; exact hlt) HT.out)
      by_cases he : isT (gt l j) = true
      · have he2 : (!isT (gt l j)) = false := by rw [he]; rfl
        have HE := Aside0.mk he
        clear he
        go_wp2_with (go_at_call 46; refine (sIsTrit _ _).mono ?_; rintro e w' ⟨rfl, ⟨n1, rfl⟩⟩)
        go_roundw
        case rel => exact ⟨j + 1, by omega, by simp, ⟨H1.out⟩, ⟨HX.out.trans HE.out⟩, ⟨by repeat (first | (with_reducible first | exact HB.out | apply below_alloc | apply pw_below_drewN | apply below_drew1) | exact HB.out)⟩⟩
        case measure => simp [intOf]; omega
      · have he2 : (!isT (gt l j)) = true := by simpa using he
        have HE := Aside0.mk (all_not l j (by rw [HL.out]; exact hlt) (by simpa using he))
        clear he
        go_wp2_with (go_at_call 46; refine (sIsTrit _ _).mono ?_; rintro e w' ⟨rfl, ⟨n1, rfl⟩⟩)
        go_ret
        exact ⟨by rw [HE.out]; rfl, by repeat (first | (with_reducible first | exact HB.out | apply below_alloc | apply pw_below_drewN | apply below_drew1) | exact HB.out)⟩
    · have hjn : j = 9 := by omega
      subst hjn
      have HE := Aside0.mk HT.out
      rw [List.take_of_length_le (by rw [HL.out]; exact Nat.le_refl _)] at HE
      go_wp2
      go_ret
      exact ⟨by rw [HE.out]; rfl, by repeat (first | (with_reducible first | exact HB.out | apply below_alloc | apply pw_below_drewN | apply below_drew1) | exact HB.out)⟩
set_option maxHeartbeats 1000000 in
theorem iIsTable (l : List Int) (hl : l.length = 9) (w : World) :
    Calls Try.prog 17 #[.agg (l.map (Value.int .i64)).toArray] w fun e w' => e = .returned (.bool (l.all isT)) ∧ Below w.heap.size w w' := by
  have HL := Aside0.mk hl
  clear hl
  have HB := Aside0.mk (below_alloc (Below.refl w.heap.size w) (Obj.cells (List.map (Value.int IntKind.i64) l).toArray 24))
  have HC := Aside0.mk (iTrits w.heap.size 24 l 9 HL.out (by omega) _ (Blk.made w 24 l))
  go_enter Try.func17, Try.ntmps17
  go_wp2_with (go_at_call 47; refine HC.out.mono ?_; rintro e w' ⟨rfl, ⟨n1, rfl⟩⟩)
  go_ret
  exact ⟨rfl, by repeat (first | (with_reducible first | exact HB.out | apply below_alloc | apply pw_below_drewN | apply below_drew1) | exact HB.out)⟩
end Go.Proofs.Ytegknmpphbkgpaa.HL
