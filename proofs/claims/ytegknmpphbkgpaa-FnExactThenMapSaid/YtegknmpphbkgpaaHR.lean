/- How an array of whole numbers that came in is read. No condition. -/
import Derived.Test.YtegknmpphbkgpaaProg
import Derived.Below
import Derived.WalkSpells
import Derived.Deep.Draws
import Derived.Deep.AppendLies
import Derived.Maps.AppendAt
import Derived.OwnWalk
import Derived.Laws.BytesArg
import Derived.Laws.MakeOwn
import Derived.Laws.OwnMore
import Derived.Deep.OwnRows
import Derived.Tactics
import Derived.Lib.ConvBytes
import Derived.Laws.Slices
import Derived.WalkKit
import Derived.KernelRfl
import Derived.RowKit3
import Derived.Deep.LoopGhost
import Derived.Deep.QuietTactic
import Derived.BigQuiet
import Derived.WideLaws
import Derived.Deep.DeepCutAuto
import Derived.Deep.CutBlock
import Derived.Deep.RegionHeld3
import Derived.Laws.Rows
import Derived.Lib.AppendStr
import Derived.ArgAppend
import Derived.Laws.IdiomCopy
import Derived.OrdersHeld
import Derived.Laws.BitsLemmas
import Derived.RowKit
import Derived.Test.YtegknmpphbkgpaaWWords
import Derived.Test.YtegknmpphbkgpaaWLast
import Derived.Test.YtegknmpphbkgpaaWTab
import Derived.Test.YtegknmpphbkgpaaWFour
import Derived.Test.YtegknmpphbkgpaaWQPut
import Derived.Test.YtegknmpphbkgpaaWApart
import Derived.Test.YtegknmpphbkgpaaWArr
import Derived.Test.YtegknmpphbkgpaaWZeros
import Derived.Test.YtegknmpphbkgpaaWFoot
import Derived.Test.YtegknmpphbkgpaaWKept
import Derived.Test.YtegknmpphbkgpaaWShare
import Derived.Test.YtegknmpphbkgpaaWN
import Derived.Test.YtegknmpphbkgpaaWFootNe
import Derived.Test.YtegknmpphbkgpaaWAt
import Derived.Test.YtegknmpphbkgpaaWEqStruct
import Derived.Test.YtegknmpphbkgpaaWRepsOne
import Derived.Test.YtegknmpphbkgpaaWInv
import Derived.Test.YtegknmpphbkgpaaWInvWords
import Derived.Test.YtegknmpphbkgpaaWGuard
import Derived.Test.YtegknmpphbkgpaaWNEv
import Derived.Test.YtegknmpphbkgpaaWMore
import Derived.ProofKit
import Derived.OpenShut
import Derived.ShutString
import Derived.ChangeOld
import Derived.SizedLaws
import Derived.ChangeSame
import Derived.ChangeArms
set_option linter.unusedVariables false
set_option linter.unusedSimpArgs false
namespace Go.Proofs.Ytegknmpphbkgpaa.HR
open Go.RowKit Go.Proofs.YtegknmpphbkgpaaW.PrintWords Go.Proofs.YtegknmpphbkgpaaW.PrintLast Go.Proofs.YtegknmpphbkgpaaW.PrintMore
open Go.ChangeShapes Go.WideShapes Go.ChangeAt
section
variable {H : Type} {enc : TypeId × Value → H} {P : Program} {t e : TypeId} {n : Nat} {q : IntKind} {W : World} {base : Nat} {sp : Nat → Bool} {held : Bool}
theorem mapM_ints (he : P.underlying e = some (.int q)) {m : Nat} {cs : List Value} {c : Nat} : ∀ (L : List Nat) (xs : List (DataW H × List MemPlace)),
    L.mapM (fun i => DataW.trod enc P W base sp held m e ((cs.drop (i * c)).take c)) = some xs →
    ∃ l : List Int, l.length = L.length ∧ (xs = l.map (fun a => (.lit (.int q a), []))) ∧ (∀ a ∈ l, (Lit.int q a).wf = true) ∧ ∀ (k i : Nat) (a : Int), L[k]? = some i → l[k]? = some a → (cs.drop (i * c)).take c = [.int q a]
  | [], xs, h => by
    simp at h
    subst h
    exact ⟨[], rfl, rfl, fun a h => by simp at h, fun k i a h => by simp at h⟩
  | i :: L, xs, h => by
    rw [List.mapM_cons] at h
    simp only [bind, Option.bind_eq_some_iff, pure, Option.some.injEq] at h
    obtain ⟨y, hy, ys, hys, rfl⟩ := h
    obtain ⟨l, hl, rfl, hw, hc⟩ := mapM_ints he L ys hys
    obtain ⟨a, ea, rfl, wa⟩ := DataW.trod_int he hy
    refine ⟨a :: l, by simp [hl], rfl, fun b hb => ?_, fun k i' a' h1 h2 => ?_⟩
    · rcases List.mem_cons.1 hb with rfl | hb
      · exact wa
      · exact hw b hb
    · cases k with
      | zero =>
        have e1 : i = i' := by simpa using h1
        have e2 : a = a' := by simpa using h2
        rw [← e1, ← e2]
        exact ea
      | succ k => exact hc k i' a' (by simpa using h1) (by simpa using h2)
theorem mapM_all {α β : Type} {F : α → Option β} {G : α → β} : ∀ (L : List α), (∀ i ∈ L, F i = some (G i)) → L.mapM F = some (L.map G)
  | [], _ => rfl
  | i :: L, h => by
    rw [List.mapM_cons, h i List.mem_cons_self, mapM_all L fun j hj => h j (List.mem_cons_of_mem _ hj)]
    rfl
/-- An array of whole numbers that came in: its numbers. -/
theorem open_ints (hu : P.underlying t = some (.array n e)) (one : P.cellsOf e = 1) (size : P.cellsOf t = n) (he : P.underlying e = some (.int q)) {v : Value} {d : DataW H} {ps : List MemPlace} {r : Reach} {b0 : Nat}
    (hv : Value.okWide P W r b0 t v) (hd : DataW.Trod enc P W base sp held t v d ps) :
    ∃ l : List Int, l.length = n ∧ v = .agg (l.map (Value.int q)).toArray ∧ d = .agg (l.map fun a => .lit (.int q a)) ∧ ps = [] ∧ ∀ a ∈ l, (Lit.int q a).wf = true := by
  simp only [Value.okWide, hu] at hv
  obtain ⟨cs, rfl, h2, _⟩ := hv
  rw [size] at h2
  obtain ⟨fuel, hf⟩ := hd
  cases fuel with
  | zero => simp [DataW.trod] at hf
  | succ m =>
    rw [DataW.trod_step] at hf
    unfold DataW.trodStep at hf
    simp only [hu, Value.cells] at hf
    rw [if_pos (by rw [size]; simpa using h2)] at hf
    simp only [Option.map_eq_some_iff] at hf
    obtain ⟨ys, hy, e1⟩ := hf
    obtain ⟨l, hl, rfl, hw, hc⟩ := mapM_ints he _ ys hy
    rw [List.length_range] at hl
    simp only [Prod.mk.injEq] at e1
    refine ⟨l, hl, ?_, by rw [← e1.1]; simp [Function.comp_def], by rw [← e1.2]; simp [List.flatMap_eq_nil_iff], hw⟩
    congr 1
    apply Array.ext'
    apply List.ext_getElem?
    intro k
    rcases Nat.lt_or_ge k n with hk | hk
    · have hkl : k < l.length := by omega
      have hkc : k < cs.toList.length := by simp; omega
      have h3 := hc k k _ (by simp [hk]) (List.getElem?_eq_getElem hkl)
      rw [one, Nat.mul_one, List.drop_eq_getElem_cons hkc] at h3
      have h5 := congrArg List.head? h3
      rw [List.take_succ_cons] at h5
      have h4 : cs.toList[k] = Value.int q l[k] := Option.some.inj h5
      rw [List.getElem?_eq_getElem hkc, h4]
      simp [hkl]
    · rw [List.getElem?_eq_none (by simp; omega), List.getElem?_eq_none (by simp; omega)]
/-- An array of whole numbers reads as its numbers. -/
theorem shut_ints (hu : P.underlying t = some (.array n e)) (one : P.cellsOf e = 1) (size : P.cellsOf t = n) (he : P.underlying e = some (.int q)) {l : List Int} (hl : l.length = n) (hw : ∀ a ∈ l, (Lit.int q a).wf = true) :
    DataW.Trod enc P W base sp held t (.agg (l.map (Value.int q)).toArray) (.agg (l.map fun a => .lit (.int q a))) [] := by
  refine ⟨2, ?_⟩
  rw [DataW.trod_step]
  unfold DataW.trodStep
  simp only [hu, Value.cells]
  rw [if_pos (by rw [size]; simpa using hl), mapM_all (G := fun i => ((DataW.lit (Lit.int q (l.getD i 0)) : DataW H), ([] : List MemPlace)))]
  · simp only [Option.map_some]
    congr 1
    refine Prod.ext ?_ ?_
    · simp only [List.map_map]
      congr 1
      apply List.ext_getElem?
      intro k
      rcases Nat.lt_or_ge k n with hk | hk
      · simp [hk, hl, List.getD_eq_getElem?_getD]
      · rw [List.getElem?_eq_none (by simp; omega), List.getElem?_eq_none (by simp; omega)]
    · simp [List.flatMap_eq_nil_iff]
  · intro i hi
    have hin : i < n := by simpa using hi
    have hil : i < l.length := by omega
    rw [one, Nat.mul_one]
    have hs : (((l.map (Value.int q)).toArray.toList.drop i).take 1) = [Value.int q (l.getD i 0)] := by
      rw [List.drop_eq_getElem_cons (by simpa using hil)]
      simp [List.getD_eq_getElem?_getD, hil]
    rw [hs]
    unfold DataW.trod
    rw [he]
    have h6 : (Lit.int q (l.getD i 0)).wf = true := by
      refine hw _ ?_
      rw [List.getD_eq_getElem?_getD, List.getElem?_eq_getElem hil]
      exact List.getElem_mem hil
    simp only [h6, and_self, if_true]
end
theorem one3 : Try.prog.cellsOf 3 = 1 := by kernel_rfl
theorem size22 : Try.prog.cellsOf 22 = 9 := by kernel_rfl
theorem size29 : Try.prog.cellsOf 29 = 3 := by kernel_rfl
end Go.Proofs.Ytegknmpphbkgpaa.HR
