/- The law of tables holds, whatever the bytes. -/
import Derived.Test.YtegknmpphbkgpaaProg
import Derived.Below
import Derived.WalkSpells
import Derived.Deep.Draws
import Derived.Deep.AppendLies
import Derived.Maps.AppendAt
import Derived.OwnWalk
import Derived.Laws.BytesArg
import Derived.Laws.MakeOwn
import Derived.Laws.OwnMore
import Derived.Deep.OwnRows
import Derived.Tactics
import Derived.Lib.ConvBytes
import Derived.Laws.Slices
import Derived.WalkKit
import Derived.KernelRfl
import Derived.RowKit3
import Derived.Deep.LoopGhost
import Derived.Deep.QuietTactic
import Derived.BigQuiet
import Derived.WideLaws
import Derived.Deep.DeepCutAuto
import Derived.Deep.CutBlock
import Derived.Deep.RegionHeld3
import Derived.Laws.Rows
import Derived.Lib.AppendStr
import Derived.ArgAppend
import Derived.Laws.IdiomCopy
import Derived.OrdersHeld
import Derived.Laws.BitsLemmas
import Derived.RowKit
import Derived.Test.YtegknmpphbkgpaaWWords
import Derived.Test.YtegknmpphbkgpaaWLast
import Derived.Test.YtegknmpphbkgpaaWTab
import Derived.Test.YtegknmpphbkgpaaWFour
import Derived.Test.YtegknmpphbkgpaaWQPut
import Derived.Test.YtegknmpphbkgpaaWApart
import Derived.Test.YtegknmpphbkgpaaWArr
import Derived.Test.YtegknmpphbkgpaaWZeros
import Derived.Test.YtegknmpphbkgpaaWFoot
import Derived.Test.YtegknmpphbkgpaaWKept
import Derived.Test.YtegknmpphbkgpaaWShare
import Derived.Test.YtegknmpphbkgpaaWN
import Derived.Test.YtegknmpphbkgpaaWFootNe
import Derived.Test.YtegknmpphbkgpaaWAt
import Derived.Test.YtegknmpphbkgpaaWEqStruct
import Derived.Test.YtegknmpphbkgpaaWRepsOne
import Derived.Test.YtegknmpphbkgpaaWInv
import Derived.Test.YtegknmpphbkgpaaWInvWords
import Derived.Test.YtegknmpphbkgpaaWGuard
import Derived.Test.YtegknmpphbkgpaaWNEv
import Derived.Test.YtegknmpphbkgpaaWMore
import Derived.ChangeKeysEq
import Derived.Test.YtegknmpphbkgpaaHG2
import Derived.Test.YtegknmpphbkgpaaHC
set_option linter.unusedVariables false
set_option linter.unusedSimpArgs false
namespace Go.Proofs.Ytegknmpphbkgpaa.LFnTables
open Go.RowKit Go.Proofs.YtegknmpphbkgpaaW.PrintWords Go.Proofs.YtegknmpphbkgpaaW.PrintLast Go.Proofs.YtegknmpphbkgpaaW.PrintMore Go.Proofs.Ytegknmpphbkgpaa.HA Go.Proofs.Ytegknmpphbkgpaa.HC Go.Proofs.Ytegknmpphbkgpaa.HL Go.Proofs.Ytegknmpphbkgpaa.HM Go.Proofs.Ytegknmpphbkgpaa.HK Go.Proofs.Ytegknmpphbkgpaa.HD Go.Proofs.Ytegknmpphbkgpaa.HS Go.Proofs.Ytegknmpphbkgpaa.HF Go.Proofs.Ytegknmpphbkgpaa.HP Go.Proofs.Ytegknmpphbkgpaa.HQ Go.Proofs.Ytegknmpphbkgpaa.HW Go.Proofs.Ytegknmpphbkgpaa.HV Go.Proofs.Ytegknmpphbkgpaa.HO Go.Proofs.Ytegknmpphbkgpaa.HO2 Go.Proofs.Ytegknmpphbkgpaa.HG Go.Proofs.Ytegknmpphbkgpaa.HG2 Go.Proofs.Ytegknmpphbkgpaa.QFnTables
open Go.BigFrame
section
variable {P : Program} {w : World}
theorem items_same {d : Nat} {e : TypeId} (he : P.underlying e = some (.int .i64)) (l : List Int) : ∀ (is : List Nat), (∀ i ∈ is, i < l.length) → (Op.eqItems (d + 1) e 1 (l.map (Value.int .i64)).toArray (l.map (Value.int .i64)).toArray is).run P w = .ok true w
  | [], _ => by simp [Op.eqItems]
  | i :: is, h => by
    have hi := h i (by simp)
    have hx : (l.map (Value.int .i64)).toArray[i]? = some (.int .i64 (gt l i)) := by simp [gt, List.getD_eq_getElem?_getD, hi]
    have hp : (part e (l.map (Value.int .i64)).toArray i).run P w = .ok (.int .i64 (gt l i)) w := by
      simp only [part, isAgg, Sem.run_bind, run_underlying he, Result.andThen_ok, Sem.run_pure, Bool.false_eq_true, if_false, hx]
    have hq : (Op.equalIn (d + 1) e (.int .i64 (gt l i)) (.int .i64 (gt l i))).run P w = .ok true w := by
      rw [run_equalIn_int w d e .i64 .i64 _ _ he]
      simp
    simp only [Op.eqItems, Sem.run_bind, Nat.mul_one, hp, hq, Result.andThen_ok, Bool.not_true, Bool.false_eq_true, if_false]
    exact items_same he l is fun j hj => h j (by simp [hj])
theorem equal_same {t e : TypeId} {n : Nat} {i : TypeInfo} (hu : P.underlying t = some (.array n e)) (he : P.underlying e = some (.int .i64)) (hi : P.info? e = some i) (hc : P.cellsOf e = 1) (l : List Int) (hl : l.length = n) :
    (Op.equal t (.agg (l.map (Value.int .i64)).toArray) (.agg (l.map (Value.int .i64)).toArray)).run P w = .ok true w := by
  unfold Op.equal
  rw [show Op.maxDepth = 9999 + 1 from rfl, run_equalIn_array w 9999 _ _ hu hi, hc]
  exact items_same he l _ fun j hj => by rw [hl]; exact List.mem_range.mp hj
variable {a : Act} {o : Oper}
theorem quiet_neq_same {ι : Type} {F : ι → World} {K : Act → Prop} (t : TypeId) (x y : Operand) (ty : TypeId) (ho : o.op = .binOp .neq t x y ty) (l : List Int) (hx : a.eval x = .agg (l.map (Value.int .i64)).toArray) (hy : a.eval y = .agg (l.map (Value.int .i64)).toArray)
    (hg : P.eqGuardType P.depth t = false) (he : ∀ w, (Op.equal t (.agg (l.map (Value.int .i64)).toArray) (.agg (l.map (Value.int .i64)).toArray)).run P w = .ok true w) (h : K (a.put o.dst (.bool false))) : o.quiet P a (fun w' => ∃ i, w' = F i) K := by
  refine ⟨_, fun w hw => ?_, h⟩
  unfold Oper.quietAt execOp
  simp only [ho, hx, hy, eqGuard, binOp, Sem.run_bind, run_program, hg, he, Result.andThen_ok, Sem.run_pure, Bool.not_true, Bool.not_false, if_true, Bool.false_eq_true, if_false]
  exact ⟨rfl, rfl⟩
theorem quiet_eql_same {ι : Type} {F : ι → World} {K : Act → Prop} (t : TypeId) (x y : Operand) (ty : TypeId) (ho : o.op = .binOp .eql t x y ty) (l : List Int) (hx : a.eval x = .agg (l.map (Value.int .i64)).toArray) (hy : a.eval y = .agg (l.map (Value.int .i64)).toArray)
    (hg : P.eqGuardType P.depth t = false) (he : ∀ w, (Op.equal t (.agg (l.map (Value.int .i64)).toArray) (.agg (l.map (Value.int .i64)).toArray)).run P w = .ok true w) (h : K (a.put o.dst (.bool true))) : o.quiet P a (fun w' => ∃ i, w' = F i) K := by
  refine ⟨_, fun w hw => ?_, h⟩
  unfold Oper.quietAt execOp
  simp only [ho, hx, hy, eqGuard, binOp, Sem.run_bind, run_program, hg, he, Result.andThen_ok, Sem.run_pure, Bool.not_true, Bool.not_false, if_true, Bool.false_eq_true, if_false]
  exact ⟨rfl, rfl⟩
end
attribute [local go_sem] max2_int min2_int max_two min_two

set_option maxRecDepth 100000 in
set_option maxHeartbeats 8000000 in
theorem lawCore (A0 : Option Addr) (c0 : Nat) (l0 : List Int) (w : World) (hr0 : Kd.C (Kd.int .u8) w A0 l0.length l0) (hc0 : l0.length ≤ c0) :
    Calls Try.prog 13 #[.slice A0 l0.length c0] w fun e w' => e = .returned (.bool true) ∧ Below w.heap.size w w' := by
  by_cases hbig : (l0.length : Int) > 1048576
  · have hb0 : decide ((l0.length : Int) > 1048576) = true := decide_eq_true hbig
    go_enter Try.func13, Try.ntmps13
    go_wp2
    go_ret
    exact ⟨rfl, Below.refl _ _⟩
  · have hb0 : decide ((l0.length : Int) > 1048576) = false := decide_eq_false hbig
    have hb1 : ¬ (1048576 : Int) < l0.length := hbig
    have SM := Aside0.mk (makeTable_calls A0 c0 l0 w hr0 hc0 (by omega))
    clear hr0 hc0 hbig
    go_enter Try.func13, Try.ntmps13
    go_upto_region 4 with (first
      | (go_at_call 39; refine SM.out.mono ?_; rintro e w1 ⟨⟨T, hT, hA, rfl⟩, hb⟩; have HT := Aside0.mk hT; have HTA := Aside0.mk hA; have HIL := Aside0.mk (show (Try.prog.info? 24).map (·.size) = some (T.map (Value.int .i64)).toArray.size by rw [info24]; simp [hT]); have HS9 := Aside0.mk (show (T.map (Value.int .i64)).toArray.size = 9 by simp [hT]); have HAO := Aside0.mk (all_one T); have HB1 := Aside0.mk hb; clear hT hA hb SM)
      | (refine wpList_store_row rfl 24 _ _ rfl w1.heap.size (T.map (Value.int .i64)).toArray rfl rfl 24 _ (Blk.made w1 24 (List.replicate 9 0)) HIL.out (by rw [HS9.out]; rfl) HAO.out ?_; have KT := Aside0.mk ((Blk.made w1 24 (List.replicate 9 0)).setRow T); have HB2 := Aside0.mk (belowRow (below_alloc HB1.out (Obj.cells (List.map (Value.int IntKind.i64) (List.replicate 9 0)).toArray 24)) HB1.out.size (T.map (Value.int .i64)).toArray); clear HB1))
    have hT := HT.out
    have hA := HTA.out
    have hS9 : (genL (swapF T)).length = 9 := genL_len _
    have hD9 : (genL (dualF T)).length = 9 := genL_len _
    obtain ⟨str, hstr⟩ : ∃ s, s = fmtL T := ⟨_, rfl⟩
    obtain ⟨p1, p2, p3⟩ := par_fmt T hT hA
    rw [← hstr] at p1 p2 p3
    have FM : Aside0 (∀ (w : World), Calls Try.prog 25 #[.agg (T.map (Value.int .i64)).toArray] w fun e w' => e = .returned (.string str) ∧ Below w.heap.size w w') := ⟨by rw [hstr]; exact iFormat T hT⟩
    have PA : Aside0 (∀ (w : World), Calls Try.prog 29 #[.string str] w fun e w' => e = .returned (.tuple #[.agg (T.map (Value.int .i64)).toArray, .bool true]) ∧ Below w.heap.size w w') := ⟨by have := iParse str (by omega); rwa [p1, p2] at this⟩
    obtain ⟨S, hS⟩ : ∃ S, S = genL (swapF T) := ⟨_, rfl⟩
    obtain ⟨D, hD⟩ : ∃ D, D = genL (dualF T) := ⟨_, rfl⟩
    obtain ⟨m, hm⟩ : ∃ m, m = monoL T := ⟨_, rfl⟩
    have SW1 : Aside0 (∀ (w : World), Calls Try.prog 36 #[.agg (T.map (Value.int .i64)).toArray] w fun e w' => e = .returned (.agg (S.map (Value.int .i64)).toArray) ∧ Below w.heap.size w w') := ⟨by rw [hS]; exact iSwap T hT⟩
    have SW2 : Aside0 (∀ (w : World), Calls Try.prog 36 #[.agg (S.map (Value.int .i64)).toArray] w fun e w' => e = .returned (.agg (T.map (Value.int .i64)).toArray) ∧ Below w.heap.size w w') := ⟨by have := iSwap S (by rw [hS]; exact hS9); rwa [hS, swap2 T hT hA, ← hS] at this⟩
    have DU1 : Aside0 (∀ (w : World), Calls Try.prog 34 #[.agg (T.map (Value.int .i64)).toArray] w fun e w' => e = .returned (.agg (D.map (Value.int .i64)).toArray) ∧ Below w.heap.size w w') := ⟨by rw [hD]; exact iDual T hT⟩
    have DU2 : Aside0 (∀ (w : World), Calls Try.prog 34 #[.agg (D.map (Value.int .i64)).toArray] w fun e w' => e = .returned (.agg (T.map (Value.int .i64)).toArray) ∧ Below w.heap.size w w') := ⟨by have := iDual D (by rw [hD]; exact hD9); rwa [hD, dual2 T hT hA, ← hD] at this⟩
    have TN : Aside0 (∀ (w : World), Calls Try.prog 38 #[.string ⟨#[109, 105, 110]⟩] w fun e w' => e = .returned (.agg (minT.map (Value.int .i64)).toArray) ∧ Below w.heap.size w w') := ⟨by have := iTableOf ⟨#[109, 105, 110]⟩; rwa [min_eq] at this⟩
    have TX : Aside0 (∀ (w : World), Calls Try.prog 38 #[.string ⟨#[109, 97, 120]⟩] w fun e w' => e = .returned (.agg (maxT.map (Value.int .i64)).toArray) ∧ Below w.heap.size w w') := ⟨by have := iTableOf ⟨#[109, 97, 120]⟩; rwa [max_eq] at this⟩
    have TA : Aside0 (∀ (w : World), Calls Try.prog 38 #[.string ⟨#[97, 110, 121]⟩] w fun e w' => e = .returned (.agg (anyT.map (Value.int .i64)).toArray) ∧ Below w.heap.size w w') := ⟨by have := iTableOf ⟨#[97, 110, 121]⟩; rwa [any_eq] at this⟩
    have TT : Aside0 (∀ (w : World), Calls Try.prog 38 #[.string ⟨#[116, 105, 109, 101, 115]⟩] w fun e w' => e = .returned (.agg (timesT.map (Value.int .i64)).toArray) ∧ Below w.heap.size w w') := ⟨by have := iTableOf ⟨#[116, 105, 109, 101, 115]⟩; rwa [times_eq] at this⟩
    have DN : Aside0 (∀ (w : World), Calls Try.prog 34 #[.agg (minT.map (Value.int .i64)).toArray] w fun e w' => e = .returned (.agg (maxT.map (Value.int .i64)).toArray) ∧ Below w.heap.size w w') := ⟨by have := iDual minT rfl; rwa [dual_min] at this⟩
    have MO1 : Aside0 (∀ (w : World), Calls Try.prog 27 #[.agg (T.map (Value.int .i64)).toArray] w fun e w' => e = .returned (.bool m) ∧ Below w.heap.size w w') := ⟨by rw [hm]; exact iMono T hT⟩
    have MO2 : Aside0 (∀ (w : World), Calls Try.prog 27 #[.agg (D.map (Value.int .i64)).toArray] w fun e w' => e = .returned (.bool m) ∧ Below w.heap.size w w') := ⟨by have := iMono D (by rw [hD]; exact hD9); rwa [hD, mono_dual T hA, ← hD, ← hm] at this⟩
    have MO3 : Aside0 (∀ (w : World), Calls Try.prog 27 #[.agg (S.map (Value.int .i64)).toArray] w fun e w' => e = .returned (.bool m) ∧ Below w.heap.size w w') := ⟨by have := iMono S (by rw [hS]; exact hS9); rwa [hS, mono_swap T hA, ← hS, ← hm] at this⟩
    have MO4 : Aside0 (∀ (w : World), Calls Try.prog 27 #[.agg (anyT.map (Value.int .i64)).toArray] w fun e w' => e = .returned (.bool true) ∧ Below w.heap.size w w') := ⟨by have := iMono anyT rfl; rwa [mono_any] at this⟩
    have MO5 : Aside0 (∀ (w : World), Calls Try.prog 27 #[.agg (timesT.map (Value.int .i64)).toArray] w fun e w' => e = .returned (.bool false) ∧ Below w.heap.size w w') := ⟨by have := iMono timesT rfl; rwa [mono_times] at this⟩
    have LT : Aside0 (∀ (a b : Int) (w : World), Calls Try.prog 19 #[.agg (T.map (Value.int .i64)).toArray, .int .i64 a, .int .i64 b] w fun e w' => e = .returned (.int .i64 (lookL T a b)) ∧ Below w.heap.size w w') := ⟨iLookUp T hT⟩
    have LX : Aside0 (∀ (a b : Int) (w : World), Calls Try.prog 19 #[.agg (maxT.map (Value.int .i64)).toArray, .int .i64 a, .int .i64 b] w fun e w' => e = .returned (.int .i64 (lookL maxT a b)) ∧ Below w.heap.size w w') := ⟨iLookUp maxT rfl⟩
    have LS : Aside0 (∀ (j i : Nat), j < 3 → i < 3 → ∀ (w : World), Calls Try.prog 19 #[.agg (S.map (Value.int .i64)).toArray, .int .i64 ((j : Int) - 1), .int .i64 ((i : Int) - 1)] w fun e w' => e = .returned (.int .i64 (lookL T ((i : Int) - 1) ((j : Int) - 1))) ∧ Below w.heap.size w w') := ⟨fun j i hj hi => by have := iLookUp S (by rw [hS]; exact hS9) ((j : Int) - 1) ((i : Int) - 1); rwa [look_at S (by rw [hS]; exact swap_all T) j i hj hi, hS, swap_at T hA j i hj hi, ← look_at T hA i j hi hj, ← hS] at this⟩
    have LD : Aside0 (∀ (j i : Nat), j < 3 → i < 3 → ∀ (w : World), Calls Try.prog 19 #[.agg (D.map (Value.int .i64)).toArray, .int .i64 ((j : Int) - 1), .int .i64 ((i : Int) - 1)] w fun e w' => e = .returned (.int .i64 (-lookL T (-((j : Int) - 1)) (-((i : Int) - 1)))) ∧ Below w.heap.size w w') := ⟨fun j i hj hi => by have := iLookUp D (by rw [hD]; exact hD9) ((j : Int) - 1) ((i : Int) - 1); rwa [look_at D (by rw [hD]; exact dual_all T) j i hj hi, hD, dual_at T hA j i hj hi, ← look_at T hA (2 - j) (2 - i) (by omega) (by omega), show ((2 - j : Nat) : Int) - 1 = -((j : Int) - 1) by omega, show ((2 - i : Nat) : Int) - 1 = -((i : Int) - 1) by omega, ← hD] at this⟩
    have HGD := Aside0.mk (show Try.prog.eqGuardType Try.prog.depth 24 = false by kernel_rfl)
    have HQT : Aside0 (∀ w, (Op.equal 24 (.agg (T.map (Value.int .i64)).toArray) (.agg (T.map (Value.int .i64)).toArray)).run Try.prog w = .ok true w) := ⟨fun w => equal_same Try.underlying24 Try.underlying3 rfl (by kernel_rfl) T hT⟩
    have HQX : Aside0 (∀ w, (Op.equal 24 (.agg (maxT.map (Value.int .i64)).toArray) (.agg (maxT.map (Value.int .i64)).toArray)).run Try.prog w = .ok true w) := ⟨fun w => equal_same Try.underlying24 Try.underlying3 rfl (by kernel_rfl) maxT rfl⟩
    clear hT hA hS9 hD9 hstr p1 p2 p3 hS hD hm HT HTA
    go_wp2_with (first
      | refine wpList_load_row rfl 24 _ rfl w1.heap.size rfl 24 (T.map (Value.int .i64)).toArray (0, 0) _ KT.out Try.underlying24 rfl HIL.out ?_
      | (go_at_call 25; refine (FM.out _).mono ?_; rintro e w2 ⟨rfl, hb⟩; have K2 := Aside0.mk (KT.out.below hb); have HB3 := Aside0.mk (below_step HB2.out hb); clear hb KT HB2)
      | (go_at_call 29; refine (PA.out _).mono ?_; rintro e w3 ⟨rfl, hb⟩; have K3 := Aside0.mk (K2.out.below hb); have HB4 := Aside0.mk (below_step HB3.out hb); clear hb K2 HB3)
      | (refine wpList_store_row rfl 24 _ _ rfl w3.heap.size (T.map (Value.int .i64)).toArray rfl rfl 24 _ (Blk.made w3 24 (List.replicate 9 0)) HIL.out (by rw [HS9.out]; rfl) HAO.out ?_; have KU := Aside0.mk ((Blk.made w3 24 (List.replicate 9 0)).setRow T); have KT := Aside0.mk ((K3.out.alloc (Obj.cells (List.map (Value.int IntKind.i64) (List.replicate 9 0)).toArray 24)).otherRow (g' := w3.heap.size) (cs := (T.map (Value.int .i64)).toArray) (by have := K3.out.lt; omega)); have HB := Aside0.mk (belowRow (below_alloc HB4.out (Obj.cells (List.map (Value.int IntKind.i64) (List.replicate 9 0)).toArray 24)) HB4.out.size (T.map (Value.int .i64)).toArray); clear HB4 K3))
    obtain ⟨ι, hne, F, hF, hcl⟩ := classOf (fun w' => Blk w' w1.heap.size 24 T ∧ Blk w' w3.heap.size 24 T ∧ Below w.heap.size w w') _ ⟨KT.out, KU.out, HB.out⟩
    have HFT := Aside0.mk (fun i => (hF i).1)
    have HFU := Aside0.mk (fun i => (hF i).2.1)
    have HFB := Aside0.mk (fun i => (hF i).2.2)
    have HC : Aside0 (∀ i w', Below (F i).heap.size (F i) w' → ∃ k, w' = F k) := ⟨fun i w' hb => hcl w' ⟨(hF i).1.below hb, (hF i).2.1.below hb, below_step (hF i).2.2 hb⟩⟩
    have HC0 : Aside0 (∀ w', (Blk w' w1.heap.size 24 T ∧ Blk w' w3.heap.size 24 T ∧ Below w.heap.size w w') → ∃ i, w' = F i) := ⟨hcl⟩
    clear hF hcl
    refine wp_region_class F (by kernel_rfl) (by kernel_rfl) (HC0.out _ ⟨KT.out.drewN 1, KU.out.drewN 1, pw_below_drewN HB.out 1⟩) ?_
    repeat (first | go_big_quiet_skip | (go_big_quiet_want; first | (refine quiet_load_row 24 _ rfl w1.heap.size rfl 24 T _ HFT.out Try.underlying24 rfl HIL.out ?_; simp only [Act.put, List.setIfInBounds_toArray, List.set_cons_zero, List.set_cons_succ]; go_big_quiet_on) | (refine quiet_load_row 24 _ rfl w3.heap.size rfl 24 T _ HFU.out Try.underlying24 rfl HIL.out ?_; simp only [Act.put, List.setIfInBounds_toArray, List.set_cons_zero, List.set_cons_succ]; go_big_quiet_on) | (refine quiet_neq_same 24 _ _ _ rfl T rfl rfl HGD.out HQT.out ?_; simp only [Act.put, List.setIfInBounds_toArray, List.set_cons_zero, List.set_cons_succ]; go_big_quiet_on) | (refine quiet_neq_same 24 _ _ _ rfl maxT rfl rfl HGD.out HQX.out ?_; simp only [Act.put, List.setIfInBounds_toArray, List.set_cons_zero, List.set_cons_succ]; go_big_quiet_on) | (go_big_quiet_op; first | go_big_quiet_on | go_big_quiet_call ((first | (go_at_call 36; with_reducible refine (SW1.out _).mono ?_; rintro e w4 ⟨rfl, hb⟩; exact ⟨rfl, HC.out _ _ hb⟩) | (go_at_call 36; with_reducible refine (SW2.out _).mono ?_; rintro e w4 ⟨rfl, hb⟩; exact ⟨rfl, HC.out _ _ hb⟩) | (go_at_call 34; with_reducible refine (DU1.out _).mono ?_; rintro e w4 ⟨rfl, hb⟩; exact ⟨rfl, HC.out _ _ hb⟩) | (go_at_call 34; with_reducible refine (DU2.out _).mono ?_; rintro e w4 ⟨rfl, hb⟩; exact ⟨rfl, HC.out _ _ hb⟩) | (go_at_call 34; with_reducible refine (DN.out _).mono ?_; rintro e w4 ⟨rfl, hb⟩; exact ⟨rfl, HC.out _ _ hb⟩) | (go_at_call 38; with_reducible refine (TN.out _).mono ?_; rintro e w4 ⟨rfl, hb⟩; exact ⟨rfl, HC.out _ _ hb⟩) | (go_at_call 38; with_reducible refine (TX.out _).mono ?_; rintro e w4 ⟨rfl, hb⟩; exact ⟨rfl, HC.out _ _ hb⟩))))))
    refine wpQuiet_nil ?_
    rintro _ ⟨k, rfl⟩
    clear KT KU HB
    go_wp2
    refine wp_region_class F (by kernel_rfl) (by kernel_rfl) (HC0.out _ ⟨(HFT.out k).drewN 1, (HFU.out k).drewN 1, pw_below_drewN (HFB.out k) 1⟩) ?_
    repeat (first | go_big_quiet_skip | (go_big_quiet_want; first | (refine quiet_load_row 24 _ rfl w1.heap.size rfl 24 T _ HFT.out Try.underlying24 rfl HIL.out ?_; simp only [Act.put, List.setIfInBounds_toArray, List.set_cons_zero, List.set_cons_succ]; go_big_quiet_on) | (refine quiet_neq_same 24 _ _ _ rfl T rfl rfl HGD.out HQT.out ?_; simp only [Act.put, List.setIfInBounds_toArray, List.set_cons_zero, List.set_cons_succ]; go_big_quiet_on) | (go_big_quiet_op; first | go_big_quiet_on | go_big_quiet_call ((first | (go_at_call 27; with_reducible refine (MO1.out _).mono ?_; rintro e w4 ⟨rfl, hb⟩; exact ⟨rfl, HC.out _ _ hb⟩) | (go_at_call 27; with_reducible refine (MO2.out _).mono ?_; rintro e w4 ⟨rfl, hb⟩; exact ⟨rfl, HC.out _ _ hb⟩) | (go_at_call 27; with_reducible refine (MO3.out _).mono ?_; rintro e w4 ⟨rfl, hb⟩; exact ⟨rfl, HC.out _ _ hb⟩) | (go_at_call 27; with_reducible refine (MO4.out _).mono ?_; rintro e w4 ⟨rfl, hb⟩; exact ⟨rfl, HC.out _ _ hb⟩) | (go_at_call 27; with_reducible refine (MO5.out _).mono ?_; rintro e w4 ⟨rfl, hb⟩; exact ⟨rfl, HC.out _ _ hb⟩) | (go_at_call 36; with_reducible refine (SW1.out _).mono ?_; rintro e w4 ⟨rfl, hb⟩; exact ⟨rfl, HC.out _ _ hb⟩) | (go_at_call 34; with_reducible refine (DU1.out _).mono ?_; rintro e w4 ⟨rfl, hb⟩; exact ⟨rfl, HC.out _ _ hb⟩) | (go_at_call 38; with_reducible refine (TA.out _).mono ?_; rintro e w4 ⟨rfl, hb⟩; exact ⟨rfl, HC.out _ _ hb⟩) | (go_at_call 38; with_reducible refine (TT.out _).mono ?_; rintro e w4 ⟨rfl, hb⟩; exact ⟨rfl, HC.out _ _ hb⟩))))))
    refine wpQuiet_nil ?_
    rintro _ ⟨k2, rfl⟩
    go_wp2_with (go_at_call 40; refine (trits_calls _).mono ?_; rintro e w5 ⟨rfl, hg, hb⟩; have KG := Aside0.mk hg; have KT := Aside0.mk ((HFT.out k2).below hb); have KU := Aside0.mk ((HFU.out k2).below hb); have HB := Aside0.mk (below_step (HFB.out k2) hb); clear hg hb)
    have HNE := Aside0.mk (HC0.out _ ⟨KT.out, KU.out, HB.out⟩)
    obtain ⟨G, hG⟩ : ∃ G, G = (F k2).heap.size := ⟨_, rfl⟩
    rw [← hG] at KG ⊢
    clear hG
    go_loopw [73] (fun v73 w' => ∃ j : Nat, j ≤ 3 ∧ v73 = .int .i64 j ∧ Aside0 (Blk w' G 3 [-1, 0, 1]) ∧ Aside0 (Blk w' w1.heap.size 24 T) ∧ Aside0 (Blk w' w3.heap.size 24 T) ∧ Aside0 (Below w.heap.size w w')) (fun v73 _ => 3 - (intOf v73).toNat)
    case atStart => exact ⟨0, by omega, rfl, KG, KT, KU, HB⟩
    case round =>
      clear KG KT KU HB HNE
      obtain ⟨j, hj, rfl, KG, KT, KU, HB⟩ := hrel
      by_cases hlt : j < 3
      · have hx : wr.cell? ⟨G, j, none⟩ = some (.int .i64 ((j : Int) - 1)) := by
          rw [KG.out.cell j (by simpa using hlt)]
          rcases (show j = 0 ∨ j = 1 ∨ j = 2 by omega) with rfl | rfl | rfl <;> rfl
        go_wp2_with (go_at_call 40; refine (trits_calls _).mono ?_; rintro e w6 ⟨rfl, hg, hb⟩; have KH := Aside0.mk hg; have n0 := Aside0.mk (KG.out.below hb); have n1 := Aside0.mk (KT.out.below hb); have n2 := Aside0.mk (KU.out.below hb); have n3 := Aside0.mk (below_step HB.out hb); clear hg hb KG KT KU HB; have KG := n0; have KT := n1; have KU := n2; have HB := n3; clear n0 n1 n2 n3)
        obtain ⟨H, hH⟩ : ∃ H, H = wr.heap.size := ⟨_, rfl⟩
        rw [← hH] at KH ⊢
        clear hH
        obtain ⟨wo, hwo⟩ : ∃ wo : World, wo = wr := ⟨_, rfl⟩
        go_loopw [79] (fun v79 w' => ∃ i : Nat, i ≤ 3 ∧ v79 = .int .i64 i ∧ Aside0 (Blk w' H 3 [-1, 0, 1]) ∧ Aside0 (Blk w' G 3 [-1, 0, 1]) ∧ Aside0 (Blk w' w1.heap.size 24 T) ∧ Aside0 (Blk w' w3.heap.size 24 T) ∧ Aside0 (Below w.heap.size w w')) (fun v79 _ => 3 - (intOf v79).toNat)
        case atStart => exact ⟨0, by omega, rfl, KH, KG, KT, KU, HB⟩
        case round =>
          clear KH KG KT KU HB hwo
          obtain ⟨i, hi, rfl, KH, KG, KT, KU, HB⟩ := hrel
          by_cases hit : i < 3
          · have hy : wr.cell? ⟨H, i, none⟩ = some (.int .i64 ((i : Int) - 1)) := by
              rw [KH.out.cell i (by simpa using hit)]
              rcases (show i = 0 ∨ i = 1 ∨ i = 2 by omega) with rfl | rfl | rfl <;> rfl
            obtain ⟨ι, hne, F, hF, hcl⟩ := classOf (fun w' => Blk w' H 3 [-1, 0, 1] ∧ Blk w' G 3 [-1, 0, 1] ∧ Blk w' w1.heap.size 24 T ∧ Blk w' w3.heap.size 24 T ∧ Below w.heap.size w w') wr ⟨KH.out, KG.out, KT.out, KU.out, HB.out⟩
            have HFH := Aside0.mk (fun i => (hF i).1)
            have HFG := Aside0.mk (fun i => (hF i).2.1)
            have HFT := Aside0.mk (fun i => (hF i).2.2.1)
            have HFU := Aside0.mk (fun i => (hF i).2.2.2.1)
            have HFB := Aside0.mk (fun i => (hF i).2.2.2.2)
            have HC : Aside0 (∀ i w', Below (F i).heap.size (F i) w' → ∃ k, w' = F k) := ⟨fun i w' hb => hcl w' ⟨(hF i).1.below hb, (hF i).2.1.below hb, (hF i).2.2.1.below hb, (hF i).2.2.2.1.below hb, below_step (hF i).2.2.2.2 hb⟩⟩
            have HS : Aside0 (∃ i, wr.drew = F i) := ⟨hcl _ ⟨KH.out.drewN 1, KG.out.drewN 1, KT.out.drewN 1, KU.out.drewN 1, pw_below_drewN HB.out 1⟩⟩
            clear hF hcl
            rcases (show (j = 0 ∨ j = 1 ∨ j = 2) ∧ (i = 0 ∨ i = 1 ∨ i = 2) by omega) with ⟨rfl | rfl | rfl, rfl | rfl | rfl⟩
            · have L1 : Aside0 (∀ (w : World), Calls Try.prog 19 #[.agg (S.map (Value.int .i64)).toArray, .int .i64 (-1), .int .i64 (-1)] w fun e w' => e = .returned (.int .i64 (lookL T (-1) (-1))) ∧ Below w.heap.size w w') := ⟨LS.out 0 0 (by omega) (by omega)⟩
              have L2 : Aside0 (∀ (w : World), Calls Try.prog 19 #[.agg (T.map (Value.int .i64)).toArray, .int .i64 (-1), .int .i64 (-1)] w fun e w' => e = .returned (.int .i64 (lookL T (-1) (-1))) ∧ Below w.heap.size w w') := ⟨LT.out (-1) (-1)⟩
              have L3 : Aside0 (∀ (w : World), Calls Try.prog 19 #[.agg (D.map (Value.int .i64)).toArray, .int .i64 (-1), .int .i64 (-1)] w fun e w' => e = .returned (.int .i64 (-lookL T (1) (1))) ∧ Below w.heap.size w w') := ⟨LD.out 0 0 (by omega) (by omega)⟩
              have L4 : Aside0 (∀ (w : World), Calls Try.prog 19 #[.agg (T.map (Value.int .i64)).toArray, .int .i64 (1), .int .i64 (1)] w fun e w' => e = .returned (.int .i64 (lookL T (1) (1))) ∧ Below w.heap.size w w') := ⟨LT.out (1) (1)⟩
              have L5 : Aside0 (∀ (w : World), Calls Try.prog 19 #[.agg (maxT.map (Value.int .i64)).toArray, .int .i64 (-1), .int .i64 (-1)] w fun e w' => e = .returned (.int .i64 (-1)) ∧ Below w.heap.size w w') := ⟨by have := LX.out (-1) (-1); rwa [show lookL maxT (-1) (-1) = (-1) from rfl] at this⟩
              have hwn : IntKind.i64.wrap (-lookL T (1) (1)) = -lookL T (1) (1) := IntWalk.i64_in _ (by have := lookL_low T (1) (1); have := lookL_high T (1) (1); omega)
              go_wp2
              refine wp_region_class F (by kernel_rfl) (by kernel_rfl) HS.out ?_
              repeat (first | go_big_quiet_skip | (go_big_quiet_want; first | (refine quiet_load_row 24 _ rfl w1.heap.size rfl 24 T _ HFT.out Try.underlying24 rfl HIL.out ?_; simp only [Act.put, List.setIfInBounds_toArray, List.set_cons_zero, List.set_cons_succ]; go_big_quiet_on) | (refine quiet_neq_same 24 _ _ _ rfl T rfl rfl HGD.out HQT.out ?_; simp only [Act.put, List.setIfInBounds_toArray, List.set_cons_zero, List.set_cons_succ]; go_big_quiet_on) | (go_big_quiet_op; first | go_big_quiet_on | go_big_quiet_call ((first | (go_at_call 36; with_reducible refine (SW1.out _).mono ?_; rintro e w4 ⟨rfl, hb⟩; exact ⟨rfl, HC.out _ _ hb⟩) | (go_at_call 34; with_reducible refine (DU1.out _).mono ?_; rintro e w4 ⟨rfl, hb⟩; exact ⟨rfl, HC.out _ _ hb⟩) | (go_at_call 38; with_reducible refine (TX.out _).mono ?_; rintro e w4 ⟨rfl, hb⟩; exact ⟨rfl, HC.out _ _ hb⟩) | (go_at_call 19; with_reducible refine (L1.out _).mono ?_; rintro e w4 ⟨rfl, hb⟩; exact ⟨rfl, HC.out _ _ hb⟩) | (go_at_call 19; with_reducible refine (L2.out _).mono ?_; rintro e w4 ⟨rfl, hb⟩; exact ⟨rfl, HC.out _ _ hb⟩) | (go_at_call 19; with_reducible refine (L3.out _).mono ?_; rintro e w4 ⟨rfl, hb⟩; exact ⟨rfl, HC.out _ _ hb⟩) | (go_at_call 19; with_reducible refine (L4.out _).mono ?_; rintro e w4 ⟨rfl, hb⟩; exact ⟨rfl, HC.out _ _ hb⟩) | (go_at_call 19; with_reducible refine (L5.out _).mono ?_; rintro e w4 ⟨rfl, hb⟩; exact ⟨rfl, HC.out _ _ hb⟩))))))
              refine wpQuiet_nil ?_
              rintro _ ⟨k, rfl⟩
              go_wp2
              go_roundw
              case rel =>
                exact ⟨1, by omega, by go_num, ⟨HFH.out k⟩, ⟨HFG.out k⟩, ⟨HFT.out k⟩, ⟨HFU.out k⟩, ⟨HFB.out k⟩⟩
              case measure => simp [intOf]
            · have L1 : Aside0 (∀ (w : World), Calls Try.prog 19 #[.agg (S.map (Value.int .i64)).toArray, .int .i64 (-1), .int .i64 (0)] w fun e w' => e = .returned (.int .i64 (lookL T (0) (-1))) ∧ Below w.heap.size w w') := ⟨LS.out 0 1 (by omega) (by omega)⟩
              have L2 : Aside0 (∀ (w : World), Calls Try.prog 19 #[.agg (T.map (Value.int .i64)).toArray, .int .i64 (0), .int .i64 (-1)] w fun e w' => e = .returned (.int .i64 (lookL T (0) (-1))) ∧ Below w.heap.size w w') := ⟨LT.out (0) (-1)⟩
              have L3 : Aside0 (∀ (w : World), Calls Try.prog 19 #[.agg (D.map (Value.int .i64)).toArray, .int .i64 (-1), .int .i64 (0)] w fun e w' => e = .returned (.int .i64 (-lookL T (1) (0))) ∧ Below w.heap.size w w') := ⟨LD.out 0 1 (by omega) (by omega)⟩
              have L4 : Aside0 (∀ (w : World), Calls Try.prog 19 #[.agg (T.map (Value.int .i64)).toArray, .int .i64 (1), .int .i64 (0)] w fun e w' => e = .returned (.int .i64 (lookL T (1) (0))) ∧ Below w.heap.size w w') := ⟨LT.out (1) (0)⟩
              have L5 : Aside0 (∀ (w : World), Calls Try.prog 19 #[.agg (maxT.map (Value.int .i64)).toArray, .int .i64 (-1), .int .i64 (0)] w fun e w' => e = .returned (.int .i64 (0)) ∧ Below w.heap.size w w') := ⟨by have := LX.out (-1) (0); rwa [show lookL maxT (-1) (0) = (0) from rfl] at this⟩
              have hwn : IntKind.i64.wrap (-lookL T (1) (0)) = -lookL T (1) (0) := IntWalk.i64_in _ (by have := lookL_low T (1) (0); have := lookL_high T (1) (0); omega)
              go_wp2
              refine wp_region_class F (by kernel_rfl) (by kernel_rfl) HS.out ?_
              repeat (first | go_big_quiet_skip | (go_big_quiet_want; first | (refine quiet_load_row 24 _ rfl w1.heap.size rfl 24 T _ HFT.out Try.underlying24 rfl HIL.out ?_; simp only [Act.put, List.setIfInBounds_toArray, List.set_cons_zero, List.set_cons_succ]; go_big_quiet_on) | (refine quiet_neq_same 24 _ _ _ rfl T rfl rfl HGD.out HQT.out ?_; simp only [Act.put, List.setIfInBounds_toArray, List.set_cons_zero, List.set_cons_succ]; go_big_quiet_on) | (go_big_quiet_op; first | go_big_quiet_on | go_big_quiet_call ((first | (go_at_call 36; with_reducible refine (SW1.out _).mono ?_; rintro e w4 ⟨rfl, hb⟩; exact ⟨rfl, HC.out _ _ hb⟩) | (go_at_call 34; with_reducible refine (DU1.out _).mono ?_; rintro e w4 ⟨rfl, hb⟩; exact ⟨rfl, HC.out _ _ hb⟩) | (go_at_call 38; with_reducible refine (TX.out _).mono ?_; rintro e w4 ⟨rfl, hb⟩; exact ⟨rfl, HC.out _ _ hb⟩) | (go_at_call 19; with_reducible refine (L1.out _).mono ?_; rintro e w4 ⟨rfl, hb⟩; exact ⟨rfl, HC.out _ _ hb⟩) | (go_at_call 19; with_reducible refine (L2.out _).mono ?_; rintro e w4 ⟨rfl, hb⟩; exact ⟨rfl, HC.out _ _ hb⟩) | (go_at_call 19; with_reducible refine (L3.out _).mono ?_; rintro e w4 ⟨rfl, hb⟩; exact ⟨rfl, HC.out _ _ hb⟩) | (go_at_call 19; with_reducible refine (L4.out _).mono ?_; rintro e w4 ⟨rfl, hb⟩; exact ⟨rfl, HC.out _ _ hb⟩) | (go_at_call 19; with_reducible refine (L5.out _).mono ?_; rintro e w4 ⟨rfl, hb⟩; exact ⟨rfl, HC.out _ _ hb⟩))))))
              refine wpQuiet_nil ?_
              rintro _ ⟨k, rfl⟩
              go_wp2
              go_roundw
              case rel =>
                exact ⟨2, by omega, by go_num, ⟨HFH.out k⟩, ⟨HFG.out k⟩, ⟨HFT.out k⟩, ⟨HFU.out k⟩, ⟨HFB.out k⟩⟩
              case measure => simp [intOf]
            · have L1 : Aside0 (∀ (w : World), Calls Try.prog 19 #[.agg (S.map (Value.int .i64)).toArray, .int .i64 (-1), .int .i64 (1)] w fun e w' => e = .returned (.int .i64 (lookL T (1) (-1))) ∧ Below w.heap.size w w') := ⟨LS.out 0 2 (by omega) (by omega)⟩
              have L2 : Aside0 (∀ (w : World), Calls Try.prog 19 #[.agg (T.map (Value.int .i64)).toArray, .int .i64 (1), .int .i64 (-1)] w fun e w' => e = .returned (.int .i64 (lookL T (1) (-1))) ∧ Below w.heap.size w w') := ⟨LT.out (1) (-1)⟩
              have L3 : Aside0 (∀ (w : World), Calls Try.prog 19 #[.agg (D.map (Value.int .i64)).toArray, .int .i64 (-1), .int .i64 (1)] w fun e w' => e = .returned (.int .i64 (-lookL T (1) (-1))) ∧ Below w.heap.size w w') := ⟨LD.out 0 2 (by omega) (by omega)⟩
              have L4 : Aside0 (∀ (w : World), Calls Try.prog 19 #[.agg (T.map (Value.int .i64)).toArray, .int .i64 (1), .int .i64 (-1)] w fun e w' => e = .returned (.int .i64 (lookL T (1) (-1))) ∧ Below w.heap.size w w') := ⟨LT.out (1) (-1)⟩
              have L5 : Aside0 (∀ (w : World), Calls Try.prog 19 #[.agg (maxT.map (Value.int .i64)).toArray, .int .i64 (-1), .int .i64 (1)] w fun e w' => e = .returned (.int .i64 (1)) ∧ Below w.heap.size w w') := ⟨by have := LX.out (-1) (1); rwa [show lookL maxT (-1) (1) = (1) from rfl] at this⟩
              have hwn : IntKind.i64.wrap (-lookL T (1) (-1)) = -lookL T (1) (-1) := IntWalk.i64_in _ (by have := lookL_low T (1) (-1); have := lookL_high T (1) (-1); omega)
              go_wp2
              refine wp_region_class F (by kernel_rfl) (by kernel_rfl) HS.out ?_
              repeat (first | go_big_quiet_skip | (go_big_quiet_want; first | (refine quiet_load_row 24 _ rfl w1.heap.size rfl 24 T _ HFT.out Try.underlying24 rfl HIL.out ?_; simp only [Act.put, List.setIfInBounds_toArray, List.set_cons_zero, List.set_cons_succ]; go_big_quiet_on) | (refine quiet_neq_same 24 _ _ _ rfl T rfl rfl HGD.out HQT.out ?_; simp only [Act.put, List.setIfInBounds_toArray, List.set_cons_zero, List.set_cons_succ]; go_big_quiet_on) | (go_big_quiet_op; first | go_big_quiet_on | go_big_quiet_call ((first | (go_at_call 36; with_reducible refine (SW1.out _).mono ?_; rintro e w4 ⟨rfl, hb⟩; exact ⟨rfl, HC.out _ _ hb⟩) | (go_at_call 34; with_reducible refine (DU1.out _).mono ?_; rintro e w4 ⟨rfl, hb⟩; exact ⟨rfl, HC.out _ _ hb⟩) | (go_at_call 38; with_reducible refine (TX.out _).mono ?_; rintro e w4 ⟨rfl, hb⟩; exact ⟨rfl, HC.out _ _ hb⟩) | (go_at_call 19; with_reducible refine (L1.out _).mono ?_; rintro e w4 ⟨rfl, hb⟩; exact ⟨rfl, HC.out _ _ hb⟩) | (go_at_call 19; with_reducible refine (L2.out _).mono ?_; rintro e w4 ⟨rfl, hb⟩; exact ⟨rfl, HC.out _ _ hb⟩) | (go_at_call 19; with_reducible refine (L3.out _).mono ?_; rintro e w4 ⟨rfl, hb⟩; exact ⟨rfl, HC.out _ _ hb⟩) | (go_at_call 19; with_reducible refine (L4.out _).mono ?_; rintro e w4 ⟨rfl, hb⟩; exact ⟨rfl, HC.out _ _ hb⟩) | (go_at_call 19; with_reducible refine (L5.out _).mono ?_; rintro e w4 ⟨rfl, hb⟩; exact ⟨rfl, HC.out _ _ hb⟩))))))
              refine wpQuiet_nil ?_
              rintro _ ⟨k, rfl⟩
              go_wp2
              go_roundw
              case rel =>
                exact ⟨3, by omega, by go_num, ⟨HFH.out k⟩, ⟨HFG.out k⟩, ⟨HFT.out k⟩, ⟨HFU.out k⟩, ⟨HFB.out k⟩⟩
              case measure => simp [intOf]
            · have L1 : Aside0 (∀ (w : World), Calls Try.prog 19 #[.agg (S.map (Value.int .i64)).toArray, .int .i64 (0), .int .i64 (-1)] w fun e w' => e = .returned (.int .i64 (lookL T (-1) (0))) ∧ Below w.heap.size w w') := ⟨LS.out 1 0 (by omega) (by omega)⟩
              have L2 : Aside0 (∀ (w : World), Calls Try.prog 19 #[.agg (T.map (Value.int .i64)).toArray, .int .i64 (-1), .int .i64 (0)] w fun e w' => e = .returned (.int .i64 (lookL T (-1) (0))) ∧ Below w.heap.size w w') := ⟨LT.out (-1) (0)⟩
              have L3 : Aside0 (∀ (w : World), Calls Try.prog 19 #[.agg (D.map (Value.int .i64)).toArray, .int .i64 (0), .int .i64 (-1)] w fun e w' => e = .returned (.int .i64 (-lookL T (0) (1))) ∧ Below w.heap.size w w') := ⟨LD.out 1 0 (by omega) (by omega)⟩
              have L4 : Aside0 (∀ (w : World), Calls Try.prog 19 #[.agg (T.map (Value.int .i64)).toArray, .int .i64 (0), .int .i64 (1)] w fun e w' => e = .returned (.int .i64 (lookL T (0) (1))) ∧ Below w.heap.size w w') := ⟨LT.out (0) (1)⟩
              have L5 : Aside0 (∀ (w : World), Calls Try.prog 19 #[.agg (maxT.map (Value.int .i64)).toArray, .int .i64 (0), .int .i64 (-1)] w fun e w' => e = .returned (.int .i64 (0)) ∧ Below w.heap.size w w') := ⟨by have := LX.out (0) (-1); rwa [show lookL maxT (0) (-1) = (0) from rfl] at this⟩
              have hwn : IntKind.i64.wrap (-lookL T (0) (1)) = -lookL T (0) (1) := IntWalk.i64_in _ (by have := lookL_low T (0) (1); have := lookL_high T (0) (1); omega)
              go_wp2
              refine wp_region_class F (by kernel_rfl) (by kernel_rfl) HS.out ?_
              repeat (first | go_big_quiet_skip | (go_big_quiet_want; first | (refine quiet_load_row 24 _ rfl w1.heap.size rfl 24 T _ HFT.out Try.underlying24 rfl HIL.out ?_; simp only [Act.put, List.setIfInBounds_toArray, List.set_cons_zero, List.set_cons_succ]; go_big_quiet_on) | (refine quiet_neq_same 24 _ _ _ rfl T rfl rfl HGD.out HQT.out ?_; simp only [Act.put, List.setIfInBounds_toArray, List.set_cons_zero, List.set_cons_succ]; go_big_quiet_on) | (go_big_quiet_op; first | go_big_quiet_on | go_big_quiet_call ((first | (go_at_call 36; with_reducible refine (SW1.out _).mono ?_; rintro e w4 ⟨rfl, hb⟩; exact ⟨rfl, HC.out _ _ hb⟩) | (go_at_call 34; with_reducible refine (DU1.out _).mono ?_; rintro e w4 ⟨rfl, hb⟩; exact ⟨rfl, HC.out _ _ hb⟩) | (go_at_call 38; with_reducible refine (TX.out _).mono ?_; rintro e w4 ⟨rfl, hb⟩; exact ⟨rfl, HC.out _ _ hb⟩) | (go_at_call 19; with_reducible refine (L1.out _).mono ?_; rintro e w4 ⟨rfl, hb⟩; exact ⟨rfl, HC.out _ _ hb⟩) | (go_at_call 19; with_reducible refine (L2.out _).mono ?_; rintro e w4 ⟨rfl, hb⟩; exact ⟨rfl, HC.out _ _ hb⟩) | (go_at_call 19; with_reducible refine (L3.out _).mono ?_; rintro e w4 ⟨rfl, hb⟩; exact ⟨rfl, HC.out _ _ hb⟩) | (go_at_call 19; with_reducible refine (L4.out _).mono ?_; rintro e w4 ⟨rfl, hb⟩; exact ⟨rfl, HC.out _ _ hb⟩) | (go_at_call 19; with_reducible refine (L5.out _).mono ?_; rintro e w4 ⟨rfl, hb⟩; exact ⟨rfl, HC.out _ _ hb⟩))))))
              refine wpQuiet_nil ?_
              rintro _ ⟨k, rfl⟩
              go_wp2
              go_roundw
              case rel =>
                exact ⟨1, by omega, by go_num, ⟨HFH.out k⟩, ⟨HFG.out k⟩, ⟨HFT.out k⟩, ⟨HFU.out k⟩, ⟨HFB.out k⟩⟩
              case measure => simp [intOf]
            · have L1 : Aside0 (∀ (w : World), Calls Try.prog 19 #[.agg (S.map (Value.int .i64)).toArray, .int .i64 (0), .int .i64 (0)] w fun e w' => e = .returned (.int .i64 (lookL T (0) (0))) ∧ Below w.heap.size w w') := ⟨LS.out 1 1 (by omega) (by omega)⟩
              have L2 : Aside0 (∀ (w : World), Calls Try.prog 19 #[.agg (T.map (Value.int .i64)).toArray, .int .i64 (0), .int .i64 (0)] w fun e w' => e = .returned (.int .i64 (lookL T (0) (0))) ∧ Below w.heap.size w w') := ⟨LT.out (0) (0)⟩
              have L3 : Aside0 (∀ (w : World), Calls Try.prog 19 #[.agg (D.map (Value.int .i64)).toArray, .int .i64 (0), .int .i64 (0)] w fun e w' => e = .returned (.int .i64 (-lookL T (0) (0))) ∧ Below w.heap.size w w') := ⟨LD.out 1 1 (by omega) (by omega)⟩
              have L4 : Aside0 (∀ (w : World), Calls Try.prog 19 #[.agg (T.map (Value.int .i64)).toArray, .int .i64 (0), .int .i64 (0)] w fun e w' => e = .returned (.int .i64 (lookL T (0) (0))) ∧ Below w.heap.size w w') := ⟨LT.out (0) (0)⟩
              have L5 : Aside0 (∀ (w : World), Calls Try.prog 19 #[.agg (maxT.map (Value.int .i64)).toArray, .int .i64 (0), .int .i64 (0)] w fun e w' => e = .returned (.int .i64 (0)) ∧ Below w.heap.size w w') := ⟨by have := LX.out (0) (0); rwa [show lookL maxT (0) (0) = (0) from rfl] at this⟩
              have hwn : IntKind.i64.wrap (-lookL T (0) (0)) = -lookL T (0) (0) := IntWalk.i64_in _ (by have := lookL_low T (0) (0); have := lookL_high T (0) (0); omega)
              go_wp2
              refine wp_region_class F (by kernel_rfl) (by kernel_rfl) HS.out ?_
              repeat (first | go_big_quiet_skip | (go_big_quiet_want; first | (refine quiet_load_row 24 _ rfl w1.heap.size rfl 24 T _ HFT.out Try.underlying24 rfl HIL.out ?_; simp only [Act.put, List.setIfInBounds_toArray, List.set_cons_zero, List.set_cons_succ]; go_big_quiet_on) | (refine quiet_neq_same 24 _ _ _ rfl T rfl rfl HGD.out HQT.out ?_; simp only [Act.put, List.setIfInBounds_toArray, List.set_cons_zero, List.set_cons_succ]; go_big_quiet_on) | (go_big_quiet_op; first | go_big_quiet_on | go_big_quiet_call ((first | (go_at_call 36; with_reducible refine (SW1.out _).mono ?_; rintro e w4 ⟨rfl, hb⟩; exact ⟨rfl, HC.out _ _ hb⟩) | (go_at_call 34; with_reducible refine (DU1.out _).mono ?_; rintro e w4 ⟨rfl, hb⟩; exact ⟨rfl, HC.out _ _ hb⟩) | (go_at_call 38; with_reducible refine (TX.out _).mono ?_; rintro e w4 ⟨rfl, hb⟩; exact ⟨rfl, HC.out _ _ hb⟩) | (go_at_call 19; with_reducible refine (L1.out _).mono ?_; rintro e w4 ⟨rfl, hb⟩; exact ⟨rfl, HC.out _ _ hb⟩) | (go_at_call 19; with_reducible refine (L2.out _).mono ?_; rintro e w4 ⟨rfl, hb⟩; exact ⟨rfl, HC.out _ _ hb⟩) | (go_at_call 19; with_reducible refine (L3.out _).mono ?_; rintro e w4 ⟨rfl, hb⟩; exact ⟨rfl, HC.out _ _ hb⟩) | (go_at_call 19; with_reducible refine (L4.out _).mono ?_; rintro e w4 ⟨rfl, hb⟩; exact ⟨rfl, HC.out _ _ hb⟩) | (go_at_call 19; with_reducible refine (L5.out _).mono ?_; rintro e w4 ⟨rfl, hb⟩; exact ⟨rfl, HC.out _ _ hb⟩))))))
              refine wpQuiet_nil ?_
              rintro _ ⟨k, rfl⟩
              go_wp2
              go_roundw
              case rel =>
                exact ⟨2, by omega, by go_num, ⟨HFH.out k⟩, ⟨HFG.out k⟩, ⟨HFT.out k⟩, ⟨HFU.out k⟩, ⟨HFB.out k⟩⟩
              case measure => simp [intOf]
            · have L1 : Aside0 (∀ (w : World), Calls Try.prog 19 #[.agg (S.map (Value.int .i64)).toArray, .int .i64 (0), .int .i64 (1)] w fun e w' => e = .returned (.int .i64 (lookL T (1) (0))) ∧ Below w.heap.size w w') := ⟨LS.out 1 2 (by omega) (by omega)⟩
              have L2 : Aside0 (∀ (w : World), Calls Try.prog 19 #[.agg (T.map (Value.int .i64)).toArray, .int .i64 (1), .int .i64 (0)] w fun e w' => e = .returned (.int .i64 (lookL T (1) (0))) ∧ Below w.heap.size w w') := ⟨LT.out (1) (0)⟩
              have L3 : Aside0 (∀ (w : World), Calls Try.prog 19 #[.agg (D.map (Value.int .i64)).toArray, .int .i64 (0), .int .i64 (1)] w fun e w' => e = .returned (.int .i64 (-lookL T (0) (-1))) ∧ Below w.heap.size w w') := ⟨LD.out 1 2 (by omega) (by omega)⟩
              have L4 : Aside0 (∀ (w : World), Calls Try.prog 19 #[.agg (T.map (Value.int .i64)).toArray, .int .i64 (0), .int .i64 (-1)] w fun e w' => e = .returned (.int .i64 (lookL T (0) (-1))) ∧ Below w.heap.size w w') := ⟨LT.out (0) (-1)⟩
              have L5 : Aside0 (∀ (w : World), Calls Try.prog 19 #[.agg (maxT.map (Value.int .i64)).toArray, .int .i64 (0), .int .i64 (1)] w fun e w' => e = .returned (.int .i64 (1)) ∧ Below w.heap.size w w') := ⟨by have := LX.out (0) (1); rwa [show lookL maxT (0) (1) = (1) from rfl] at this⟩
              have hwn : IntKind.i64.wrap (-lookL T (0) (-1)) = -lookL T (0) (-1) := IntWalk.i64_in _ (by have := lookL_low T (0) (-1); have := lookL_high T (0) (-1); omega)
              go_wp2
              refine wp_region_class F (by kernel_rfl) (by kernel_rfl) HS.out ?_
              repeat (first | go_big_quiet_skip | (go_big_quiet_want; first | (refine quiet_load_row 24 _ rfl w1.heap.size rfl 24 T _ HFT.out Try.underlying24 rfl HIL.out ?_; simp only [Act.put, List.setIfInBounds_toArray, List.set_cons_zero, List.set_cons_succ]; go_big_quiet_on) | (refine quiet_neq_same 24 _ _ _ rfl T rfl rfl HGD.out HQT.out ?_; simp only [Act.put, List.setIfInBounds_toArray, List.set_cons_zero, List.set_cons_succ]; go_big_quiet_on) | (go_big_quiet_op; first | go_big_quiet_on | go_big_quiet_call ((first | (go_at_call 36; with_reducible refine (SW1.out _).mono ?_; rintro e w4 ⟨rfl, hb⟩; exact ⟨rfl, HC.out _ _ hb⟩) | (go_at_call 34; with_reducible refine (DU1.out _).mono ?_; rintro e w4 ⟨rfl, hb⟩; exact ⟨rfl, HC.out _ _ hb⟩) | (go_at_call 38; with_reducible refine (TX.out _).mono ?_; rintro e w4 ⟨rfl, hb⟩; exact ⟨rfl, HC.out _ _ hb⟩) | (go_at_call 19; with_reducible refine (L1.out _).mono ?_; rintro e w4 ⟨rfl, hb⟩; exact ⟨rfl, HC.out _ _ hb⟩) | (go_at_call 19; with_reducible refine (L2.out _).mono ?_; rintro e w4 ⟨rfl, hb⟩; exact ⟨rfl, HC.out _ _ hb⟩) | (go_at_call 19; with_reducible refine (L3.out _).mono ?_; rintro e w4 ⟨rfl, hb⟩; exact ⟨rfl, HC.out _ _ hb⟩) | (go_at_call 19; with_reducible refine (L4.out _).mono ?_; rintro e w4 ⟨rfl, hb⟩; exact ⟨rfl, HC.out _ _ hb⟩) | (go_at_call 19; with_reducible refine (L5.out _).mono ?_; rintro e w4 ⟨rfl, hb⟩; exact ⟨rfl, HC.out _ _ hb⟩))))))
              refine wpQuiet_nil ?_
              rintro _ ⟨k, rfl⟩
              go_wp2
              go_roundw
              case rel =>
                exact ⟨3, by omega, by go_num, ⟨HFH.out k⟩, ⟨HFG.out k⟩, ⟨HFT.out k⟩, ⟨HFU.out k⟩, ⟨HFB.out k⟩⟩
              case measure => simp [intOf]
            · have L1 : Aside0 (∀ (w : World), Calls Try.prog 19 #[.agg (S.map (Value.int .i64)).toArray, .int .i64 (1), .int .i64 (-1)] w fun e w' => e = .returned (.int .i64 (lookL T (-1) (1))) ∧ Below w.heap.size w w') := ⟨LS.out 2 0 (by omega) (by omega)⟩
              have L2 : Aside0 (∀ (w : World), Calls Try.prog 19 #[.agg (T.map (Value.int .i64)).toArray, .int .i64 (-1), .int .i64 (1)] w fun e w' => e = .returned (.int .i64 (lookL T (-1) (1))) ∧ Below w.heap.size w w') := ⟨LT.out (-1) (1)⟩
              have L3 : Aside0 (∀ (w : World), Calls Try.prog 19 #[.agg (D.map (Value.int .i64)).toArray, .int .i64 (1), .int .i64 (-1)] w fun e w' => e = .returned (.int .i64 (-lookL T (-1) (1))) ∧ Below w.heap.size w w') := ⟨LD.out 2 0 (by omega) (by omega)⟩
              have L4 : Aside0 (∀ (w : World), Calls Try.prog 19 #[.agg (T.map (Value.int .i64)).toArray, .int .i64 (-1), .int .i64 (1)] w fun e w' => e = .returned (.int .i64 (lookL T (-1) (1))) ∧ Below w.heap.size w w') := ⟨LT.out (-1) (1)⟩
              have L5 : Aside0 (∀ (w : World), Calls Try.prog 19 #[.agg (maxT.map (Value.int .i64)).toArray, .int .i64 (1), .int .i64 (-1)] w fun e w' => e = .returned (.int .i64 (1)) ∧ Below w.heap.size w w') := ⟨by have := LX.out (1) (-1); rwa [show lookL maxT (1) (-1) = (1) from rfl] at this⟩
              have hwn : IntKind.i64.wrap (-lookL T (-1) (1)) = -lookL T (-1) (1) := IntWalk.i64_in _ (by have := lookL_low T (-1) (1); have := lookL_high T (-1) (1); omega)
              go_wp2
              refine wp_region_class F (by kernel_rfl) (by kernel_rfl) HS.out ?_
              repeat (first | go_big_quiet_skip | (go_big_quiet_want; first | (refine quiet_load_row 24 _ rfl w1.heap.size rfl 24 T _ HFT.out Try.underlying24 rfl HIL.out ?_; simp only [Act.put, List.setIfInBounds_toArray, List.set_cons_zero, List.set_cons_succ]; go_big_quiet_on) | (refine quiet_neq_same 24 _ _ _ rfl T rfl rfl HGD.out HQT.out ?_; simp only [Act.put, List.setIfInBounds_toArray, List.set_cons_zero, List.set_cons_succ]; go_big_quiet_on) | (go_big_quiet_op; first | go_big_quiet_on | go_big_quiet_call ((first | (go_at_call 36; with_reducible refine (SW1.out _).mono ?_; rintro e w4 ⟨rfl, hb⟩; exact ⟨rfl, HC.out _ _ hb⟩) | (go_at_call 34; with_reducible refine (DU1.out _).mono ?_; rintro e w4 ⟨rfl, hb⟩; exact ⟨rfl, HC.out _ _ hb⟩) | (go_at_call 38; with_reducible refine (TX.out _).mono ?_; rintro e w4 ⟨rfl, hb⟩; exact ⟨rfl, HC.out _ _ hb⟩) | (go_at_call 19; with_reducible refine (L1.out _).mono ?_; rintro e w4 ⟨rfl, hb⟩; exact ⟨rfl, HC.out _ _ hb⟩) | (go_at_call 19; with_reducible refine (L2.out _).mono ?_; rintro e w4 ⟨rfl, hb⟩; exact ⟨rfl, HC.out _ _ hb⟩) | (go_at_call 19; with_reducible refine (L3.out _).mono ?_; rintro e w4 ⟨rfl, hb⟩; exact ⟨rfl, HC.out _ _ hb⟩) | (go_at_call 19; with_reducible refine (L4.out _).mono ?_; rintro e w4 ⟨rfl, hb⟩; exact ⟨rfl, HC.out _ _ hb⟩) | (go_at_call 19; with_reducible refine (L5.out _).mono ?_; rintro e w4 ⟨rfl, hb⟩; exact ⟨rfl, HC.out _ _ hb⟩))))))
              refine wpQuiet_nil ?_
              rintro _ ⟨k, rfl⟩
              go_wp2
              go_roundw
              case rel =>
                exact ⟨1, by omega, by go_num, ⟨HFH.out k⟩, ⟨HFG.out k⟩, ⟨HFT.out k⟩, ⟨HFU.out k⟩, ⟨HFB.out k⟩⟩
              case measure => simp [intOf]
            · have L1 : Aside0 (∀ (w : World), Calls Try.prog 19 #[.agg (S.map (Value.int .i64)).toArray, .int .i64 (1), .int .i64 (0)] w fun e w' => e = .returned (.int .i64 (lookL T (0) (1))) ∧ Below w.heap.size w w') := ⟨LS.out 2 1 (by omega) (by omega)⟩
              have L2 : Aside0 (∀ (w : World), Calls Try.prog 19 #[.agg (T.map (Value.int .i64)).toArray, .int .i64 (0), .int .i64 (1)] w fun e w' => e = .returned (.int .i64 (lookL T (0) (1))) ∧ Below w.heap.size w w') := ⟨LT.out (0) (1)⟩
              have L3 : Aside0 (∀ (w : World), Calls Try.prog 19 #[.agg (D.map (Value.int .i64)).toArray, .int .i64 (1), .int .i64 (0)] w fun e w' => e = .returned (.int .i64 (-lookL T (-1) (0))) ∧ Below w.heap.size w w') := ⟨LD.out 2 1 (by omega) (by omega)⟩
              have L4 : Aside0 (∀ (w : World), Calls Try.prog 19 #[.agg (T.map (Value.int .i64)).toArray, .int .i64 (-1), .int .i64 (0)] w fun e w' => e = .returned (.int .i64 (lookL T (-1) (0))) ∧ Below w.heap.size w w') := ⟨LT.out (-1) (0)⟩
              have L5 : Aside0 (∀ (w : World), Calls Try.prog 19 #[.agg (maxT.map (Value.int .i64)).toArray, .int .i64 (1), .int .i64 (0)] w fun e w' => e = .returned (.int .i64 (1)) ∧ Below w.heap.size w w') := ⟨by have := LX.out (1) (0); rwa [show lookL maxT (1) (0) = (1) from rfl] at this⟩
              have hwn : IntKind.i64.wrap (-lookL T (-1) (0)) = -lookL T (-1) (0) := IntWalk.i64_in _ (by have := lookL_low T (-1) (0); have := lookL_high T (-1) (0); omega)
              go_wp2
              refine wp_region_class F (by kernel_rfl) (by kernel_rfl) HS.out ?_
              repeat (first | go_big_quiet_skip | (go_big_quiet_want; first | (refine quiet_load_row 24 _ rfl w1.heap.size rfl 24 T _ HFT.out Try.underlying24 rfl HIL.out ?_; simp only [Act.put, List.setIfInBounds_toArray, List.set_cons_zero, List.set_cons_succ]; go_big_quiet_on) | (refine quiet_neq_same 24 _ _ _ rfl T rfl rfl HGD.out HQT.out ?_; simp only [Act.put, List.setIfInBounds_toArray, List.set_cons_zero, List.set_cons_succ]; go_big_quiet_on) | (go_big_quiet_op; first | go_big_quiet_on | go_big_quiet_call ((first | (go_at_call 36; with_reducible refine (SW1.out _).mono ?_; rintro e w4 ⟨rfl, hb⟩; exact ⟨rfl, HC.out _ _ hb⟩) | (go_at_call 34; with_reducible refine (DU1.out _).mono ?_; rintro e w4 ⟨rfl, hb⟩; exact ⟨rfl, HC.out _ _ hb⟩) | (go_at_call 38; with_reducible refine (TX.out _).mono ?_; rintro e w4 ⟨rfl, hb⟩; exact ⟨rfl, HC.out _ _ hb⟩) | (go_at_call 19; with_reducible refine (L1.out _).mono ?_; rintro e w4 ⟨rfl, hb⟩; exact ⟨rfl, HC.out _ _ hb⟩) | (go_at_call 19; with_reducible refine (L2.out _).mono ?_; rintro e w4 ⟨rfl, hb⟩; exact ⟨rfl, HC.out _ _ hb⟩) | (go_at_call 19; with_reducible refine (L3.out _).mono ?_; rintro e w4 ⟨rfl, hb⟩; exact ⟨rfl, HC.out _ _ hb⟩) | (go_at_call 19; with_reducible refine (L4.out _).mono ?_; rintro e w4 ⟨rfl, hb⟩; exact ⟨rfl, HC.out _ _ hb⟩) | (go_at_call 19; with_reducible refine (L5.out _).mono ?_; rintro e w4 ⟨rfl, hb⟩; exact ⟨rfl, HC.out _ _ hb⟩))))))
              refine wpQuiet_nil ?_
              rintro _ ⟨k, rfl⟩
              go_wp2
              go_roundw
              case rel =>
                exact ⟨2, by omega, by go_num, ⟨HFH.out k⟩, ⟨HFG.out k⟩, ⟨HFT.out k⟩, ⟨HFU.out k⟩, ⟨HFB.out k⟩⟩
              case measure => simp [intOf]
            · have L1 : Aside0 (∀ (w : World), Calls Try.prog 19 #[.agg (S.map (Value.int .i64)).toArray, .int .i64 (1), .int .i64 (1)] w fun e w' => e = .returned (.int .i64 (lookL T (1) (1))) ∧ Below w.heap.size w w') := ⟨LS.out 2 2 (by omega) (by omega)⟩
              have L2 : Aside0 (∀ (w : World), Calls Try.prog 19 #[.agg (T.map (Value.int .i64)).toArray, .int .i64 (1), .int .i64 (1)] w fun e w' => e = .returned (.int .i64 (lookL T (1) (1))) ∧ Below w.heap.size w w') := ⟨LT.out (1) (1)⟩
              have L3 : Aside0 (∀ (w : World), Calls Try.prog 19 #[.agg (D.map (Value.int .i64)).toArray, .int .i64 (1), .int .i64 (1)] w fun e w' => e = .returned (.int .i64 (-lookL T (-1) (-1))) ∧ Below w.heap.size w w') := ⟨LD.out 2 2 (by omega) (by omega)⟩
              have L4 : Aside0 (∀ (w : World), Calls Try.prog 19 #[.agg (T.map (Value.int .i64)).toArray, .int .i64 (-1), .int .i64 (-1)] w fun e w' => e = .returned (.int .i64 (lookL T (-1) (-1))) ∧ Below w.heap.size w w') := ⟨LT.out (-1) (-1)⟩
              have L5 : Aside0 (∀ (w : World), Calls Try.prog 19 #[.agg (maxT.map (Value.int .i64)).toArray, .int .i64 (1), .int .i64 (1)] w fun e w' => e = .returned (.int .i64 (1)) ∧ Below w.heap.size w w') := ⟨by have := LX.out (1) (1); rwa [show lookL maxT (1) (1) = (1) from rfl] at this⟩
              have hwn : IntKind.i64.wrap (-lookL T (-1) (-1)) = -lookL T (-1) (-1) := IntWalk.i64_in _ (by have := lookL_low T (-1) (-1); have := lookL_high T (-1) (-1); omega)
              go_wp2
              refine wp_region_class F (by kernel_rfl) (by kernel_rfl) HS.out ?_
              repeat (first | go_big_quiet_skip | (go_big_quiet_want; first | (refine quiet_load_row 24 _ rfl w1.heap.size rfl 24 T _ HFT.out Try.underlying24 rfl HIL.out ?_; simp only [Act.put, List.setIfInBounds_toArray, List.set_cons_zero, List.set_cons_succ]; go_big_quiet_on) | (refine quiet_neq_same 24 _ _ _ rfl T rfl rfl HGD.out HQT.out ?_; simp only [Act.put, List.setIfInBounds_toArray, List.set_cons_zero, List.set_cons_succ]; go_big_quiet_on) | (go_big_quiet_op; first | go_big_quiet_on | go_big_quiet_call ((first | (go_at_call 36; with_reducible refine (SW1.out _).mono ?_; rintro e w4 ⟨rfl, hb⟩; exact ⟨rfl, HC.out _ _ hb⟩) | (go_at_call 34; with_reducible refine (DU1.out _).mono ?_; rintro e w4 ⟨rfl, hb⟩; exact ⟨rfl, HC.out _ _ hb⟩) | (go_at_call 38; with_reducible refine (TX.out _).mono ?_; rintro e w4 ⟨rfl, hb⟩; exact ⟨rfl, HC.out _ _ hb⟩) | (go_at_call 19; with_reducible refine (L1.out _).mono ?_; rintro e w4 ⟨rfl, hb⟩; exact ⟨rfl, HC.out _ _ hb⟩) | (go_at_call 19; with_reducible refine (L2.out _).mono ?_; rintro e w4 ⟨rfl, hb⟩; exact ⟨rfl, HC.out _ _ hb⟩) | (go_at_call 19; with_reducible refine (L3.out _).mono ?_; rintro e w4 ⟨rfl, hb⟩; exact ⟨rfl, HC.out _ _ hb⟩) | (go_at_call 19; with_reducible refine (L4.out _).mono ?_; rintro e w4 ⟨rfl, hb⟩; exact ⟨rfl, HC.out _ _ hb⟩) | (go_at_call 19; with_reducible refine (L5.out _).mono ?_; rintro e w4 ⟨rfl, hb⟩; exact ⟨rfl, HC.out _ _ hb⟩))))))
              refine wpQuiet_nil ?_
              rintro _ ⟨k, rfl⟩
              go_wp2
              go_roundw
              case rel =>
                exact ⟨3, by omega, by go_num, ⟨HFH.out k⟩, ⟨HFG.out k⟩, ⟨HFT.out k⟩, ⟨HFU.out k⟩, ⟨HFB.out k⟩⟩
              case measure => simp [intOf]
          · have hi3 : i = 3 := by omega
            subst hi3
            go_wp2
            go_roundw
            case rel => exact ⟨j + 1, by omega, by go_num, ⟨KG.out⟩, ⟨KT.out⟩, ⟨KU.out⟩, ⟨HB.out⟩⟩
            case measure => simp [intOf]; omega
      · have hjn : j = 3 := by omega
        subst hjn
        go_wp2
        go_ret
        exact ⟨rfl, HB.out⟩
theorem lawWalk (a0 : Option Addr) (len0 cap0 : Nat) (z0 : List Int) (w : World) (w0 : (a0 = none ∧ len0 = 0 ∧ cap0 = 0 ∧ z0 = []) ∨ ∃ x, a0 = some x ∧ len0 ≤ cap0 ∧ cap0 ≤ maxLen ∧ z0.length = cap0 ∧ (∀ i, i < z0.length → w.cell? (x.add i) = some (.int .u8 (z0.getD i 0))) ∧ ∀ n ∈ z0, (Lit.int .u8 n).wf = true) :
    Calls Try.prog 13 #[.slice a0 len0 cap0] w fun e w' => e = .returned (.bool true) ∧ Below w.heap.size w w' := by
  obtain ⟨l0, rfl, hr0, hm0, hw0, hc0⟩ := ReadsInt.ofRowC w0
  exact lawCore _ _ l0 w (Kd.C_of_reads (d := (0 : Int)) (h1 := fun _ => rfl) hr0) hc0
end Go.Proofs.Ytegknmpphbkgpaa.LFnTables
