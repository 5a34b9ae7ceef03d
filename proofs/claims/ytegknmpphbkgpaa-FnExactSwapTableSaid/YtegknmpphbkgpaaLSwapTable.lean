/- The law of SwapTable holds for nine numbers. -/
import Derived.Test.YtegknmpphbkgpaaProg
import Derived.Below
import Derived.WalkSpells
import Derived.Deep.Draws
import Derived.Deep.AppendLies
import Derived.Maps.AppendAt
import Derived.OwnWalk
import Derived.Laws.BytesArg
import Derived.Laws.MakeOwn
import Derived.Laws.OwnMore
import Derived.Deep.OwnRows
import Derived.Tactics
import Derived.Lib.ConvBytes
import Derived.Laws.Slices
import Derived.WalkKit
import Derived.KernelRfl
import Derived.RowKit3
import Derived.Deep.LoopGhost
import Derived.Deep.QuietTactic
import Derived.BigQuiet
import Derived.WideLaws
import Derived.Deep.DeepCutAuto
import Derived.Deep.CutBlock
import Derived.Deep.RegionHeld3
import Derived.Laws.Rows
import Derived.Lib.AppendStr
import Derived.ArgAppend
import Derived.Laws.IdiomCopy
import Derived.OrdersHeld
import Derived.Laws.BitsLemmas
import Derived.RowKit
import Derived.Test.YtegknmpphbkgpaaWWords
import Derived.Test.YtegknmpphbkgpaaWLast
import Derived.Test.YtegknmpphbkgpaaWTab
import Derived.Test.YtegknmpphbkgpaaWFour
import Derived.Test.YtegknmpphbkgpaaWQPut
import Derived.Test.YtegknmpphbkgpaaWApart
import Derived.Test.YtegknmpphbkgpaaWArr
import Derived.Test.YtegknmpphbkgpaaWZeros
import Derived.Test.YtegknmpphbkgpaaWFoot
import Derived.Test.YtegknmpphbkgpaaWKept
import Derived.Test.YtegknmpphbkgpaaWShare
import Derived.Test.YtegknmpphbkgpaaWN
import Derived.Test.YtegknmpphbkgpaaWFootNe
import Derived.Test.YtegknmpphbkgpaaWAt
import Derived.Test.YtegknmpphbkgpaaWEqStruct
import Derived.Test.YtegknmpphbkgpaaWRepsOne
import Derived.Test.YtegknmpphbkgpaaWInv
import Derived.Test.YtegknmpphbkgpaaWInvWords
import Derived.Test.YtegknmpphbkgpaaWGuard
import Derived.Test.YtegknmpphbkgpaaWNEv
import Derived.Test.YtegknmpphbkgpaaWMore
import Derived.Test.YtegknmpphbkgpaaHS
set_option linter.unusedVariables false
set_option linter.unusedSimpArgs false
namespace Go.Proofs.Ytegknmpphbkgpaa.LSwapTable
open Go.RowKit Go.Proofs.YtegknmpphbkgpaaW.PrintWords Go.Proofs.YtegknmpphbkgpaaW.PrintLast Go.Proofs.YtegknmpphbkgpaaW.PrintMore Go.Proofs.Ytegknmpphbkgpaa.HA Go.Proofs.Ytegknmpphbkgpaa.HL Go.Proofs.Ytegknmpphbkgpaa.HK Go.Proofs.Ytegknmpphbkgpaa.HD Go.Proofs.Ytegknmpphbkgpaa.HS Go.Proofs.Ytegknmpphbkgpaa.PFnExactMapOf
set_option maxHeartbeats 2000000 in
theorem lawWalk (l : List Int) (hl : l.length = 9) (w : World) :
    Calls Try.prog 11 #[.agg (l.map (Value.int .i64)).toArray] w fun e w' => e = .returned (.bool true) ∧ Below w.heap.size w w' := by
  have S0 := Aside0.mk (toTable_calls l hl)
  have S1 := Aside0.mk (sSwap l hl)
  have S2 := Aside0.mk (iSwap l hl)
  have hT9 := genL_len (swapF l)
  obtain ⟨T, hT⟩ : ∃ T, T = genL (swapF l) := ⟨_, rfl⟩
  rw [← hT] at S1 S2 hT9
  have S3 : Aside0 (∀ w : World, Calls Try.prog 30 #[.agg (T.map (Value.int .i64)).toArray, .agg (T.map (Value.int .i64)).toArray] w fun e w' => e = .returned (.bool true) ∧ Below w.heap.size w w') := ⟨fun w => by
    have h := eqTable_calls T T hT9 hT9 w
    rwa [decide_eq_true (rfl : T = T)] at h⟩
  have HIL := Aside0.mk (show (Try.prog.info? 22).map (·.size) = some (l.map (Value.int .i64)).toArray.size by rw [info22]; simp [hl])
  have HI := Aside0.mk (show (Try.prog.info? 24).map (·.size) = some (T.map (Value.int .i64)).toArray.size by rw [info24]; simp [hT9])
  have HS := Aside0.mk (show (T.map (Value.int .i64)).toArray.size = 9 by simp [hT9])
  have HA := Aside0.mk (all_one T)
  have KB := Aside0.mk (Blk.made w 22 l)
  have HB := Aside0.mk (below_alloc (Below.refl w.heap.size w) (Obj.cells (List.map (Value.int IntKind.i64) l).toArray 22))
  clear hT hl hT9
  go_enter Try.func11, Try.ntmps11
  go_wp2_with (first
    | refine wpList_load_row rfl 22 _ rfl w.heap.size rfl 22 (l.map (Value.int .i64)).toArray (0, 0) _ KB.out Try.underlying22 rfl HIL.out ?_
    | (go_at_call 30; refine (S3.out _).mono ?_; rintro e w3 ⟨rfl, hb⟩; have HB3 := Aside0.mk (below_step HB.out hb); clear hb)
    | (go_at_call 16; refine (S0.out _).mono ?_; rintro e w' ⟨rfl, hb⟩; have n0 := Aside0.mk (KT.out.below hb); have n1 := Aside0.mk (KB.out.below hb); have n2 := Aside0.mk (below_step HB.out hb); clear KT KB HB hb; have KT := n0; have KB := n1; have HB := n2; clear n0 n1 n2)
    | (go_at_call 16; refine (S0.out _).mono ?_; rintro e w' ⟨rfl, hb⟩; have n1 := Aside0.mk (KB.out.below hb); have n2 := Aside0.mk (below_step HB.out hb); clear KB HB hb; have KB := n1; have HB := n2; clear n1 n2)
    | (go_at_call 35; refine (S1.out _).mono ?_; rintro e w1 ⟨rfl, hb⟩; have n1 := Aside0.mk (KB.out.below hb); have n2 := Aside0.mk (below_step HB.out hb); clear KB HB hb; have KB := n1; have HB := n2; clear n1 n2)
    | (go_at_call 36; refine (S2.out _).mono ?_; rintro e w2 ⟨rfl, hb⟩; have n0 := Aside0.mk (KT.out.below hb); have n2 := Aside0.mk (below_step HB.out hb); clear KT HB hb; have KT := n0; have HB := n2; clear n0 n2; have hne : w2.heap.size ≠ w1.heap.size := (by have := KT.out.lt; omega); have HN := Aside0.mk hne; clear hne)
    | (refine wpList_store_row rfl 24 _ _ rfl w2.heap.size (T.map (Value.int .i64)).toArray rfl rfl 24 _ (Blk.made w2 24 (List.replicate 9 0)) HI.out (by rw [HS.out]; rfl) HA.out ?_; have K2 := Aside0.mk ((Blk.made w2 24 (List.replicate 9 0)).setRow T); have n0 := Aside0.mk ((KT.out.alloc (Obj.cells (List.map (Value.int IntKind.i64) (List.replicate 9 0)).toArray 24)).otherRow (cs := (T.map (Value.int .i64)).toArray) HN.out); have n2 := Aside0.mk (belowRow (below_alloc HB.out (Obj.cells (List.map (Value.int IntKind.i64) (List.replicate 9 0)).toArray 24)) HB.out.size (T.map (Value.int .i64)).toArray); clear KT HB; have KT := n0; have HB := n2; clear n0 n2)
    | (refine wpList_store_row rfl 24 _ _ rfl w1.heap.size (T.map (Value.int .i64)).toArray rfl rfl 24 _ (Blk.made w1 24 (List.replicate 9 0)) HI.out (by rw [HS.out]; rfl) HA.out ?_; have KT := Aside0.mk ((Blk.made w1 24 (List.replicate 9 0)).setRow T); have n0 := Aside0.mk ((KB.out.alloc (Obj.cells (List.map (Value.int IntKind.i64) (List.replicate 9 0)).toArray 24)).otherRow (g' := w1.heap.size) (cs := (T.map (Value.int .i64)).toArray) (by have := KB.out.lt; omega)); have n2 := Aside0.mk (belowRow (below_alloc HB.out (Obj.cells (List.map (Value.int IntKind.i64) (List.replicate 9 0)).toArray 24)) HB.out.size (T.map (Value.int .i64)).toArray); clear KB HB; have KB := n0; have HB := n2; clear n0 n2)
    | refine wpList_load_row rfl 24 _ rfl w2.heap.size rfl 24 (T.map (Value.int .i64)).toArray (0, 0) _ K2.out Try.underlying24 rfl HI.out ?_
    | refine wpList_load_row rfl 24 _ rfl w1.heap.size rfl 24 (T.map (Value.int .i64)).toArray (0, 0) _ KT.out Try.underlying24 rfl HI.out ?_)
  go_ret
  exact ⟨rfl, HB3.out⟩
end Go.Proofs.Ytegknmpphbkgpaa.LSwapTable
