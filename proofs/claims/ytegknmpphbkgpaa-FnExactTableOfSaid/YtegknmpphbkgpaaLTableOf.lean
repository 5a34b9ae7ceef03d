/- The law of TableOf holds. No condition. -/
import Derived.Test.YtegknmpphbkgpaaProg
import Derived.Below
import Derived.WalkSpells
import Derived.Deep.Draws
import Derived.Deep.AppendLies
import Derived.Maps.AppendAt
import Derived.OwnWalk
import Derived.Laws.BytesArg
import Derived.Laws.MakeOwn
import Derived.Laws.OwnMore
import Derived.Deep.OwnRows
import Derived.Tactics
import Derived.Lib.ConvBytes
import Derived.Laws.Slices
import Derived.WalkKit
import Derived.KernelRfl
import Derived.RowKit3
import Derived.Deep.LoopGhost
import Derived.Deep.QuietTactic
import Derived.BigQuiet
import Derived.WideLaws
import Derived.Deep.DeepCutAuto
import Derived.Deep.CutBlock
import Derived.Deep.RegionHeld3
import Derived.Laws.Rows
import Derived.Lib.AppendStr
import Derived.ArgAppend
import Derived.Laws.IdiomCopy
import Derived.OrdersHeld
import Derived.Laws.BitsLemmas
import Derived.RowKit
import Derived.Test.YtegknmpphbkgpaaWWords
import Derived.Test.YtegknmpphbkgpaaWLast
import Derived.Test.YtegknmpphbkgpaaWTab
import Derived.Test.YtegknmpphbkgpaaWFour
import Derived.Test.YtegknmpphbkgpaaWQPut
import Derived.Test.YtegknmpphbkgpaaWApart
import Derived.Test.YtegknmpphbkgpaaWArr
import Derived.Test.YtegknmpphbkgpaaWZeros
import Derived.Test.YtegknmpphbkgpaaWFoot
import Derived.Test.YtegknmpphbkgpaaWKept
import Derived.Test.YtegknmpphbkgpaaWShare
import Derived.Test.YtegknmpphbkgpaaWN
import Derived.Test.YtegknmpphbkgpaaWFootNe
import Derived.Test.YtegknmpphbkgpaaWAt
import Derived.Test.YtegknmpphbkgpaaWEqStruct
import Derived.Test.YtegknmpphbkgpaaWRepsOne
import Derived.Test.YtegknmpphbkgpaaWInv
import Derived.Test.YtegknmpphbkgpaaWInvWords
import Derived.Test.YtegknmpphbkgpaaWGuard
import Derived.Test.YtegknmpphbkgpaaWNEv
import Derived.Test.YtegknmpphbkgpaaWMore
import Derived.Test.YtegknmpphbkgpaaHV
import Derived.Test.YtegknmpphbkgpaaHX
set_option linter.unusedVariables false
set_option linter.unusedSimpArgs false
namespace Go.Proofs.Ytegknmpphbkgpaa.LTableOf
open Go.RowKit Go.Proofs.YtegknmpphbkgpaaW.PrintWords Go.Proofs.YtegknmpphbkgpaaW.PrintLast Go.Proofs.YtegknmpphbkgpaaW.PrintMore Go.Proofs.Ytegknmpphbkgpaa.HA Go.Proofs.Ytegknmpphbkgpaa.HL Go.Proofs.Ytegknmpphbkgpaa.HM Go.Proofs.Ytegknmpphbkgpaa.HK Go.Proofs.Ytegknmpphbkgpaa.HD Go.Proofs.Ytegknmpphbkgpaa.HW Go.Proofs.Ytegknmpphbkgpaa.HX Go.Proofs.Ytegknmpphbkgpaa.HV Go.Proofs.Ytegknmpphbkgpaa.PFnExactTableOf
set_option maxHeartbeats 2000000 in
theorem lawWalk (s : ByteArray) (w : World) :
    Calls Try.prog 12 #[.string s] w fun e w' => e = .returned (.bool true) ∧ Below w.heap.size w w' := by
  by_cases hbig : (s.size : Int) > 1048576
  · have hb0 : decide ((s.size : Int) > 1048576) = true := decide_eq_true hbig
    go_enter Try.func12, Try.ntmps12
    go_wp2
    go_ret
    exact ⟨rfl, Below.refl _ _⟩
  · have hb0 : decide ((s.size : Int) > 1048576) = false := decide_eq_false hbig
    have hb1 : ¬ (1048576 : Int) < s.size := hbig
    have S1 := Aside0.mk (sTableOf s)
    have S2 := Aside0.mk (iTableOf s)
    have hT9 := genL_len (valF s)
    obtain ⟨T, hT⟩ : ∃ T, T = genL (valF s) := ⟨_, rfl⟩
    rw [← hT] at S1 S2 hT9
    have S3 : Aside0 (∀ w : World, Calls Try.prog 30 #[.agg (T.map (Value.int .i64)).toArray, .agg (T.map (Value.int .i64)).toArray] w fun e w' => e = .returned (.bool true) ∧ Below w.heap.size w w') := ⟨fun w => by
      have h := eqTable_calls T T hT9 hT9 w
      rwa [decide_eq_true (rfl : T = T)] at h⟩
    have HI := Aside0.mk (show (Try.prog.info? 24).map (·.size) = some (T.map (Value.int .i64)).toArray.size by rw [info24]; simp [hT9])
    have HS := Aside0.mk (show (T.map (Value.int .i64)).toArray.size = 9 by simp [hT9])
    have HA := Aside0.mk (all_one T)
    clear hT hT9 hbig
    go_enter Try.func12, Try.ntmps12
    go_wp2_with (first
      | (go_at_call 37; refine (S1.out _).mono ?_; rintro e w1 ⟨rfl, hb⟩; have HB := Aside0.mk hb; clear hb)
      | (go_at_call 38; refine (S2.out _).mono ?_; rintro e w2 ⟨rfl, hb⟩; have n0 := Aside0.mk (KT.out.below hb); have n2 := Aside0.mk (below_step HB.out hb); clear KT HB hb; have KT := n0; have HB := n2; clear n0 n2; have hne2 : w2.heap.size ≠ w1.heap.size := (by have := KT.out.lt; omega); have HN := Aside0.mk hne2; clear hne2)
      | (go_at_call 30; refine (S3.out _).mono ?_; rintro e w3 ⟨rfl, hb⟩; have HB3 := Aside0.mk (below_step HB.out hb); clear hb)
      | (refine wpList_store_row rfl 24 _ _ rfl w2.heap.size (T.map (Value.int .i64)).toArray rfl rfl 24 _ (Blk.made w2 24 (List.replicate 9 0)) HI.out (by rw [HS.out]; rfl) HA.out ?_; have K2 := Aside0.mk ((Blk.made w2 24 (List.replicate 9 0)).setRow T); have n0 := Aside0.mk ((KT.out.alloc (Obj.cells (List.map (Value.int IntKind.i64) (List.replicate 9 0)).toArray 24)).otherRow (cs := (T.map (Value.int .i64)).toArray) HN.out); have n2 := Aside0.mk (belowRow (below_alloc HB.out (Obj.cells (List.map (Value.int IntKind.i64) (List.replicate 9 0)).toArray 24)) HB.out.size (T.map (Value.int .i64)).toArray); clear KT HB; have KT := n0; have HB := n2; clear n0 n2)
      | (refine wpList_store_row rfl 24 _ _ rfl w1.heap.size (T.map (Value.int .i64)).toArray rfl rfl 24 _ (Blk.made w1 24 (List.replicate 9 0)) HI.out (by rw [HS.out]; rfl) HA.out ?_; have KT := Aside0.mk ((Blk.made w1 24 (List.replicate 9 0)).setRow T); have n2 := Aside0.mk (belowRow (below_alloc HB.out (Obj.cells (List.map (Value.int IntKind.i64) (List.replicate 9 0)).toArray 24)) HB.out.size (T.map (Value.int .i64)).toArray); clear HB; have HB := n2; clear n2)
      | refine wpList_load_row rfl 24 _ rfl w2.heap.size rfl 24 (T.map (Value.int .i64)).toArray (0, 0) _ K2.out Try.underlying24 rfl HI.out ?_
      | refine wpList_load_row rfl 24 _ rfl w1.heap.size rfl 24 (T.map (Value.int .i64)).toArray (0, 0) _ KT.out Try.underlying24 rfl HI.out ?_)
    go_ret
    exact ⟨rfl, HB3.out⟩
end Go.Proofs.Ytegknmpphbkgpaa.LTableOf
