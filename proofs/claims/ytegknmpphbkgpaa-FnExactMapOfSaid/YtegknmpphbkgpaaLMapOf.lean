/- The law of MapOf holds. No condition. -/
import Derived.Test.YtegknmpphbkgpaaProg
import Derived.Below
import Derived.WalkSpells
import Derived.Deep.Draws
import Derived.Deep.AppendLies
import Derived.Maps.AppendAt
import Derived.OwnWalk
import Derived.Laws.BytesArg
import Derived.Laws.MakeOwn
import Derived.Laws.OwnMore
import Derived.Deep.OwnRows
import Derived.Tactics
import Derived.Lib.ConvBytes
import Derived.Laws.Slices
import Derived.WalkKit
import Derived.KernelRfl
import Derived.RowKit3
import Derived.Deep.LoopGhost
import Derived.Deep.QuietTactic
import Derived.BigQuiet
import Derived.WideLaws
import Derived.Deep.DeepCutAuto
import Derived.Deep.CutBlock
import Derived.Deep.RegionHeld3
import Derived.Laws.Rows
import Derived.Lib.AppendStr
import Derived.ArgAppend
import Derived.Laws.IdiomCopy
import Derived.OrdersHeld
import Derived.Laws.BitsLemmas
import Derived.RowKit
import Derived.Test.YtegknmpphbkgpaaWWords
import Derived.Test.YtegknmpphbkgpaaWLast
import Derived.Test.YtegknmpphbkgpaaWTab
import Derived.Test.YtegknmpphbkgpaaWFour
import Derived.Test.YtegknmpphbkgpaaWQPut
import Derived.Test.YtegknmpphbkgpaaWApart
import Derived.Test.YtegknmpphbkgpaaWArr
import Derived.Test.YtegknmpphbkgpaaWZeros
import Derived.Test.YtegknmpphbkgpaaWFoot
import Derived.Test.YtegknmpphbkgpaaWKept
import Derived.Test.YtegknmpphbkgpaaWShare
import Derived.Test.YtegknmpphbkgpaaWN
import Derived.Test.YtegknmpphbkgpaaWFootNe
import Derived.Test.YtegknmpphbkgpaaWAt
import Derived.Test.YtegknmpphbkgpaaWEqStruct
import Derived.Test.YtegknmpphbkgpaaWRepsOne
import Derived.Test.YtegknmpphbkgpaaWInv
import Derived.Test.YtegknmpphbkgpaaWInvWords
import Derived.Test.YtegknmpphbkgpaaWGuard
import Derived.Test.YtegknmpphbkgpaaWNEv
import Derived.Test.YtegknmpphbkgpaaWMore
import Derived.Test.YtegknmpphbkgpaaHM
set_option linter.unusedVariables false
set_option linter.unusedSimpArgs false
namespace Go.Proofs.Ytegknmpphbkgpaa.LMapOf
open Go.RowKit Go.Proofs.YtegknmpphbkgpaaW.PrintWords Go.Proofs.YtegknmpphbkgpaaW.PrintLast Go.Proofs.YtegknmpphbkgpaaW.PrintMore Go.Proofs.Ytegknmpphbkgpaa.HA Go.Proofs.Ytegknmpphbkgpaa.HL Go.Proofs.Ytegknmpphbkgpaa.HM Go.Proofs.Ytegknmpphbkgpaa.PFnExactMapOf
set_option maxHeartbeats 1000000 in
theorem lawWalk (a b : Int) (w : World) :
    Calls Try.prog 9 #[.int .i64 a, .int .i64 b] w fun e w' => e = .returned (.bool true) ∧ Below w.heap.size w w' := by
  obtain ⟨L, hL⟩ : ∃ L, L = mapL a b := ⟨_, rfl⟩
  have hl : L.length = 3 := by rw [hL]; rfl
  have HL := Aside0.mk hl
  have S1 := Aside0.mk (sMapOf a b)
  have S2 := Aside0.mk (iMapOf a b)
  rw [← hL] at S1 S2
  have S3 : Aside0 (∀ w : World, Calls Try.prog 23 #[.agg (L.map (Value.int .i64)).toArray, .agg (L.map (Value.int .i64)).toArray] w fun e w' => e = .returned (.bool true) ∧ Below w.heap.size w w') := ⟨fun w => by
    have h := eqCarryMap_calls L L hl hl w
    rwa [decide_eq_true (rfl : L = L)] at h⟩
  have hsz : (L.map (Value.int .i64)).toArray.size = 3 := by simp [hl]
  have hi : (Try.prog.info? 30).map (·.size) = some (L.map (Value.int .i64)).toArray.size := by rw [hsz]; exact info30
  have HI := Aside0.mk hi
  have HA := Aside0.mk (all_one L)
  have HS := Aside0.mk hsz
  clear hi hsz hl hL
  go_enter Try.func9, Try.ntmps9
  go_wp2_with (first
    | (go_at_call 31; refine (S1.out _).mono ?_; rintro e w1 ⟨rfl, hb⟩; have HB1 := Aside0.mk hb; clear hb)
    | (go_at_call 32; refine (S2.out _).mono ?_; rintro e w2 ⟨rfl, hb⟩; have HB2 := Aside0.mk hb; have hne : w2.heap.size ≠ w1.heap.size := (by have := hb.size; simp only [setRow_size, alloc_size] at this; omega); have HN := Aside0.mk hne; clear hb hne)
    | (go_at_call 23; refine (S3.out _).mono ?_; rintro e w3 ⟨rfl, hb⟩; have HB3 := Aside0.mk hb; clear hb)
    | refine wpList_load_row rfl 30 _ rfl w2.heap.size rfl 30 (L.map (Value.int .i64)).toArray (0, 0) _ ((Blk.made w2 30 (List.replicate 3 0)).setRow L) Try.underlying30 rfl HI.out ?_
    | refine wpList_load_row rfl 30 _ rfl w1.heap.size rfl 30 (L.map (Value.int .i64)).toArray (0, 0) _ (((((Blk.made w1 30 (List.replicate 3 0)).setRow L).below HB2.out).alloc _).otherRow HN.out) Try.underlying30 rfl HI.out ?_
    | refine wpList_store_row rfl 30 _ _ rfl w2.heap.size (L.map (Value.int .i64)).toArray rfl rfl 30 _ (Blk.made w2 30 (List.replicate 3 0)) HI.out (by rw [HS.out]; rfl) HA.out ?_
    | refine wpList_store_row rfl 30 _ _ rfl w1.heap.size (L.map (Value.int .i64)).toArray rfl rfl 30 _ (Blk.made w1 30 (List.replicate 3 0)) HI.out (by rw [HS.out]; rfl) HA.out ?_)
  go_ret
  have b1 := belowRow (below_alloc HB1.out (Obj.cells (List.map (Value.int IntKind.i64) (List.replicate 3 0)).toArray 30)) HB1.out.size (L.map (Value.int .i64)).toArray
  have b2 := below_step b1 HB2.out
  have b3 := belowRow (below_alloc b2 (Obj.cells (List.map (Value.int IntKind.i64) (List.replicate 3 0)).toArray 30)) b2.size (L.map (Value.int .i64)).toArray
  exact ⟨rfl, below_step b3 HB3.out⟩
end Go.Proofs.Ytegknmpphbkgpaa.LMapOf
