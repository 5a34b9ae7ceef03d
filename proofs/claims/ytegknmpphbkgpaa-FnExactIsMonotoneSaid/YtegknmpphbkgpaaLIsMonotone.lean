/- The law of IsMonotone holds for nine numbers. -/
import Derived.Test.YtegknmpphbkgpaaProg
import Derived.Below
import Derived.WalkSpells
import Derived.Deep.Draws
import Derived.Deep.AppendLies
import Derived.Maps.AppendAt
import Derived.OwnWalk
import Derived.Laws.BytesArg
import Derived.Laws.MakeOwn
import Derived.Laws.OwnMore
import Derived.Deep.OwnRows
import Derived.Tactics
import Derived.Lib.ConvBytes
import Derived.Laws.Slices
import Derived.WalkKit
import Derived.KernelRfl
import Derived.RowKit3
import Derived.Deep.LoopGhost
import Derived.Deep.QuietTactic
import Derived.BigQuiet
import Derived.WideLaws
import Derived.Deep.DeepCutAuto
import Derived.Deep.CutBlock
import Derived.Deep.RegionHeld3
import Derived.Laws.Rows
import Derived.Lib.AppendStr
import Derived.ArgAppend
import Derived.Laws.IdiomCopy
import Derived.OrdersHeld
import Derived.Laws.BitsLemmas
import Derived.RowKit
import Derived.Test.YtegknmpphbkgpaaWWords
import Derived.Test.YtegknmpphbkgpaaWLast
import Derived.Test.YtegknmpphbkgpaaWTab
import Derived.Test.YtegknmpphbkgpaaWFour
import Derived.Test.YtegknmpphbkgpaaWQPut
import Derived.Test.YtegknmpphbkgpaaWApart
import Derived.Test.YtegknmpphbkgpaaWArr
import Derived.Test.YtegknmpphbkgpaaWZeros
import Derived.Test.YtegknmpphbkgpaaWFoot
import Derived.Test.YtegknmpphbkgpaaWKept
import Derived.Test.YtegknmpphbkgpaaWShare
import Derived.Test.YtegknmpphbkgpaaWN
import Derived.Test.YtegknmpphbkgpaaWFootNe
import Derived.Test.YtegknmpphbkgpaaWAt
import Derived.Test.YtegknmpphbkgpaaWEqStruct
import Derived.Test.YtegknmpphbkgpaaWRepsOne
import Derived.Test.YtegknmpphbkgpaaWInv
import Derived.Test.YtegknmpphbkgpaaWInvWords
import Derived.Test.YtegknmpphbkgpaaWGuard
import Derived.Test.YtegknmpphbkgpaaWNEv
import Derived.Test.YtegknmpphbkgpaaWMore
import Derived.Test.YtegknmpphbkgpaaHO2
set_option linter.unusedVariables false
set_option linter.unusedSimpArgs false
namespace Go.Proofs.Ytegknmpphbkgpaa.LIsMonotone
open Go.RowKit Go.Proofs.YtegknmpphbkgpaaW.PrintWords Go.Proofs.YtegknmpphbkgpaaW.PrintLast Go.Proofs.YtegknmpphbkgpaaW.PrintMore Go.Proofs.Ytegknmpphbkgpaa.HA Go.Proofs.Ytegknmpphbkgpaa.HL Go.Proofs.Ytegknmpphbkgpaa.HK Go.Proofs.Ytegknmpphbkgpaa.HC Go.Proofs.Ytegknmpphbkgpaa.HO Go.Proofs.Ytegknmpphbkgpaa.HO2 Go.Proofs.Ytegknmpphbkgpaa.PFnExactMapOf
set_option maxHeartbeats 1000000 in
theorem lawWalk (l : List Int) (hl : l.length = 9) (w : World) :
    Calls Try.prog 7 #[.agg (l.map (Value.int .i64)).toArray] w fun e w' => e = .returned (.bool true) ∧ Below w.heap.size w w' := by
  have S0 := Aside0.mk (toTable_calls l hl)
  have S1 := Aside0.mk (sMono l hl)
  have S2 := Aside0.mk (iMono l hl)
  obtain ⟨r, hr⟩ : ∃ r, r = monoL l := ⟨_, rfl⟩
  rw [← hr] at S1 S2
  clear hr
  have hne : (r != r) = false := by simp
  have HI := Aside0.mk (show (Try.prog.info? 22).map (·.size) = some (l.map (Value.int .i64)).toArray.size by rw [info22]; simp [hl])
  have KB := Aside0.mk (Blk.made w 22 l)
  have HB := Aside0.mk (below_alloc (Below.refl w.heap.size w) (Obj.cells (List.map (Value.int IntKind.i64) l).toArray 22))
  clear hl
  go_enter Try.func7, Try.ntmps7
  go_wp2_with (first
    | refine wpList_load_row rfl 22 _ rfl w.heap.size rfl 22 (l.map (Value.int .i64)).toArray (0, 0) _ KB.out Try.underlying22 rfl HI.out ?_
    | ((first | (go_at_call 16; refine (S0.out _).mono ?_) | (go_at_call 26; refine (S1.out _).mono ?_) | (go_at_call 27; refine (S2.out _).mono ?_)); rintro e w1 ⟨rfl, hb⟩; have n1 := Aside0.mk (KB.out.below hb); have n2 := Aside0.mk (below_step HB.out hb); clear KB HB hb; have KB := n1; have HB := n2; clear n1 n2))
  go_ret
  exact ⟨rfl, HB.out⟩
end Go.Proofs.Ytegknmpphbkgpaa.LIsMonotone
