/- A region that draws its order, walked once, over a class of worlds. -/
import Derived.Test.YtegknmpphbkgpaaProg
import Derived.Below
import Derived.WalkSpells
import Derived.Deep.Draws
import Derived.Deep.AppendLies
import Derived.Maps.AppendAt
import Derived.OwnWalk
import Derived.Laws.BytesArg
import Derived.Laws.MakeOwn
import Derived.Laws.OwnMore
import Derived.Deep.OwnRows
import Derived.Tactics
import Derived.Lib.ConvBytes
import Derived.Laws.Slices
import Derived.WalkKit
import Derived.KernelRfl
import Derived.RowKit3
import Derived.Deep.LoopGhost
import Derived.Deep.QuietTactic
import Derived.BigQuiet
import Derived.WideLaws
import Derived.Deep.DeepCutAuto
import Derived.Deep.CutBlock
import Derived.Deep.RegionHeld3
import Derived.Laws.Rows
import Derived.Lib.AppendStr
import Derived.ArgAppend
import Derived.Laws.IdiomCopy
import Derived.OrdersHeld
import Derived.Laws.BitsLemmas
import Derived.RowKit
import Derived.Test.YtegknmpphbkgpaaWWords
import Derived.Test.YtegknmpphbkgpaaWLast
import Derived.Test.YtegknmpphbkgpaaWTab
import Derived.Test.YtegknmpphbkgpaaWFour
import Derived.Test.YtegknmpphbkgpaaWQPut
import Derived.Test.YtegknmpphbkgpaaWApart
import Derived.Test.YtegknmpphbkgpaaWArr
import Derived.Test.YtegknmpphbkgpaaWZeros
import Derived.Test.YtegknmpphbkgpaaWFoot
import Derived.Test.YtegknmpphbkgpaaWKept
import Derived.Test.YtegknmpphbkgpaaWShare
import Derived.Test.YtegknmpphbkgpaaWN
import Derived.Test.YtegknmpphbkgpaaWFootNe
import Derived.Test.YtegknmpphbkgpaaWAt
import Derived.Test.YtegknmpphbkgpaaWEqStruct
import Derived.Test.YtegknmpphbkgpaaWRepsOne
import Derived.Test.YtegknmpphbkgpaaWInv
import Derived.Test.YtegknmpphbkgpaaWInvWords
import Derived.Test.YtegknmpphbkgpaaWGuard
import Derived.Test.YtegknmpphbkgpaaWNEv
import Derived.Test.YtegknmpphbkgpaaWMore
import Derived.Test.YtegknmpphbkgpaaHA
set_option linter.unusedVariables false
set_option linter.unusedSimpArgs false
namespace Go.Proofs.Ytegknmpphbkgpaa.HC
open Go.RowKit Go.Proofs.YtegknmpphbkgpaaW.PrintWords Go.Proofs.YtegknmpphbkgpaaW.PrintLast Go.Proofs.YtegknmpphbkgpaaW.PrintMore Go.Proofs.Ytegknmpphbkgpaa.HA
open Go.BigFrame
section
variable {P : Program} {ops : Array Oper} {C : World → Prop} {a : Act} {o : Oper}
/-- A class of worlds that is not empty, as a family. -/
theorem classOf (C : World → Prop) (w0 : World) (h : C w0) : ∃ (ι : Type) (_ : Nonempty ι) (F : ι → World), (∀ i, C (F i)) ∧ ∀ w', C w' → ∃ i, w' = F i :=
  ⟨{w : World // C w}, ⟨⟨w0, h⟩⟩, Subtype.val, fun i => i.2, fun w' h => ⟨⟨w', h⟩, rfl⟩⟩
/-- A region that draws its order, walked once, over a family of worlds. -/
theorem wp_region_class {ι : Type} (F : ι → World) {id : Nat} {Q : Exit → Act → World → Prop} {a : Act} {w : World} {l : List Oper} (hm : P.follows .mixedOrders = true) (hB : Region.lexB .any l.toArray = true) (h0 : ∃ i, w.drew = F i)
    (h : wpQuiet P l.toArray (fun w' => ∃ i, w' = F i) (fun a' => ∀ w', (∃ i, w' = F i) → Q .normal a' w') l a) : (Code.region id l.toArray true).wp P Q a w :=
  wp_region_quiet (C := fun w' => ∃ i, w' = F i) hm hB h0 (by simpa using h)
/-- A whole row is read, in a region that is walked over a family of worlds. -/
theorem quiet_load_row {ι : Type} {F : ι → World} {K : Act → Prop} (ty : TypeId) (x : Operand) (ho : o.op = .load ty x)
    (g : Nat) (hx : a.eval x = .pointer (some ⟨g, 0, none⟩)) (t : TypeId) (l : List Int) (d : TypeDesc) (hg : ∀ i, Blk (F i) g t l)
    (hu : P.underlying ty = some d) (hd : (match d with | .struct _ | .array _ _ => true | _ => false) = true) (hi : (P.info? ty).map (·.size) = some (l.map (Value.int .i64)).toArray.size)
    (h : K (a.put o.dst (.agg (l.map (Value.int .i64)).toArray))) : o.quiet P a (fun w' => ∃ i, w' = F i) K := by
  refine ⟨_, fun w hw => ?_, h⟩
  obtain ⟨i, rfl⟩ := hw
  unfold Oper.quietAt execOp
  simp only [ho, hx, Instr.loadAt, Instr.sureAddr, Sem.run_bind, Sem.run_pure, Result.andThen_ok, run_loadVar_row (F i) g t ty _ (0, 0) d (hg i) hu hd hi]
  exact ⟨rfl, rfl⟩
end
end Go.Proofs.Ytegknmpphbkgpaa.HC
