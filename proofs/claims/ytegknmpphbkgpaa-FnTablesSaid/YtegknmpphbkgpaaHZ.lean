/- The two-trit functions under the names of the tables. -/
import Derived.Test.YtegknmpphbkgpaaProg
import Derived.Below
import Derived.WalkSpells
import Derived.Deep.Draws
import Derived.Deep.AppendLies
import Derived.Maps.AppendAt
import Derived.OwnWalk
import Derived.Laws.BytesArg
import Derived.Laws.MakeOwn
import Derived.Laws.OwnMore
import Derived.Deep.OwnRows
import Derived.Tactics
import Derived.Lib.ConvBytes
import Derived.Laws.Slices
import Derived.WalkKit
import Derived.KernelRfl
import Derived.RowKit3
import Derived.Deep.LoopGhost
import Derived.Deep.QuietTactic
import Derived.BigQuiet
import Derived.WideLaws
import Derived.Deep.DeepCutAuto
import Derived.Deep.CutBlock
import Derived.Deep.RegionHeld3
import Derived.Laws.Rows
import Derived.Lib.AppendStr
import Derived.ArgAppend
import Derived.Laws.IdiomCopy
import Derived.OrdersHeld
import Derived.Laws.BitsLemmas
import Derived.RowKit
import Derived.Test.YtegknmpphbkgpaaWWords
import Derived.Test.YtegknmpphbkgpaaWLast
import Derived.Test.YtegknmpphbkgpaaWTab
import Derived.Test.YtegknmpphbkgpaaWFour
import Derived.Test.YtegknmpphbkgpaaWQPut
import Derived.Test.YtegknmpphbkgpaaWApart
import Derived.Test.YtegknmpphbkgpaaWArr
import Derived.Test.YtegknmpphbkgpaaWZeros
import Derived.Test.YtegknmpphbkgpaaWFoot
import Derived.Test.YtegknmpphbkgpaaWKept
import Derived.Test.YtegknmpphbkgpaaWShare
import Derived.Test.YtegknmpphbkgpaaWN
import Derived.Test.YtegknmpphbkgpaaWFootNe
import Derived.Test.YtegknmpphbkgpaaWAt
import Derived.Test.YtegknmpphbkgpaaWEqStruct
import Derived.Test.YtegknmpphbkgpaaWRepsOne
import Derived.Test.YtegknmpphbkgpaaWInv
import Derived.Test.YtegknmpphbkgpaaWInvWords
import Derived.Test.YtegknmpphbkgpaaWGuard
import Derived.Test.YtegknmpphbkgpaaWNEv
import Derived.Test.YtegknmpphbkgpaaWMore
import Derived.Test.YtegknmpphbkgpaaHW
set_option linter.unusedVariables false
set_option linter.unusedSimpArgs false
namespace Go.Proofs.Ytegknmpphbkgpaa.HZ
open Go.RowKit Go.Proofs.YtegknmpphbkgpaaW.PrintWords Go.Proofs.YtegknmpphbkgpaaW.PrintLast Go.Proofs.YtegknmpphbkgpaaW.PrintMore Go.Proofs.Ytegknmpphbkgpaa.HA Go.Proofs.Ytegknmpphbkgpaa.HL Go.Proofs.Ytegknmpphbkgpaa.HM Go.Proofs.Ytegknmpphbkgpaa.HK Go.Proofs.Ytegknmpphbkgpaa.HD Go.Proofs.Ytegknmpphbkgpaa.HW Go.Proofs.Ytegknmpphbkgpaa.PFnExactTableOf
theorem half_some (a b : Int) (ha : -1 ≤ a ∧ a ≤ 1) (hb : -1 ≤ b ∧ b ≤ 1) : spec_HalfAdd.f 9 a b = some (crd (a + b)) := by
  rcases (show a = -1 ∨ a = 0 ∨ a = 1 by omega) with rfl | rfl | rfl <;> rcases (show b = -1 ∨ b = 0 ∨ b = 1 by omega) with rfl | rfl | rfl <;> decide +kernel
theorem two59 (s : ByteArray) (hs : s.toList = ([109, 105, 110] : List UInt8)) (a b : Int) (ha : -1 ≤ a ∧ a ≤ 1) (hb : -1 ≤ b ∧ b ≤ 1) (w : World) : Calls Try.prog 59 #[.int .i64 a, .int .i64 b] w fun e w' => e = .returned (.int .i64 (valF s a b)) ∧ Below w.heap.size w w' := by
  refine impl_MinTrits.calls 9 a b _ w ?_
  have h1 : valF s a b = mn a b := by
    unfold valF spec_l1Value.f
    rw [half_some a b ha hb, hs]
    rfl
  rw [h1]
  rcases (show a = -1 ∨ a = 0 ∨ a = 1 by omega) with rfl | rfl | rfl <;> rcases (show b = -1 ∨ b = 0 ∨ b = 1 by omega) with rfl | rfl | rfl <;> decide +kernel
theorem two60 (s : ByteArray) (hs : s.toList = ([109, 97, 120] : List UInt8)) (a b : Int) (ha : -1 ≤ a ∧ a ≤ 1) (hb : -1 ≤ b ∧ b ≤ 1) (w : World) : Calls Try.prog 60 #[.int .i64 a, .int .i64 b] w fun e w' => e = .returned (.int .i64 (valF s a b)) ∧ Below w.heap.size w w' := by
  refine impl_MaxTrits.calls 9 a b _ w ?_
  have h1 : valF s a b = mx a b := by
    unfold valF spec_l1Value.f
    rw [half_some a b ha hb, hs]
    rfl
  rw [h1]
  rcases (show a = -1 ∨ a = 0 ∨ a = 1 by omega) with rfl | rfl | rfl <;> rcases (show b = -1 ∨ b = 0 ∨ b = 1 by omega) with rfl | rfl | rfl <;> decide +kernel
theorem two61 (s : ByteArray) (hs : s.toList = ([97, 103, 114, 101, 101] : List UInt8)) (a b : Int) (ha : -1 ≤ a ∧ a ≤ 1) (hb : -1 ≤ b ∧ b ≤ 1) (w : World) : Calls Try.prog 61 #[.int .i64 a, .int .i64 b] w fun e w' => e = .returned (.int .i64 (valF s a b)) ∧ Below w.heap.size w w' := by
  refine impl_AgreeTrits.calls 9 a b _ w ?_
  unfold valF spec_l1Value.f
  rw [half_some a b ha hb, hs]
  rcases (show a = -1 ∨ a = 0 ∨ a = 1 by omega) with rfl | rfl | rfl <;> rcases (show b = -1 ∨ b = 0 ∨ b = 1 by omega) with rfl | rfl | rfl <;> decide +kernel
theorem two62 (s : ByteArray) (hs : s.toList = ([97, 110, 121] : List UInt8)) (a b : Int) (ha : -1 ≤ a ∧ a ≤ 1) (hb : -1 ≤ b ∧ b ≤ 1) (w : World) : Calls Try.prog 62 #[.int .i64 a, .int .i64 b] w fun e w' => e = .returned (.int .i64 (valF s a b)) ∧ Below w.heap.size w w' := by
  refine impl_AnyTrits.calls 9 a b _ w ?_
  unfold valF spec_l1Value.f
  rw [half_some a b ha hb, hs]
  rcases (show a = -1 ∨ a = 0 ∨ a = 1 by omega) with rfl | rfl | rfl <;> rcases (show b = -1 ∨ b = 0 ∨ b = 1 by omega) with rfl | rfl | rfl <;> decide +kernel
theorem two63 (s : ByteArray) (hs : s.toList = ([116, 105, 109, 101, 115] : List UInt8)) (a b : Int) (ha : -1 ≤ a ∧ a ≤ 1) (hb : -1 ≤ b ∧ b ≤ 1) (w : World) : Calls Try.prog 63 #[.int .i64 a, .int .i64 b] w fun e w' => e = .returned (.int .i64 (valF s a b)) ∧ Below w.heap.size w w' := by
  refine impl_TimesTrits.calls 9 a b _ w ?_
  unfold valF spec_l1Value.f
  rw [half_some a b ha hb, hs]
  rcases (show a = -1 ∨ a = 0 ∨ a = 1 by omega) with rfl | rfl | rfl <;> rcases (show b = -1 ∨ b = 0 ∨ b = 1 by omega) with rfl | rfl | rfl <;> decide +kernel
theorem two64 (s : ByteArray) (hs : s.toList = ([115, 117, 109] : List UInt8)) (a b : Int) (ha : -1 ≤ a ∧ a ≤ 1) (hb : -1 ≤ b ∧ b ≤ 1) (w : World) : Calls Try.prog 64 #[.int .i64 a, .int .i64 b] w fun e w' => e = .returned (.int .i64 (valF s a b)) ∧ Below w.heap.size w w' := by
  have h1 : valF s a b = (crd (a + b)).1 := by
    unfold valF spec_l1Value.f
    rw [half_some a b ha hb, hs]
    rfl
  rw [h1]
  have S1 := Aside0.mk (iHalf a b ha hb)
  clear h1
  go_enter Try.func64, Try.ntmps64
  go_wp2_with (go_at_call 65; refine (S1.out _).mono ?_; rintro e w3 ⟨rfl, hb⟩; have HB := Aside0.mk hb; clear hb)
  go_ret
  exact ⟨rfl, HB.out⟩
theorem two66 (s : ByteArray) (hs : s.toList = ([99, 97, 114, 114, 121] : List UInt8)) (a b : Int) (ha : -1 ≤ a ∧ a ≤ 1) (hb : -1 ≤ b ∧ b ≤ 1) (w : World) : Calls Try.prog 66 #[.int .i64 a, .int .i64 b] w fun e w' => e = .returned (.int .i64 (valF s a b)) ∧ Below w.heap.size w w' := by
  have h1 : valF s a b = (crd (a + b)).2 := by
    unfold valF spec_l1Value.f
    rw [half_some a b ha hb, hs]
    rfl
  rw [h1]
  have S1 := Aside0.mk (iHalf a b ha hb)
  clear h1
  go_enter Try.func66, Try.ntmps66
  go_wp2_with (go_at_call 65; refine (S1.out _).mono ?_; rintro e w3 ⟨rfl, hb⟩; have HB := Aside0.mk hb; clear hb)
  go_ret
  exact ⟨rfl, HB.out⟩
end Go.Proofs.Ytegknmpphbkgpaa.HZ
