/- What the two-trit functions of TableOf answer. -/
import Derived.Test.YtegknmpphbkgpaaProg
import Derived.Below
import Derived.WalkSpells
import Derived.Deep.Draws
import Derived.Deep.AppendLies
import Derived.Maps.AppendAt
import Derived.OwnWalk
import Derived.Laws.BytesArg
import Derived.Laws.MakeOwn
import Derived.Laws.OwnMore
import Derived.Deep.OwnRows
import Derived.Tactics
import Derived.Lib.ConvBytes
import Derived.Laws.Slices
import Derived.WalkKit
import Derived.KernelRfl
import Derived.RowKit3
import Derived.Deep.LoopGhost
import Derived.Deep.QuietTactic
import Derived.BigQuiet
import Derived.WideLaws
import Derived.Deep.DeepCutAuto
import Derived.Deep.CutBlock
import Derived.Deep.RegionHeld3
import Derived.Laws.Rows
import Derived.Lib.AppendStr
import Derived.ArgAppend
import Derived.Laws.IdiomCopy
import Derived.OrdersHeld
import Derived.Laws.BitsLemmas
import Derived.RowKit
import Derived.Test.YtegknmpphbkgpaaWWords
import Derived.Test.YtegknmpphbkgpaaWLast
import Derived.Test.YtegknmpphbkgpaaWTab
import Derived.Test.YtegknmpphbkgpaaWFour
import Derived.Test.YtegknmpphbkgpaaWQPut
import Derived.Test.YtegknmpphbkgpaaWApart
import Derived.Test.YtegknmpphbkgpaaWArr
import Derived.Test.YtegknmpphbkgpaaWZeros
import Derived.Test.YtegknmpphbkgpaaWFoot
import Derived.Test.YtegknmpphbkgpaaWKept
import Derived.Test.YtegknmpphbkgpaaWShare
import Derived.Test.YtegknmpphbkgpaaWN
import Derived.Test.YtegknmpphbkgpaaWFootNe
import Derived.Test.YtegknmpphbkgpaaWAt
import Derived.Test.YtegknmpphbkgpaaWEqStruct
import Derived.Test.YtegknmpphbkgpaaWRepsOne
import Derived.Test.YtegknmpphbkgpaaWInv
import Derived.Test.YtegknmpphbkgpaaWInvWords
import Derived.Test.YtegknmpphbkgpaaWGuard
import Derived.Test.YtegknmpphbkgpaaWNEv
import Derived.Test.YtegknmpphbkgpaaWMore
import Derived.Test.YtegknmpphbkgpaaHD
import Derived.Test.YtegknmpphbkgpaaHM
import Derived.Test.YtegknmpphbkgpaaPFnExactTableOfx2
set_option linter.unusedVariables false
set_option linter.unusedSimpArgs false
namespace Go.Proofs.Ytegknmpphbkgpaa.HW
open Go.RowKit Go.Proofs.YtegknmpphbkgpaaW.PrintWords Go.Proofs.YtegknmpphbkgpaaW.PrintLast Go.Proofs.YtegknmpphbkgpaaW.PrintMore Go.Proofs.Ytegknmpphbkgpaa.HA Go.Proofs.Ytegknmpphbkgpaa.HL Go.Proofs.Ytegknmpphbkgpaa.HM Go.Proofs.Ytegknmpphbkgpaa.HK Go.Proofs.Ytegknmpphbkgpaa.HD Go.Proofs.Ytegknmpphbkgpaa.PFnExactTableOf
/-- HalfAdd of the program, at two trits. -/
theorem iHalf (a b : Int) (ha : -1 ≤ a ∧ a ≤ 1) (hb : -1 ≤ b ∧ b ≤ 1) (w : World) :
    Calls Try.prog 65 #[.int .i64 a, .int .i64 b] w fun e w' => e = .returned (.tuple #[.int .i64 (crd (a + b)).1, .int .i64 (crd (a + b)).2]) ∧ Below w.heap.size w w' := by
  have H2 := Aside0.mk (show (isT a && isT b) = true by rw [isT_iff.mpr ha, isT_iff.mpr hb]; rfl)
  obtain ⟨ha1, ha2⟩ := ha
  obtain ⟨hb1, hb2⟩ := hb
  have S5 : Aside0 (∀ w : World, Calls Try.prog 75 #[.int .i64 (a + b)] w fun e w' => e = .returned (.tuple #[.int .i64 (crd (a + b)).1, .int .i64 (crd (a + b)).2]) ∧ Drawn0 w w') := ⟨fun w => PFnExactMapOf.impl_carried.calls (a + b) _ _ w (HM.impl_carried_t (a + b) (by omega))⟩
  have HB := Aside0.mk (below_alloc (Below.refl w.heap.size w) (.cells #[.int .i64 a, .int .i64 b] 3))
  go_enter Try.func65, Try.ntmps65
  go_wp2_with (first | (go_at_call 47; refine (iPair _ _ _).mono ?_; rintro e w2 ⟨rfl, ⟨m2, rfl⟩⟩; rw [H2.out]) | (go_at_call 75; refine (S5.out _).mono ?_; rintro e w3 ⟨rfl, ⟨m3, rfl⟩⟩))
  go_ret2
  exact ⟨rfl, by repeat (first | (with_reducible first | exact HB.out | apply below_alloc | apply pw_below_drewN | apply below_drew1) | exact HB.out)⟩
/-- What a named table has for two numbers. -/
def valF (s : ByteArray) (a b : Int) : Int := ((spec_l1Value.f 9 s a b).getD (0, false)).1
theorem val_some (s : ByteArray) (a b : Int) (ha : -1 ≤ a ∧ a ≤ 1) (hb : -1 ≤ b ∧ b ≤ 1) : ∃ B, spec_l1Value.f 9 s a b = some (valF s a b, B) := by
  have h : ∃ r, spec_l1Value.f 9 s a b = some r := by
    have e : ∃ p, spec_HalfAdd.f 9 a b = some p := by
      rcases (show a = -1 ∨ a = 0 ∨ a = 1 by omega) with rfl | rfl | rfl <;> rcases (show b = -1 ∨ b = 0 ∨ b = 1 by omega) with rfl | rfl | rfl <;> exact Option.isSome_iff_exists.mp (by decide +kernel)
    have e1 : ∃ p, spec_AgreeTrits.f a b = some p := by
      rcases (show a = -1 ∨ a = 0 ∨ a = 1 by omega) with rfl | rfl | rfl <;> rcases (show b = -1 ∨ b = 0 ∨ b = 1 by omega) with rfl | rfl | rfl <;> exact Option.isSome_iff_exists.mp (by decide +kernel)
    have e2 : ∃ p, spec_AnyTrits.f a b = some p := by
      rcases (show a = -1 ∨ a = 0 ∨ a = 1 by omega) with rfl | rfl | rfl <;> rcases (show b = -1 ∨ b = 0 ∨ b = 1 by omega) with rfl | rfl | rfl <;> exact Option.isSome_iff_exists.mp (by decide +kernel)
    obtain ⟨p, e⟩ := e
    obtain ⟨p1, e1⟩ := e1
    obtain ⟨p2, e2⟩ := e2
    unfold spec_l1Value.f
    rw [e, e1, e2]
    simp only [Option.bind_some]
    repeat' split
    all_goals exact ⟨_, rfl⟩
  obtain ⟨r, h⟩ := h
  refine ⟨r.2, ?_⟩
  unfold valF
  rw [h]
  rfl
theorem sValue (s : ByteArray) (a b : Int) (ha : -1 ≤ a ∧ a ≤ 1) (hb : -1 ≤ b ∧ b ≤ 1) (w : World) :
    Calls Try.prog 58 #[.string s, .int .i64 a, .int .i64 b] w fun e w' => (∃ B : Bool, e = .returned (.tuple #[.int .i64 (valF s a b), .bool B])) ∧ Below w.heap.size w w' := by
  obtain ⟨B, h⟩ := val_some s a b ha hb
  refine (spec_l1Value.calls 9 s a b _ _ w h).mono ?_
  rintro e w' ⟨rfl, hb⟩
  exact ⟨⟨B, rfl⟩, hb⟩
end Go.Proofs.Ytegknmpphbkgpaa.HW
