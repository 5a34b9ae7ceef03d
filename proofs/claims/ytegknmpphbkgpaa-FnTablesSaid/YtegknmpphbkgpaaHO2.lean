/- What the program's IsMonotone answers. Nine numbers. -/
import Derived.Test.YtegknmpphbkgpaaProg
import Derived.Below
import Derived.WalkSpells
import Derived.Deep.Draws
import Derived.Deep.AppendLies
import Derived.Maps.AppendAt
import Derived.OwnWalk
import Derived.Laws.BytesArg
import Derived.Laws.MakeOwn
import Derived.Laws.OwnMore
import Derived.Deep.OwnRows
import Derived.Tactics
import Derived.Lib.ConvBytes
import Derived.Laws.Slices
import Derived.WalkKit
import Derived.KernelRfl
import Derived.RowKit3
import Derived.Deep.LoopGhost
import Derived.Deep.QuietTactic
import Derived.BigQuiet
import Derived.WideLaws
import Derived.Deep.DeepCutAuto
import Derived.Deep.CutBlock
import Derived.Deep.RegionHeld3
import Derived.Laws.Rows
import Derived.Lib.AppendStr
import Derived.ArgAppend
import Derived.Laws.IdiomCopy
import Derived.OrdersHeld
import Derived.Laws.BitsLemmas
import Derived.RowKit
import Derived.Test.YtegknmpphbkgpaaWWords
import Derived.Test.YtegknmpphbkgpaaWLast
import Derived.Test.YtegknmpphbkgpaaWTab
import Derived.Test.YtegknmpphbkgpaaWFour
import Derived.Test.YtegknmpphbkgpaaWQPut
import Derived.Test.YtegknmpphbkgpaaWApart
import Derived.Test.YtegknmpphbkgpaaWArr
import Derived.Test.YtegknmpphbkgpaaWZeros
import Derived.Test.YtegknmpphbkgpaaWFoot
import Derived.Test.YtegknmpphbkgpaaWKept
import Derived.Test.YtegknmpphbkgpaaWShare
import Derived.Test.YtegknmpphbkgpaaWN
import Derived.Test.YtegknmpphbkgpaaWFootNe
import Derived.Test.YtegknmpphbkgpaaWAt
import Derived.Test.YtegknmpphbkgpaaWEqStruct
import Derived.Test.YtegknmpphbkgpaaWRepsOne
import Derived.Test.YtegknmpphbkgpaaWInv
import Derived.Test.YtegknmpphbkgpaaWInvWords
import Derived.Test.YtegknmpphbkgpaaWGuard
import Derived.Test.YtegknmpphbkgpaaWNEv
import Derived.Test.YtegknmpphbkgpaaWMore
import Derived.Test.YtegknmpphbkgpaaHO
set_option linter.unusedVariables false
set_option linter.unusedSimpArgs false
namespace Go.Proofs.Ytegknmpphbkgpaa.HO2
open Go.RowKit Go.Proofs.YtegknmpphbkgpaaW.PrintWords Go.Proofs.YtegknmpphbkgpaaW.PrintLast Go.Proofs.YtegknmpphbkgpaaW.PrintMore Go.Proofs.Ytegknmpphbkgpaa.HA Go.Proofs.Ytegknmpphbkgpaa.HC Go.Proofs.Ytegknmpphbkgpaa.HL Go.Proofs.Ytegknmpphbkgpaa.HK Go.Proofs.Ytegknmpphbkgpaa.HD Go.Proofs.Ytegknmpphbkgpaa.HO Go.Proofs.Ytegknmpphbkgpaa.PFnExactMapOf
set_option maxHeartbeats 2000000 in
theorem iMono (l : List Int) (hl : l.length = 9) (w : World) :
    Calls Try.prog 27 #[.agg (l.map (Value.int .i64)).toArray] w fun e w' => e = .returned (.bool (monoL l)) ∧ Below w.heap.size w w' := by
  have S0 := Aside0.mk (iIsTable l hl)
  have HL := Aside0.mk hl
  have HIL := Aside0.mk (show (Try.prog.info? 24).map (·.size) = some (l.map (Value.int .i64)).toArray.size by rw [info24]; simp [hl])
  have HMN := Aside0.mk (good_no l)
  have HMY := Aside0.mk (good_yes l)
  have HMZ : Aside0 (l.all isT = false → monoL l = false) := ⟨fun h => by unfold monoL; rw [h]; rfl⟩
  obtain ⟨M, hM⟩ : ∃ M, M = monoL l := ⟨_, rfl⟩
  rw [← hM] at HMN HMY HMZ
  rw [← hM]
  have KB := Aside0.mk (Blk.made w 24 l)
  have HB := Aside0.mk (below_alloc (Below.refl w.heap.size w) (Obj.cells (List.map (Value.int IntKind.i64) l).toArray 24))
  clear hl hM
  by_cases h1 : l.all isT = true
  · have H1 := Aside0.mk h1
    have HMY2 := Aside0.mk (HMY.out h1)
    clear h1 HMY HMZ
    go_enter Try.func27, Try.ntmps27
    go_wp2_with (first | refine wpList_load_row rfl 24 _ rfl w.heap.size rfl 24 (l.map (Value.int .i64)).toArray (0, 0) _ KB.out Try.underlying24 rfl HIL.out ?_ | (go_at_call 17; refine (S0.out _).mono ?_; rintro e w1 ⟨rfl, hb⟩; have n1 := Aside0.mk (KB.out.below hb); have n2 := Aside0.mk (below_step HB.out hb); clear KB HB hb; have KB := n1; have HB := n2; clear n1 n2; rw [H1.out]))
    go_loopw [3, 7] (fun v3 v7 w' => ∃ j : Nat, j ≤ 9 ∧ v7 = .int .i64 j ∧ Aside0 (Blk w' w.heap.size 24 l) ∧ Aside0 (∀ c, c < j → goodAt l c = true) ∧ Aside0 (Below w.heap.size w w')) (fun _ v7 _ => 9 - (intOf v7).toNat)
    case atStart => exact ⟨0, by omega, rfl, KB, ⟨fun c hc => absurd hc (by omega)⟩, HB⟩
    case round =>
      clear KB HB
      obtain ⟨j, hj, rfl, KB, HO, HB⟩ := hrel
      by_cases hlt : j < 9
      · have hx := KB.out.cell
        rw [HL.out] at hx
        rcases (show j = 0 ∨ j = 1 ∨ j = 2 ∨ j = 3 ∨ j = 4 ∨ j = 5 ∨ j = 6 ∨ j = 7 ∨ j = 8 by omega) with rfl | rfl | rfl | rfl | rfl | rfl | rfl | rfl | rfl
        · have x0 := hx 0 (by omega)
          clear hx
          have HK : Aside0 (goodAt l 0 = true) := ⟨by simp [goodAt]⟩
          clear HMN HMY2
          go_wp2
          go_quiet (fail)
          go_wp2
          go_roundw
          case rel =>
            first
              | exact ⟨1, by omega, by go_num, ⟨KB.out.drewN _⟩, ⟨upto _ 0 HO.out HK.out⟩, ⟨pw_below_drewN HB.out _⟩⟩
              | ((repeat apply Exists.intro); exact ⟨⟨1, by omega, by go_num, ⟨KB.out.drewN _⟩, ⟨upto _ 0 HO.out HK.out⟩, ⟨pw_below_drewN HB.out _⟩⟩, rfl⟩)
          case measure => simp [intOf]
        · have x0 := hx 0 (by omega)
          have x1 := hx 1 (by omega)
          clear hx
          by_cases c0 : gt l 1 < gt l 0
          · have HK : Aside0 (M = false) := ⟨HMN.out 1 (by omega) (by simp [goodAt, c0])⟩
            clear HMN HMY2
            go_wp2
            go_quiet (fail)
            go_wp2
            go_ret
            exact ⟨by rw [HK.out]; rfl, pw_below_drewN HB.out _⟩
          · have d0 : decide (gt l 1 < gt l 0) = false := decide_eq_false c0
            have HK : Aside0 (goodAt l 1 = true) := ⟨by simp [goodAt, c0]⟩
            clear HMN HMY2
            go_wp2
            go_quiet (fail)
            go_wp2
            go_roundw
            case rel =>
              first
                | exact ⟨2, by omega, by go_num, ⟨KB.out.drewN _⟩, ⟨upto _ 1 HO.out HK.out⟩, ⟨pw_below_drewN HB.out _⟩⟩
                | ((repeat apply Exists.intro); exact ⟨⟨2, by omega, by go_num, ⟨KB.out.drewN _⟩, ⟨upto _ 1 HO.out HK.out⟩, ⟨pw_below_drewN HB.out _⟩⟩, rfl⟩)
            case measure => simp [intOf]
        · have x1 := hx 1 (by omega)
          have x2 := hx 2 (by omega)
          clear hx
          by_cases c0 : gt l 2 < gt l 1
          · have HK : Aside0 (M = false) := ⟨HMN.out 2 (by omega) (by simp [goodAt, c0])⟩
            clear HMN HMY2
            go_wp2
            go_quiet (fail)
            go_wp2
            go_ret
            exact ⟨by rw [HK.out]; rfl, pw_below_drewN HB.out _⟩
          · have d0 : decide (gt l 2 < gt l 1) = false := decide_eq_false c0
            have HK : Aside0 (goodAt l 2 = true) := ⟨by simp [goodAt, c0]⟩
            clear HMN HMY2
            go_wp2
            go_quiet (fail)
            go_wp2
            go_roundw
            case rel =>
              first
                | exact ⟨3, by omega, by go_num, ⟨KB.out.drewN _⟩, ⟨upto _ 2 HO.out HK.out⟩, ⟨pw_below_drewN HB.out _⟩⟩
                | ((repeat apply Exists.intro); exact ⟨⟨3, by omega, by go_num, ⟨KB.out.drewN _⟩, ⟨upto _ 2 HO.out HK.out⟩, ⟨pw_below_drewN HB.out _⟩⟩, rfl⟩)
            case measure => simp [intOf]
        · have x0 := hx 0 (by omega)
          have x3 := hx 3 (by omega)
          clear hx
          by_cases c0 : gt l 3 < gt l 0
          · have HK : Aside0 (M = false) := ⟨HMN.out 3 (by omega) (by simp [goodAt, c0])⟩
            clear HMN HMY2
            go_wp2
            go_quiet (fail)
            go_wp2
            go_ret
            exact ⟨by rw [HK.out]; rfl, pw_below_drewN HB.out _⟩
          · have d0 : decide (gt l 3 < gt l 0) = false := decide_eq_false c0
            have HK : Aside0 (goodAt l 3 = true) := ⟨by simp [goodAt, c0]⟩
            clear HMN HMY2
            go_wp2
            go_quiet (fail)
            go_wp2
            go_roundw
            case rel =>
              first
                | exact ⟨4, by omega, by go_num, ⟨KB.out.drewN _⟩, ⟨upto _ 3 HO.out HK.out⟩, ⟨pw_below_drewN HB.out _⟩⟩
                | ((repeat apply Exists.intro); exact ⟨⟨4, by omega, by go_num, ⟨KB.out.drewN _⟩, ⟨upto _ 3 HO.out HK.out⟩, ⟨pw_below_drewN HB.out _⟩⟩, rfl⟩)
            case measure => simp [intOf]
        · have x1 := hx 1 (by omega)
          have x3 := hx 3 (by omega)
          have x4 := hx 4 (by omega)
          clear hx
          by_cases c0 : gt l 4 < gt l 1
          · have HK : Aside0 (M = false) := ⟨HMN.out 4 (by omega) (by simp [goodAt, c0])⟩
            clear HMN HMY2
            go_wp2
            go_quiet (fail)
            go_wp2
            go_ret
            exact ⟨by rw [HK.out]; rfl, pw_below_drewN HB.out _⟩
          · have d0 : decide (gt l 4 < gt l 1) = false := decide_eq_false c0
            by_cases c1 : gt l 4 < gt l 3
            · have HK : Aside0 (M = false) := ⟨HMN.out 4 (by omega) (by simp [goodAt, c1, d0])⟩
              clear HMN HMY2
              go_wp2
              go_quiet (fail)
              go_wp2
              go_ret
              exact ⟨by rw [HK.out]; rfl, pw_below_drewN HB.out _⟩
            · have d1 : decide (gt l 4 < gt l 3) = false := decide_eq_false c1
              have HK : Aside0 (goodAt l 4 = true) := ⟨by simp [goodAt, c0, c1]⟩
              clear HMN HMY2
              go_wp2
              go_quiet (fail)
              go_wp2
              go_roundw
              case rel =>
                first
                  | exact ⟨5, by omega, by go_num, ⟨KB.out.drewN _⟩, ⟨upto _ 4 HO.out HK.out⟩, ⟨pw_below_drewN HB.out _⟩⟩
                  | ((repeat apply Exists.intro); exact ⟨⟨5, by omega, by go_num, ⟨KB.out.drewN _⟩, ⟨upto _ 4 HO.out HK.out⟩, ⟨pw_below_drewN HB.out _⟩⟩, rfl⟩)
              case measure => simp [intOf]
        · have x2 := hx 2 (by omega)
          have x4 := hx 4 (by omega)
          have x5 := hx 5 (by omega)
          clear hx
          by_cases c0 : gt l 5 < gt l 2
          · have HK : Aside0 (M = false) := ⟨HMN.out 5 (by omega) (by simp [goodAt, c0])⟩
            clear HMN HMY2
            go_wp2
            go_quiet (fail)
            go_wp2
            go_ret
            exact ⟨by rw [HK.out]; rfl, pw_below_drewN HB.out _⟩
          · have d0 : decide (gt l 5 < gt l 2) = false := decide_eq_false c0
            by_cases c1 : gt l 5 < gt l 4
            · have HK : Aside0 (M = false) := ⟨HMN.out 5 (by omega) (by simp [goodAt, c1, d0])⟩
              clear HMN HMY2
              go_wp2
              go_quiet (fail)
              go_wp2
              go_ret
              exact ⟨by rw [HK.out]; rfl, pw_below_drewN HB.out _⟩
            · have d1 : decide (gt l 5 < gt l 4) = false := decide_eq_false c1
              have HK : Aside0 (goodAt l 5 = true) := ⟨by simp [goodAt, c0, c1]⟩
              clear HMN HMY2
              go_wp2
              go_quiet (fail)
              go_wp2
              go_roundw
              case rel =>
                first
                  | exact ⟨6, by omega, by go_num, ⟨KB.out.drewN _⟩, ⟨upto _ 5 HO.out HK.out⟩, ⟨pw_below_drewN HB.out _⟩⟩
                  | ((repeat apply Exists.intro); exact ⟨⟨6, by omega, by go_num, ⟨KB.out.drewN _⟩, ⟨upto _ 5 HO.out HK.out⟩, ⟨pw_below_drewN HB.out _⟩⟩, rfl⟩)
              case measure => simp [intOf]
        · have x3 := hx 3 (by omega)
          have x6 := hx 6 (by omega)
          clear hx
          by_cases c0 : gt l 6 < gt l 3
          · have HK : Aside0 (M = false) := ⟨HMN.out 6 (by omega) (by simp [goodAt, c0])⟩
            clear HMN HMY2
            go_wp2
            go_quiet (fail)
            go_wp2
            go_ret
            exact ⟨by rw [HK.out]; rfl, pw_below_drewN HB.out _⟩
          · have d0 : decide (gt l 6 < gt l 3) = false := decide_eq_false c0
            have HK : Aside0 (goodAt l 6 = true) := ⟨by simp [goodAt, c0]⟩
            clear HMN HMY2
            go_wp2
            go_quiet (fail)
            go_wp2
            go_roundw
            case rel =>
              first
                | exact ⟨7, by omega, by go_num, ⟨KB.out.drewN _⟩, ⟨upto _ 6 HO.out HK.out⟩, ⟨pw_below_drewN HB.out _⟩⟩
                | ((repeat apply Exists.intro); exact ⟨⟨7, by omega, by go_num, ⟨KB.out.drewN _⟩, ⟨upto _ 6 HO.out HK.out⟩, ⟨pw_below_drewN HB.out _⟩⟩, rfl⟩)
            case measure => simp [intOf]
        · have x4 := hx 4 (by omega)
          have x6 := hx 6 (by omega)
          have x7 := hx 7 (by omega)
          clear hx
          by_cases c0 : gt l 7 < gt l 4
          · have HK : Aside0 (M = false) := ⟨HMN.out 7 (by omega) (by simp [goodAt, c0])⟩
            clear HMN HMY2
            go_wp2
            go_quiet (fail)
            go_wp2
            go_ret
            exact ⟨by rw [HK.out]; rfl, pw_below_drewN HB.out _⟩
          · have d0 : decide (gt l 7 < gt l 4) = false := decide_eq_false c0
            by_cases c1 : gt l 7 < gt l 6
            · have HK : Aside0 (M = false) := ⟨HMN.out 7 (by omega) (by simp [goodAt, c1, d0])⟩
              clear HMN HMY2
              go_wp2
              go_quiet (fail)
              go_wp2
              go_ret
              exact ⟨by rw [HK.out]; rfl, pw_below_drewN HB.out _⟩
            · have d1 : decide (gt l 7 < gt l 6) = false := decide_eq_false c1
              have HK : Aside0 (goodAt l 7 = true) := ⟨by simp [goodAt, c0, c1]⟩
              clear HMN HMY2
              go_wp2
              go_quiet (fail)
              go_wp2
              go_roundw
              case rel =>
                first
                  | exact ⟨8, by omega, by go_num, ⟨KB.out.drewN _⟩, ⟨upto _ 7 HO.out HK.out⟩, ⟨pw_below_drewN HB.out _⟩⟩
                  | ((repeat apply Exists.intro); exact ⟨⟨8, by omega, by go_num, ⟨KB.out.drewN _⟩, ⟨upto _ 7 HO.out HK.out⟩, ⟨pw_below_drewN HB.out _⟩⟩, rfl⟩)
              case measure => simp [intOf]
        · have x5 := hx 5 (by omega)
          have x7 := hx 7 (by omega)
          have x8 := hx 8 (by omega)
          clear hx
          by_cases c0 : gt l 8 < gt l 5
          · have HK : Aside0 (M = false) := ⟨HMN.out 8 (by omega) (by simp [goodAt, c0])⟩
            clear HMN HMY2
            go_wp2
            go_quiet (fail)
            go_wp2
            go_ret
            exact ⟨by rw [HK.out]; rfl, pw_below_drewN HB.out _⟩
          · have d0 : decide (gt l 8 < gt l 5) = false := decide_eq_false c0
            by_cases c1 : gt l 8 < gt l 7
            · have HK : Aside0 (M = false) := ⟨HMN.out 8 (by omega) (by simp [goodAt, c1, d0])⟩
              clear HMN HMY2
              go_wp2
              go_quiet (fail)
              go_wp2
              go_ret
              exact ⟨by rw [HK.out]; rfl, pw_below_drewN HB.out _⟩
            · have d1 : decide (gt l 8 < gt l 7) = false := decide_eq_false c1
              have HK : Aside0 (goodAt l 8 = true) := ⟨by simp [goodAt, c0, c1]⟩
              clear HMN HMY2
              go_wp2
              go_quiet (fail)
              go_wp2
              go_roundw
              case rel =>
                first
                  | exact ⟨9, by omega, by go_num, ⟨KB.out.drewN _⟩, ⟨upto _ 8 HO.out HK.out⟩, ⟨pw_below_drewN HB.out _⟩⟩
                  | ((repeat apply Exists.intro); exact ⟨⟨9, by omega, by go_num, ⟨KB.out.drewN _⟩, ⟨upto _ 8 HO.out HK.out⟩, ⟨pw_below_drewN HB.out _⟩⟩, rfl⟩)
              case measure => simp [intOf]
      · have hjn : j = 9 := by omega
        subst hjn
        have HK := Aside0.mk (HMY2.out HO.out)
        clear HMN HMY2 HO
        go_wp2
        go_ret
        exact ⟨by rw [HK.out]; rfl, HB.out⟩
  · have h1' : l.all isT = false := by simpa using h1
    have H1 := Aside0.mk h1'
    have HK := Aside0.mk (HMZ.out h1')
    clear h1 h1' HMY HMZ HMN
    go_enter Try.func27, Try.ntmps27
    go_wp2_with (first | refine wpList_load_row rfl 24 _ rfl w.heap.size rfl 24 (l.map (Value.int .i64)).toArray (0, 0) _ KB.out Try.underlying24 rfl HIL.out ?_ | (go_at_call 17; refine (S0.out _).mono ?_; rintro e w1 ⟨rfl, hb⟩; have n1 := Aside0.mk (KB.out.below hb); have n2 := Aside0.mk (below_step HB.out hb); clear KB HB hb; have KB := n1; have HB := n2; clear n1 n2; rw [H1.out]))
    go_ret
    exact ⟨by rw [HK.out]; rfl, HB.out⟩
end Go.Proofs.Ytegknmpphbkgpaa.HO2
