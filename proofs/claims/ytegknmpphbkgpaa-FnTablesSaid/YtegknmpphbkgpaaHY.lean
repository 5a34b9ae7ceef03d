/- The table of a function value without captured variables. -/
import Derived.Test.YtegknmpphbkgpaaProg
import Derived.Below
import Derived.WalkSpells
import Derived.Deep.Draws
import Derived.Deep.AppendLies
import Derived.Maps.AppendAt
import Derived.OwnWalk
import Derived.Laws.BytesArg
import Derived.Laws.MakeOwn
import Derived.Laws.OwnMore
import Derived.Deep.OwnRows
import Derived.Tactics
import Derived.Lib.ConvBytes
import Derived.Laws.Slices
import Derived.WalkKit
import Derived.KernelRfl
import Derived.RowKit3
import Derived.Deep.LoopGhost
import Derived.Deep.QuietTactic
import Derived.BigQuiet
import Derived.WideLaws
import Derived.Deep.DeepCutAuto
import Derived.Deep.CutBlock
import Derived.Deep.RegionHeld3
import Derived.Laws.Rows
import Derived.Lib.AppendStr
import Derived.ArgAppend
import Derived.Laws.IdiomCopy
import Derived.OrdersHeld
import Derived.Laws.BitsLemmas
import Derived.RowKit
import Derived.Test.YtegknmpphbkgpaaWWords
import Derived.Test.YtegknmpphbkgpaaWLast
import Derived.Test.YtegknmpphbkgpaaWTab
import Derived.Test.YtegknmpphbkgpaaWFour
import Derived.Test.YtegknmpphbkgpaaWQPut
import Derived.Test.YtegknmpphbkgpaaWApart
import Derived.Test.YtegknmpphbkgpaaWArr
import Derived.Test.YtegknmpphbkgpaaWZeros
import Derived.Test.YtegknmpphbkgpaaWFoot
import Derived.Test.YtegknmpphbkgpaaWKept
import Derived.Test.YtegknmpphbkgpaaWShare
import Derived.Test.YtegknmpphbkgpaaWN
import Derived.Test.YtegknmpphbkgpaaWFootNe
import Derived.Test.YtegknmpphbkgpaaWAt
import Derived.Test.YtegknmpphbkgpaaWEqStruct
import Derived.Test.YtegknmpphbkgpaaWRepsOne
import Derived.Test.YtegknmpphbkgpaaWInv
import Derived.Test.YtegknmpphbkgpaaWInvWords
import Derived.Test.YtegknmpphbkgpaaWGuard
import Derived.Test.YtegknmpphbkgpaaWNEv
import Derived.Test.YtegknmpphbkgpaaWMore
import Derived.Test.YtegknmpphbkgpaaHW
set_option linter.unusedVariables false
set_option linter.unusedSimpArgs false
namespace Go.Proofs.Ytegknmpphbkgpaa.HY
open Go.RowKit Go.Proofs.YtegknmpphbkgpaaW.PrintWords Go.Proofs.YtegknmpphbkgpaaW.PrintLast Go.Proofs.YtegknmpphbkgpaaW.PrintMore Go.Proofs.Ytegknmpphbkgpaa.HA Go.Proofs.Ytegknmpphbkgpaa.HL Go.Proofs.Ytegknmpphbkgpaa.HM Go.Proofs.Ytegknmpphbkgpaa.HK Go.Proofs.Ytegknmpphbkgpaa.HD Go.Proofs.Ytegknmpphbkgpaa.HW Go.Proofs.Ytegknmpphbkgpaa.PFnExactTableOf
set_option maxHeartbeats 2000000 in
theorem tab59 (F : Int → Int → Int) (hF : ∀ (a b : Int), -1 ≤ a ∧ a ≤ 1 → -1 ≤ b ∧ b ≤ 1 → ∀ w : World, Calls Try.prog 59 #[.int .i64 a, .int .i64 b] w fun e w' => e = .returned (.int .i64 (F a b)) ∧ Below w.heap.size w w') (w : World) :
    Calls Try.prog 55 #[.func (.func 59) #[] #[]] w fun e w' => e = .returned (.agg ((genL F).map (Value.int .i64)).toArray) ∧ Below w.heap.size w w' := by
  have S1 := Aside0.mk hF
  have HT := Aside0.mk (genL_len F)
  have HG2 := Aside0.mk (gt_genL F)
  obtain ⟨T, hT⟩ : ∃ T, T = genL F := ⟨_, rfl⟩
  rw [← hT] at HT HG2
  rw [← hT]
  clear hT hF
  go_enter Try.func55, Try.ntmps55
  go_wp2
  go_loopw [4, 5] (fun v4 v5 w' => ∃ j : Nat, j ≤ 9 ∧ v5 = .int .i64 j ∧ Aside0 (Blk w' w.heap.size 24 (List.replicate 9 0)) ∧ Aside0 (Blk w' (w.heap.size + 1) 24 (T.take j ++ List.replicate (9 - j) 0)) ∧ Aside0 (Below w.heap.size w w')) (fun _ v5 _ => 9 - (intOf v5).toNat)
  case atStart =>
    exact ⟨0, by omega, rfl, ⟨(Blk.made w 24 (List.replicate 9 0)).alloc _⟩, ⟨made1 w 24 _ (List.replicate 9 0)⟩, ⟨by repeat (first | exact Below.refl _ _ | apply below_alloc)⟩⟩
  case round =>
    obtain ⟨j, hj, rfl, H2, H3, HB⟩ := hrel
    by_cases hlt : j < 9
    · rcases (show j = 0 ∨ j = 1 ∨ j = 2 ∨ j = 3 ∨ j = 4 ∨ j = 5 ∨ j = 6 ∨ j = 7 ∨ j = 8 by omega) with rfl | rfl | rfl | rfl | rfl | rfl | rfl | rfl | rfl
      · have hx := H3.out.cell 0 (by simp [HT.out])
        have hf := H3.out.fro 0
        have HV : Aside0 (gt T 0 = F (-1) (-1)) := ⟨HG2.out 0 (by omega)⟩
        go_wp2_with (go_at_call 59; refine (S1.out _ _ (by omega) (by omega) _).mono ?_; rintro e w4 ⟨rfl, hbb⟩; have n2 := Aside0.mk (H2.out.below hbb); have n3 := Aside0.mk (H3.out.below hbb); have n4 := Aside0.mk (below_step HB.out hbb); clear hx hf; have hx := n3.out.cell 0 (by simp [HT.out]); have hf := n3.out.fro 0; clear hbb)
        have R3 := n3.out.set 0 (gt T 0)
        rw [take_put T 9 0 HT.out (by omega), HV.out] at R3
        go_roundw
        case rel =>
          first
            | exact ⟨1, by omega, by go_num, ⟨n2.out.other (by omega)⟩, ⟨R3⟩, ⟨below_set n4.out (by omega)⟩⟩
            | ((repeat apply Exists.intro); exact ⟨⟨1, by omega, by go_num, ⟨n2.out.other (by omega)⟩, ⟨R3⟩, ⟨below_set n4.out (by omega)⟩⟩, rfl⟩)
        case measure => simp [intOf]
      · have hx := H3.out.cell 1 (by simp [HT.out])
        have hf := H3.out.fro 1
        have HV : Aside0 (gt T 1 = F (-1) (0)) := ⟨HG2.out 1 (by omega)⟩
        go_wp2_with (go_at_call 59; refine (S1.out _ _ (by omega) (by omega) _).mono ?_; rintro e w4 ⟨rfl, hbb⟩; have n2 := Aside0.mk (H2.out.below hbb); have n3 := Aside0.mk (H3.out.below hbb); have n4 := Aside0.mk (below_step HB.out hbb); clear hx hf; have hx := n3.out.cell 1 (by simp [HT.out]); have hf := n3.out.fro 1; clear hbb)
        have R3 := n3.out.set 1 (gt T 1)
        rw [take_put T 9 1 HT.out (by omega), HV.out] at R3
        go_roundw
        case rel =>
          first
            | exact ⟨2, by omega, by go_num, ⟨n2.out.other (by omega)⟩, ⟨R3⟩, ⟨below_set n4.out (by omega)⟩⟩
            | ((repeat apply Exists.intro); exact ⟨⟨2, by omega, by go_num, ⟨n2.out.other (by omega)⟩, ⟨R3⟩, ⟨below_set n4.out (by omega)⟩⟩, rfl⟩)
        case measure => simp [intOf]
      · have hx := H3.out.cell 2 (by simp [HT.out])
        have hf := H3.out.fro 2
        have HV : Aside0 (gt T 2 = F (-1) (1)) := ⟨HG2.out 2 (by omega)⟩
        go_wp2_with (go_at_call 59; refine (S1.out _ _ (by omega) (by omega) _).mono ?_; rintro e w4 ⟨rfl, hbb⟩; have n2 := Aside0.mk (H2.out.below hbb); have n3 := Aside0.mk (H3.out.below hbb); have n4 := Aside0.mk (below_step HB.out hbb); clear hx hf; have hx := n3.out.cell 2 (by simp [HT.out]); have hf := n3.out.fro 2; clear hbb)
        have R3 := n3.out.set 2 (gt T 2)
        rw [take_put T 9 2 HT.out (by omega), HV.out] at R3
        go_roundw
        case rel =>
          first
            | exact ⟨3, by omega, by go_num, ⟨n2.out.other (by omega)⟩, ⟨R3⟩, ⟨below_set n4.out (by omega)⟩⟩
            | ((repeat apply Exists.intro); exact ⟨⟨3, by omega, by go_num, ⟨n2.out.other (by omega)⟩, ⟨R3⟩, ⟨below_set n4.out (by omega)⟩⟩, rfl⟩)
        case measure => simp [intOf]
      · have hx := H3.out.cell 3 (by simp [HT.out])
        have hf := H3.out.fro 3
        have HV : Aside0 (gt T 3 = F (0) (-1)) := ⟨HG2.out 3 (by omega)⟩
        go_wp2_with (go_at_call 59; refine (S1.out _ _ (by omega) (by omega) _).mono ?_; rintro e w4 ⟨rfl, hbb⟩; have n2 := Aside0.mk (H2.out.below hbb); have n3 := Aside0.mk (H3.out.below hbb); have n4 := Aside0.mk (below_step HB.out hbb); clear hx hf; have hx := n3.out.cell 3 (by simp [HT.out]); have hf := n3.out.fro 3; clear hbb)
        have R3 := n3.out.set 3 (gt T 3)
        rw [take_put T 9 3 HT.out (by omega), HV.out] at R3
        go_roundw
        case rel =>
          first
            | exact ⟨4, by omega, by go_num, ⟨n2.out.other (by omega)⟩, ⟨R3⟩, ⟨below_set n4.out (by omega)⟩⟩
            | ((repeat apply Exists.intro); exact ⟨⟨4, by omega, by go_num, ⟨n2.out.other (by omega)⟩, ⟨R3⟩, ⟨below_set n4.out (by omega)⟩⟩, rfl⟩)
        case measure => simp [intOf]
      · have hx := H3.out.cell 4 (by simp [HT.out])
        have hf := H3.out.fro 4
        have HV : Aside0 (gt T 4 = F (0) (0)) := ⟨HG2.out 4 (by omega)⟩
        go_wp2_with (go_at_call 59; refine (S1.out _ _ (by omega) (by omega) _).mono ?_; rintro e w4 ⟨rfl, hbb⟩; have n2 := Aside0.mk (H2.out.below hbb); have n3 := Aside0.mk (H3.out.below hbb); have n4 := Aside0.mk (below_step HB.out hbb); clear hx hf; have hx := n3.out.cell 4 (by simp [HT.out]); have hf := n3.out.fro 4; clear hbb)
        have R3 := n3.out.set 4 (gt T 4)
        rw [take_put T 9 4 HT.out (by omega), HV.out] at R3
        go_roundw
        case rel =>
          first
            | exact ⟨5, by omega, by go_num, ⟨n2.out.other (by omega)⟩, ⟨R3⟩, ⟨below_set n4.out (by omega)⟩⟩
            | ((repeat apply Exists.intro); exact ⟨⟨5, by omega, by go_num, ⟨n2.out.other (by omega)⟩, ⟨R3⟩, ⟨below_set n4.out (by omega)⟩⟩, rfl⟩)
        case measure => simp [intOf]
      · have hx := H3.out.cell 5 (by simp [HT.out])
        have hf := H3.out.fro 5
        have HV : Aside0 (gt T 5 = F (0) (1)) := ⟨HG2.out 5 (by omega)⟩
        go_wp2_with (go_at_call 59; refine (S1.out _ _ (by omega) (by omega) _).mono ?_; rintro e w4 ⟨rfl, hbb⟩; have n2 := Aside0.mk (H2.out.below hbb); have n3 := Aside0.mk (H3.out.below hbb); have n4 := Aside0.mk (below_step HB.out hbb); clear hx hf; have hx := n3.out.cell 5 (by simp [HT.out]); have hf := n3.out.fro 5; clear hbb)
        have R3 := n3.out.set 5 (gt T 5)
        rw [take_put T 9 5 HT.out (by omega), HV.out] at R3
        go_roundw
        case rel =>
          first
            | exact ⟨6, by omega, by go_num, ⟨n2.out.other (by omega)⟩, ⟨R3⟩, ⟨below_set n4.out (by omega)⟩⟩
            | ((repeat apply Exists.intro); exact ⟨⟨6, by omega, by go_num, ⟨n2.out.other (by omega)⟩, ⟨R3⟩, ⟨below_set n4.out (by omega)⟩⟩, rfl⟩)
        case measure => simp [intOf]
      · have hx := H3.out.cell 6 (by simp [HT.out])
        have hf := H3.out.fro 6
        have HV : Aside0 (gt T 6 = F (1) (-1)) := ⟨HG2.out 6 (by omega)⟩
        go_wp2_with (go_at_call 59; refine (S1.out _ _ (by omega) (by omega) _).mono ?_; rintro e w4 ⟨rfl, hbb⟩; have n2 := Aside0.mk (H2.out.below hbb); have n3 := Aside0.mk (H3.out.below hbb); have n4 := Aside0.mk (below_step HB.out hbb); clear hx hf; have hx := n3.out.cell 6 (by simp [HT.out]); have hf := n3.out.fro 6; clear hbb)
        have R3 := n3.out.set 6 (gt T 6)
        rw [take_put T 9 6 HT.out (by omega), HV.out] at R3
        go_roundw
        case rel =>
          first
            | exact ⟨7, by omega, by go_num, ⟨n2.out.other (by omega)⟩, ⟨R3⟩, ⟨below_set n4.out (by omega)⟩⟩
            | ((repeat apply Exists.intro); exact ⟨⟨7, by omega, by go_num, ⟨n2.out.other (by omega)⟩, ⟨R3⟩, ⟨below_set n4.out (by omega)⟩⟩, rfl⟩)
        case measure => simp [intOf]
      · have hx := H3.out.cell 7 (by simp [HT.out])
        have hf := H3.out.fro 7
        have HV : Aside0 (gt T 7 = F (1) (0)) := ⟨HG2.out 7 (by omega)⟩
        go_wp2_with (go_at_call 59; refine (S1.out _ _ (by omega) (by omega) _).mono ?_; rintro e w4 ⟨rfl, hbb⟩; have n2 := Aside0.mk (H2.out.below hbb); have n3 := Aside0.mk (H3.out.below hbb); have n4 := Aside0.mk (below_step HB.out hbb); clear hx hf; have hx := n3.out.cell 7 (by simp [HT.out]); have hf := n3.out.fro 7; clear hbb)
        have R3 := n3.out.set 7 (gt T 7)
        rw [take_put T 9 7 HT.out (by omega), HV.out] at R3
        go_roundw
        case rel =>
          first
            | exact ⟨8, by omega, by go_num, ⟨n2.out.other (by omega)⟩, ⟨R3⟩, ⟨below_set n4.out (by omega)⟩⟩
            | ((repeat apply Exists.intro); exact ⟨⟨8, by omega, by go_num, ⟨n2.out.other (by omega)⟩, ⟨R3⟩, ⟨below_set n4.out (by omega)⟩⟩, rfl⟩)
        case measure => simp [intOf]
      · have hx := H3.out.cell 8 (by simp [HT.out])
        have hf := H3.out.fro 8
        have HV : Aside0 (gt T 8 = F (1) (1)) := ⟨HG2.out 8 (by omega)⟩
        go_wp2_with (go_at_call 59; refine (S1.out _ _ (by omega) (by omega) _).mono ?_; rintro e w4 ⟨rfl, hbb⟩; have n2 := Aside0.mk (H2.out.below hbb); have n3 := Aside0.mk (H3.out.below hbb); have n4 := Aside0.mk (below_step HB.out hbb); clear hx hf; have hx := n3.out.cell 8 (by simp [HT.out]); have hf := n3.out.fro 8; clear hbb)
        have R3 := n3.out.set 8 (gt T 8)
        rw [take_put T 9 8 HT.out (by omega), HV.out] at R3
        go_roundw
        case rel =>
          first
            | exact ⟨9, by omega, by go_num, ⟨n2.out.other (by omega)⟩, ⟨R3⟩, ⟨below_set n4.out (by omega)⟩⟩
            | ((repeat apply Exists.intro); exact ⟨⟨9, by omega, by go_num, ⟨n2.out.other (by omega)⟩, ⟨R3⟩, ⟨below_set n4.out (by omega)⟩⟩, rfl⟩)
        case measure => simp [intOf]
    · have hjn : j = 9 := by omega
      subst hjn
      have h3 := H3.out
      rw [List.take_of_length_le (by rw [HT.out]; exact Nat.le_refl _)] at h3
      simp only [Nat.sub_self, List.replicate_zero, List.append_nil] at h3
      have hsz : (T.map (Value.int .i64)).toArray.size = 9 := by simp [HT.out]
      have hi : (Try.prog.info? 24).map (·.size) = some (T.map (Value.int .i64)).toArray.size := by rw [hsz]; exact info24
      have hall : (T.map (Value.int .i64)).toArray.all (·.oneCell') = true := all_one _
      have HI := Aside0.mk hi
      have HA := Aside0.mk hall
      have HS := Aside0.mk hsz
      have HG := Aside0.mk h3
      clear hi hall hsz h3
      go_wp2_with (first | refine wpList_load_row rfl 24 _ rfl (w.heap.size + 1) rfl 24 (T.map (Value.int .i64)).toArray (0, 0) _ HG.out Try.underlying24 rfl HI.out ?_ | refine wpList_store_row rfl 24 _ _ rfl w.heap.size (T.map (Value.int .i64)).toArray rfl rfl 24 _ H2.out HI.out (by rw [HS.out]; rfl) HA.out ?_)
      have hr := Blk.setRow H2.out T
      exact bodyPost_ret (results_cell_row (ty := 24) rfl _ _ w.heap.size 24 _ (0, 0) _ rfl hr Try.underlying24 rfl HI.out) rfl ⟨rfl, belowRow HB.out (by omega) _⟩

set_option maxHeartbeats 2000000 in
theorem tab60 (F : Int → Int → Int) (hF : ∀ (a b : Int), -1 ≤ a ∧ a ≤ 1 → -1 ≤ b ∧ b ≤ 1 → ∀ w : World, Calls Try.prog 60 #[.int .i64 a, .int .i64 b] w fun e w' => e = .returned (.int .i64 (F a b)) ∧ Below w.heap.size w w') (w : World) :
    Calls Try.prog 55 #[.func (.func 60) #[] #[]] w fun e w' => e = .returned (.agg ((genL F).map (Value.int .i64)).toArray) ∧ Below w.heap.size w w' := by
  have S1 := Aside0.mk hF
  have HT := Aside0.mk (genL_len F)
  have HG2 := Aside0.mk (gt_genL F)
  obtain ⟨T, hT⟩ : ∃ T, T = genL F := ⟨_, rfl⟩
  rw [← hT] at HT HG2
  rw [← hT]
  clear hT hF
  go_enter Try.func55, Try.ntmps55
  go_wp2
  go_loopw [4, 5] (fun v4 v5 w' => ∃ j : Nat, j ≤ 9 ∧ v5 = .int .i64 j ∧ Aside0 (Blk w' w.heap.size 24 (List.replicate 9 0)) ∧ Aside0 (Blk w' (w.heap.size + 1) 24 (T.take j ++ List.replicate (9 - j) 0)) ∧ Aside0 (Below w.heap.size w w')) (fun _ v5 _ => 9 - (intOf v5).toNat)
  case atStart =>
    exact ⟨0, by omega, rfl, ⟨(Blk.made w 24 (List.replicate 9 0)).alloc _⟩, ⟨made1 w 24 _ (List.replicate 9 0)⟩, ⟨by repeat (first | exact Below.refl _ _ | apply below_alloc)⟩⟩
  case round =>
    obtain ⟨j, hj, rfl, H2, H3, HB⟩ := hrel
    by_cases hlt : j < 9
    · rcases (show j = 0 ∨ j = 1 ∨ j = 2 ∨ j = 3 ∨ j = 4 ∨ j = 5 ∨ j = 6 ∨ j = 7 ∨ j = 8 by omega) with rfl | rfl | rfl | rfl | rfl | rfl | rfl | rfl | rfl
      · have hx := H3.out.cell 0 (by simp [HT.out])
        have hf := H3.out.fro 0
        have HV : Aside0 (gt T 0 = F (-1) (-1)) := ⟨HG2.out 0 (by omega)⟩
        go_wp2_with (go_at_call 60; refine (S1.out _ _ (by omega) (by omega) _).mono ?_; rintro e w4 ⟨rfl, hbb⟩; have n2 := Aside0.mk (H2.out.below hbb); have n3 := Aside0.mk (H3.out.below hbb); have n4 := Aside0.mk (below_step HB.out hbb); clear hx hf; have hx := n3.out.cell 0 (by simp [HT.out]); have hf := n3.out.fro 0; clear hbb)
        have R3 := n3.out.set 0 (gt T 0)
        rw [take_put T 9 0 HT.out (by omega), HV.out] at R3
        go_roundw
        case rel =>
          first
            | exact ⟨1, by omega, by go_num, ⟨n2.out.other (by omega)⟩, ⟨R3⟩, ⟨below_set n4.out (by omega)⟩⟩
            | ((repeat apply Exists.intro); exact ⟨⟨1, by omega, by go_num, ⟨n2.out.other (by omega)⟩, ⟨R3⟩, ⟨below_set n4.out (by omega)⟩⟩, rfl⟩)
        case measure => simp [intOf]
      · have hx := H3.out.cell 1 (by simp [HT.out])
        have hf := H3.out.fro 1
        have HV : Aside0 (gt T 1 = F (-1) (0)) := ⟨HG2.out 1 (by omega)⟩
        go_wp2_with (go_at_call 60; refine (S1.out _ _ (by omega) (by omega) _).mono ?_; rintro e w4 ⟨rfl, hbb⟩; have n2 := Aside0.mk (H2.out.below hbb); have n3 := Aside0.mk (H3.out.below hbb); have n4 := Aside0.mk (below_step HB.out hbb); clear hx hf; have hx := n3.out.cell 1 (by simp [HT.out]); have hf := n3.out.fro 1; clear hbb)
        have R3 := n3.out.set 1 (gt T 1)
        rw [take_put T 9 1 HT.out (by omega), HV.out] at R3
        go_roundw
        case rel =>
          first
            | exact ⟨2, by omega, by go_num, ⟨n2.out.other (by omega)⟩, ⟨R3⟩, ⟨below_set n4.out (by omega)⟩⟩
            | ((repeat apply Exists.intro); exact ⟨⟨2, by omega, by go_num, ⟨n2.out.other (by omega)⟩, ⟨R3⟩, ⟨below_set n4.out (by omega)⟩⟩, rfl⟩)
        case measure => simp [intOf]
      · have hx := H3.out.cell 2 (by simp [HT.out])
        have hf := H3.out.fro 2
        have HV : Aside0 (gt T 2 = F (-1) (1)) := ⟨HG2.out 2 (by omega)⟩
        go_wp2_with (go_at_call 60; refine (S1.out _ _ (by omega) (by omega) _).mono ?_; rintro e w4 ⟨rfl, hbb⟩; have n2 := Aside0.mk (H2.out.below hbb); have n3 := Aside0.mk (H3.out.below hbb); have n4 := Aside0.mk (below_step HB.out hbb); clear hx hf; have hx := n3.out.cell 2 (by simp [HT.out]); have hf := n3.out.fro 2; clear hbb)
        have R3 := n3.out.set 2 (gt T 2)
        rw [take_put T 9 2 HT.out (by omega), HV.out] at R3
        go_roundw
        case rel =>
          first
            | exact ⟨3, by omega, by go_num, ⟨n2.out.other (by omega)⟩, ⟨R3⟩, ⟨below_set n4.out (by omega)⟩⟩
            | ((repeat apply Exists.intro); exact ⟨⟨3, by omega, by go_num, ⟨n2.out.other (by omega)⟩, ⟨R3⟩, ⟨below_set n4.out (by omega)⟩⟩, rfl⟩)
        case measure => simp [intOf]
      · have hx := H3.out.cell 3 (by simp [HT.out])
        have hf := H3.out.fro 3
        have HV : Aside0 (gt T 3 = F (0) (-1)) := ⟨HG2.out 3 (by omega)⟩
        go_wp2_with (go_at_call 60; refine (S1.out _ _ (by omega) (by omega) _).mono ?_; rintro e w4 ⟨rfl, hbb⟩; have n2 := Aside0.mk (H2.out.below hbb); have n3 := Aside0.mk (H3.out.below hbb); have n4 := Aside0.mk (below_step HB.out hbb); clear hx hf; have hx := n3.out.cell 3 (by simp [HT.out]); have hf := n3.out.fro 3; clear hbb)
        have R3 := n3.out.set 3 (gt T 3)
        rw [take_put T 9 3 HT.out (by omega), HV.out] at R3
        go_roundw
        case rel =>
          first
            | exact ⟨4, by omega, by go_num, ⟨n2.out.other (by omega)⟩, ⟨R3⟩, ⟨below_set n4.out (by omega)⟩⟩
            | ((repeat apply Exists.intro); exact ⟨⟨4, by omega, by go_num, ⟨n2.out.other (by omega)⟩, ⟨R3⟩, ⟨below_set n4.out (by omega)⟩⟩, rfl⟩)
        case measure => simp [intOf]
      · have hx := H3.out.cell 4 (by simp [HT.out])
        have hf := H3.out.fro 4
        have HV : Aside0 (gt T 4 = F (0) (0)) := ⟨HG2.out 4 (by omega)⟩
        go_wp2_with (go_at_call 60; refine (S1.out _ _ (by omega) (by omega) _).mono ?_; rintro e w4 ⟨rfl, hbb⟩; have n2 := Aside0.mk (H2.out.below hbb); have n3 := Aside0.mk (H3.out.below hbb); have n4 := Aside0.mk (below_step HB.out hbb); clear hx hf; have hx := n3.out.cell 4 (by simp [HT.out]); have hf := n3.out.fro 4; clear hbb)
        have R3 := n3.out.set 4 (gt T 4)
        rw [take_put T 9 4 HT.out (by omega), HV.out] at R3
        go_roundw
        case rel =>
          first
            | exact ⟨5, by omega, by go_num, ⟨n2.out.other (by omega)⟩, ⟨R3⟩, ⟨below_set n4.out (by omega)⟩⟩
            | ((repeat apply Exists.intro); exact ⟨⟨5, by omega, by go_num, ⟨n2.out.other (by omega)⟩, ⟨R3⟩, ⟨below_set n4.out (by omega)⟩⟩, rfl⟩)
        case measure => simp [intOf]
      · have hx := H3.out.cell 5 (by simp [HT.out])
        have hf := H3.out.fro 5
        have HV : Aside0 (gt T 5 = F (0) (1)) := ⟨HG2.out 5 (by omega)⟩
        go_wp2_with (go_at_call 60; refine (S1.out _ _ (by omega) (by omega) _).mono ?_; rintro e w4 ⟨rfl, hbb⟩; have n2 := Aside0.mk (H2.out.below hbb); have n3 := Aside0.mk (H3.out.below hbb); have n4 := Aside0.mk (below_step HB.out hbb); clear hx hf; have hx := n3.out.cell 5 (by simp [HT.out]); have hf := n3.out.fro 5; clear hbb)
        have R3 := n3.out.set 5 (gt T 5)
        rw [take_put T 9 5 HT.out (by omega), HV.out] at R3
        go_roundw
        case rel =>
          first
            | exact ⟨6, by omega, by go_num, ⟨n2.out.other (by omega)⟩, ⟨R3⟩, ⟨below_set n4.out (by omega)⟩⟩
            | ((repeat apply Exists.intro); exact ⟨⟨6, by omega, by go_num, ⟨n2.out.other (by omega)⟩, ⟨R3⟩, ⟨below_set n4.out (by omega)⟩⟩, rfl⟩)
        case measure => simp [intOf]
      · have hx := H3.out.cell 6 (by simp [HT.out])
        have hf := H3.out.fro 6
        have HV : Aside0 (gt T 6 = F (1) (-1)) := ⟨HG2.out 6 (by omega)⟩
        go_wp2_with (go_at_call 60; refine (S1.out _ _ (by omega) (by omega) _).mono ?_; rintro e w4 ⟨rfl, hbb⟩; have n2 := Aside0.mk (H2.out.below hbb); have n3 := Aside0.mk (H3.out.below hbb); have n4 := Aside0.mk (below_step HB.out hbb); clear hx hf; have hx := n3.out.cell 6 (by simp [HT.out]); have hf := n3.out.fro 6; clear hbb)
        have R3 := n3.out.set 6 (gt T 6)
        rw [take_put T 9 6 HT.out (by omega), HV.out] at R3
        go_roundw
        case rel =>
          first
            | exact ⟨7, by omega, by go_num, ⟨n2.out.other (by omega)⟩, ⟨R3⟩, ⟨below_set n4.out (by omega)⟩⟩
            | ((repeat apply Exists.intro); exact ⟨⟨7, by omega, by go_num, ⟨n2.out.other (by omega)⟩, ⟨R3⟩, ⟨below_set n4.out (by omega)⟩⟩, rfl⟩)
        case measure => simp [intOf]
      · have hx := H3.out.cell 7 (by simp [HT.out])
        have hf := H3.out.fro 7
        have HV : Aside0 (gt T 7 = F (1) (0)) := ⟨HG2.out 7 (by omega)⟩
        go_wp2_with (go_at_call 60; refine (S1.out _ _ (by omega) (by omega) _).mono ?_; rintro e w4 ⟨rfl, hbb⟩; have n2 := Aside0.mk (H2.out.below hbb); have n3 := Aside0.mk (H3.out.below hbb); have n4 := Aside0.mk (below_step HB.out hbb); clear hx hf; have hx := n3.out.cell 7 (by simp [HT.out]); have hf := n3.out.fro 7; clear hbb)
        have R3 := n3.out.set 7 (gt T 7)
        rw [take_put T 9 7 HT.out (by omega), HV.out] at R3
        go_roundw
        case rel =>
          first
            | exact ⟨8, by omega, by go_num, ⟨n2.out.other (by omega)⟩, ⟨R3⟩, ⟨below_set n4.out (by omega)⟩⟩
            | ((repeat apply Exists.intro); exact ⟨⟨8, by omega, by go_num, ⟨n2.out.other (by omega)⟩, ⟨R3⟩, ⟨below_set n4.out (by omega)⟩⟩, rfl⟩)
        case measure => simp [intOf]
      · have hx := H3.out.cell 8 (by simp [HT.out])
        have hf := H3.out.fro 8
        have HV : Aside0 (gt T 8 = F (1) (1)) := ⟨HG2.out 8 (by omega)⟩
        go_wp2_with (go_at_call 60; refine (S1.out _ _ (by omega) (by omega) _).mono ?_; rintro e w4 ⟨rfl, hbb⟩; have n2 := Aside0.mk (H2.out.below hbb); have n3 := Aside0.mk (H3.out.below hbb); have n4 := Aside0.mk (below_step HB.out hbb); clear hx hf; have hx := n3.out.cell 8 (by simp [HT.out]); have hf := n3.out.fro 8; clear hbb)
        have R3 := n3.out.set 8 (gt T 8)
        rw [take_put T 9 8 HT.out (by omega), HV.out] at R3
        go_roundw
        case rel =>
          first
            | exact ⟨9, by omega, by go_num, ⟨n2.out.other (by omega)⟩, ⟨R3⟩, ⟨below_set n4.out (by omega)⟩⟩
            | ((repeat apply Exists.intro); exact ⟨⟨9, by omega, by go_num, ⟨n2.out.other (by omega)⟩, ⟨R3⟩, ⟨below_set n4.out (by omega)⟩⟩, rfl⟩)
        case measure => simp [intOf]
    · have hjn : j = 9 := by omega
      subst hjn
      have h3 := H3.out
      rw [List.take_of_length_le (by rw [HT.out]; exact Nat.le_refl _)] at h3
      simp only [Nat.sub_self, List.replicate_zero, List.append_nil] at h3
      have hsz : (T.map (Value.int .i64)).toArray.size = 9 := by simp [HT.out]
      have hi : (Try.prog.info? 24).map (·.size) = some (T.map (Value.int .i64)).toArray.size := by rw [hsz]; exact info24
      have hall : (T.map (Value.int .i64)).toArray.all (·.oneCell') = true := all_one _
      have HI := Aside0.mk hi
      have HA := Aside0.mk hall
      have HS := Aside0.mk hsz
      have HG := Aside0.mk h3
      clear hi hall hsz h3
      go_wp2_with (first | refine wpList_load_row rfl 24 _ rfl (w.heap.size + 1) rfl 24 (T.map (Value.int .i64)).toArray (0, 0) _ HG.out Try.underlying24 rfl HI.out ?_ | refine wpList_store_row rfl 24 _ _ rfl w.heap.size (T.map (Value.int .i64)).toArray rfl rfl 24 _ H2.out HI.out (by rw [HS.out]; rfl) HA.out ?_)
      have hr := Blk.setRow H2.out T
      exact bodyPost_ret (results_cell_row (ty := 24) rfl _ _ w.heap.size 24 _ (0, 0) _ rfl hr Try.underlying24 rfl HI.out) rfl ⟨rfl, belowRow HB.out (by omega) _⟩

set_option maxHeartbeats 2000000 in
theorem tab61 (F : Int → Int → Int) (hF : ∀ (a b : Int), -1 ≤ a ∧ a ≤ 1 → -1 ≤ b ∧ b ≤ 1 → ∀ w : World, Calls Try.prog 61 #[.int .i64 a, .int .i64 b] w fun e w' => e = .returned (.int .i64 (F a b)) ∧ Below w.heap.size w w') (w : World) :
    Calls Try.prog 55 #[.func (.func 61) #[] #[]] w fun e w' => e = .returned (.agg ((genL F).map (Value.int .i64)).toArray) ∧ Below w.heap.size w w' := by
  have S1 := Aside0.mk hF
  have HT := Aside0.mk (genL_len F)
  have HG2 := Aside0.mk (gt_genL F)
  obtain ⟨T, hT⟩ : ∃ T, T = genL F := ⟨_, rfl⟩
  rw [← hT] at HT HG2
  rw [← hT]
  clear hT hF
  go_enter Try.func55, Try.ntmps55
  go_wp2
  go_loopw [4, 5] (fun v4 v5 w' => ∃ j : Nat, j ≤ 9 ∧ v5 = .int .i64 j ∧ Aside0 (Blk w' w.heap.size 24 (List.replicate 9 0)) ∧ Aside0 (Blk w' (w.heap.size + 1) 24 (T.take j ++ List.replicate (9 - j) 0)) ∧ Aside0 (Below w.heap.size w w')) (fun _ v5 _ => 9 - (intOf v5).toNat)
  case atStart =>
    exact ⟨0, by omega, rfl, ⟨(Blk.made w 24 (List.replicate 9 0)).alloc _⟩, ⟨made1 w 24 _ (List.replicate 9 0)⟩, ⟨by repeat (first | exact Below.refl _ _ | apply below_alloc)⟩⟩
  case round =>
    obtain ⟨j, hj, rfl, H2, H3, HB⟩ := hrel
    by_cases hlt : j < 9
    · rcases (show j = 0 ∨ j = 1 ∨ j = 2 ∨ j = 3 ∨ j = 4 ∨ j = 5 ∨ j = 6 ∨ j = 7 ∨ j = 8 by omega) with rfl | rfl | rfl | rfl | rfl | rfl | rfl | rfl | rfl
      · have hx := H3.out.cell 0 (by simp [HT.out])
        have hf := H3.out.fro 0
        have HV : Aside0 (gt T 0 = F (-1) (-1)) := ⟨HG2.out 0 (by omega)⟩
        go_wp2_with (go_at_call 61; refine (S1.out _ _ (by omega) (by omega) _).mono ?_; rintro e w4 ⟨rfl, hbb⟩; have n2 := Aside0.mk (H2.out.below hbb); have n3 := Aside0.mk (H3.out.below hbb); have n4 := Aside0.mk (below_step HB.out hbb); clear hx hf; have hx := n3.out.cell 0 (by simp [HT.out]); have hf := n3.out.fro 0; clear hbb)
        have R3 := n3.out.set 0 (gt T 0)
        rw [take_put T 9 0 HT.out (by omega), HV.out] at R3
        go_roundw
        case rel =>
          first
            | exact ⟨1, by omega, by go_num, ⟨n2.out.other (by omega)⟩, ⟨R3⟩, ⟨below_set n4.out (by omega)⟩⟩
            | ((repeat apply Exists.intro); exact ⟨⟨1, by omega, by go_num, ⟨n2.out.other (by omega)⟩, ⟨R3⟩, ⟨below_set n4.out (by omega)⟩⟩, rfl⟩)
        case measure => simp [intOf]
      · have hx := H3.out.cell 1 (by simp [HT.out])
        have hf := H3.out.fro 1
        have HV : Aside0 (gt T 1 = F (-1) (0)) := ⟨HG2.out 1 (by omega)⟩
        go_wp2_with (go_at_call 61; refine (S1.out _ _ (by omega) (by omega) _).mono ?_; rintro e w4 ⟨rfl, hbb⟩; have n2 := Aside0.mk (H2.out.below hbb); have n3 := Aside0.mk (H3.out.below hbb); have n4 := Aside0.mk (below_step HB.out hbb); clear hx hf; have hx := n3.out.cell 1 (by simp [HT.out]); have hf := n3.out.fro 1; clear hbb)
        have R3 := n3.out.set 1 (gt T 1)
        rw [take_put T 9 1 HT.out (by omega), HV.out] at R3
        go_roundw
        case rel =>
          first
            | exact ⟨2, by omega, by go_num, ⟨n2.out.other (by omega)⟩, ⟨R3⟩, ⟨below_set n4.out (by omega)⟩⟩
            | ((repeat apply Exists.intro); exact ⟨⟨2, by omega, by go_num, ⟨n2.out.other (by omega)⟩, ⟨R3⟩, ⟨below_set n4.out (by omega)⟩⟩, rfl⟩)
        case measure => simp [intOf]
      · have hx := H3.out.cell 2 (by simp [HT.out])
        have hf := H3.out.fro 2
        have HV : Aside0 (gt T 2 = F (-1) (1)) := ⟨HG2.out 2 (by omega)⟩
        go_wp2_with (go_at_call 61; refine (S1.out _ _ (by omega) (by omega) _).mono ?_; rintro e w4 ⟨rfl, hbb⟩; have n2 := Aside0.mk (H2.out.below hbb); have n3 := Aside0.mk (H3.out.below hbb); have n4 := Aside0.mk (below_step HB.out hbb); clear hx hf; have hx := n3.out.cell 2 (by simp [HT.out]); have hf := n3.out.fro 2; clear hbb)
        have R3 := n3.out.set 2 (gt T 2)
        rw [take_put T 9 2 HT.out (by omega), HV.out] at R3
        go_roundw
        case rel =>
          first
            | exact ⟨3, by omega, by go_num, ⟨n2.out.other (by omega)⟩, ⟨R3⟩, ⟨below_set n4.out (by omega)⟩⟩
            | ((repeat apply Exists.intro); exact ⟨⟨3, by omega, by go_num, ⟨n2.out.other (by omega)⟩, ⟨R3⟩, ⟨below_set n4.out (by omega)⟩⟩, rfl⟩)
        case measure => simp [intOf]
      · have hx := H3.out.cell 3 (by simp [HT.out])
        have hf := H3.out.fro 3
        have HV : Aside0 (gt T 3 = F (0) (-1)) := ⟨HG2.out 3 (by omega)⟩
        go_wp2_with (go_at_call 61; refine (S1.out _ _ (by omega) (by omega) _).mono ?_; rintro e w4 ⟨rfl, hbb⟩; have n2 := Aside0.mk (H2.out.below hbb); have n3 := Aside0.mk (H3.out.below hbb); have n4 := Aside0.mk (below_step HB.out hbb); clear hx hf; have hx := n3.out.cell 3 (by simp [HT.out]); have hf := n3.out.fro 3; clear hbb)
        have R3 := n3.out.set 3 (gt T 3)
        rw [take_put T 9 3 HT.out (by omega), HV.out] at R3
        go_roundw
        case rel =>
          first
            | exact ⟨4, by omega, by go_num, ⟨n2.out.other (by omega)⟩, ⟨R3⟩, ⟨below_set n4.out (by omega)⟩⟩
            | ((repeat apply Exists.intro); exact ⟨⟨4, by omega, by go_num, ⟨n2.out.other (by omega)⟩, ⟨R3⟩, ⟨below_set n4.out (by omega)⟩⟩, rfl⟩)
        case measure => simp [intOf]
      · have hx := H3.out.cell 4 (by simp [HT.out])
        have hf := H3.out.fro 4
        have HV : Aside0 (gt T 4 = F (0) (0)) := ⟨HG2.out 4 (by omega)⟩
        go_wp2_with (go_at_call 61; refine (S1.out _ _ (by omega) (by omega) _).mono ?_; rintro e w4 ⟨rfl, hbb⟩; have n2 := Aside0.mk (H2.out.below hbb); have n3 := Aside0.mk (H3.out.below hbb); have n4 := Aside0.mk (below_step HB.out hbb); clear hx hf; have hx := n3.out.cell 4 (by simp [HT.out]); have hf := n3.out.fro 4; clear hbb)
        have R3 := n3.out.set 4 (gt T 4)
        rw [take_put T 9 4 HT.out (by omega), HV.out] at R3
        go_roundw
        case rel =>
          first
            | exact ⟨5, by omega, by go_num, ⟨n2.out.other (by omega)⟩, ⟨R3⟩, ⟨below_set n4.out (by omega)⟩⟩
            | ((repeat apply Exists.intro); exact ⟨⟨5, by omega, by go_num, ⟨n2.out.other (by omega)⟩, ⟨R3⟩, ⟨below_set n4.out (by omega)⟩⟩, rfl⟩)
        case measure => simp [intOf]
      · have hx := H3.out.cell 5 (by simp [HT.out])
        have hf := H3.out.fro 5
        have HV : Aside0 (gt T 5 = F (0) (1)) := ⟨HG2.out 5 (by omega)⟩
        go_wp2_with (go_at_call 61; refine (S1.out _ _ (by omega) (by omega) _).mono ?_; rintro e w4 ⟨rfl, hbb⟩; have n2 := Aside0.mk (H2.out.below hbb); have n3 := Aside0.mk (H3.out.below hbb); have n4 := Aside0.mk (below_step HB.out hbb); clear hx hf; have hx := n3.out.cell 5 (by simp [HT.out]); have hf := n3.out.fro 5; clear hbb)
        have R3 := n3.out.set 5 (gt T 5)
        rw [take_put T 9 5 HT.out (by omega), HV.out] at R3
        go_roundw
        case rel =>
          first
            | exact ⟨6, by omega, by go_num, ⟨n2.out.other (by omega)⟩, ⟨R3⟩, ⟨below_set n4.out (by omega)⟩⟩
            | ((repeat apply Exists.intro); exact ⟨⟨6, by omega, by go_num, ⟨n2.out.other (by omega)⟩, ⟨R3⟩, ⟨below_set n4.out (by omega)⟩⟩, rfl⟩)
        case measure => simp [intOf]
      · have hx := H3.out.cell 6 (by simp [HT.out])
        have hf := H3.out.fro 6
        have HV : Aside0 (gt T 6 = F (1) (-1)) := ⟨HG2.out 6 (by omega)⟩
        go_wp2_with (go_at_call 61; refine (S1.out _ _ (by omega) (by omega) _).mono ?_; rintro e w4 ⟨rfl, hbb⟩; have n2 := Aside0.mk (H2.out.below hbb); have n3 := Aside0.mk (H3.out.below hbb); have n4 := Aside0.mk (below_step HB.out hbb); clear hx hf; have hx := n3.out.cell 6 (by simp [HT.out]); have hf := n3.out.fro 6; clear hbb)
        have R3 := n3.out.set 6 (gt T 6)
        rw [take_put T 9 6 HT.out (by omega), HV.out] at R3
        go_roundw
        case rel =>
          first
            | exact ⟨7, by omega, by go_num, ⟨n2.out.other (by omega)⟩, ⟨R3⟩, ⟨below_set n4.out (by omega)⟩⟩
            | ((repeat apply Exists.intro); exact ⟨⟨7, by omega, by go_num, ⟨n2.out.other (by omega)⟩, ⟨R3⟩, ⟨below_set n4.out (by omega)⟩⟩, rfl⟩)
        case measure => simp [intOf]
      · have hx := H3.out.cell 7 (by simp [HT.out])
        have hf := H3.out.fro 7
        have HV : Aside0 (gt T 7 = F (1) (0)) := ⟨HG2.out 7 (by omega)⟩
        go_wp2_with (go_at_call 61; refine (S1.out _ _ (by omega) (by omega) _).mono ?_; rintro e w4 ⟨rfl, hbb⟩; have n2 := Aside0.mk (H2.out.below hbb); have n3 := Aside0.mk (H3.out.below hbb); have n4 := Aside0.mk (below_step HB.out hbb); clear hx hf; have hx := n3.out.cell 7 (by simp [HT.out]); have hf := n3.out.fro 7; clear hbb)
        have R3 := n3.out.set 7 (gt T 7)
        rw [take_put T 9 7 HT.out (by omega), HV.out] at R3
        go_roundw
        case rel =>
          first
            | exact ⟨8, by omega, by go_num, ⟨n2.out.other (by omega)⟩, ⟨R3⟩, ⟨below_set n4.out (by omega)⟩⟩
            | ((repeat apply Exists.intro); exact ⟨⟨8, by omega, by go_num, ⟨n2.out.other (by omega)⟩, ⟨R3⟩, ⟨below_set n4.out (by omega)⟩⟩, rfl⟩)
        case measure => simp [intOf]
      · have hx := H3.out.cell 8 (by simp [HT.out])
        have hf := H3.out.fro 8
        have HV : Aside0 (gt T 8 = F (1) (1)) := ⟨HG2.out 8 (by omega)⟩
        go_wp2_with (go_at_call 61; refine (S1.out _ _ (by omega) (by omega) _).mono ?_; rintro e w4 ⟨rfl, hbb⟩; have n2 := Aside0.mk (H2.out.below hbb); have n3 := Aside0.mk (H3.out.below hbb); have n4 := Aside0.mk (below_step HB.out hbb); clear hx hf; have hx := n3.out.cell 8 (by simp [HT.out]); have hf := n3.out.fro 8; clear hbb)
        have R3 := n3.out.set 8 (gt T 8)
        rw [take_put T 9 8 HT.out (by omega), HV.out] at R3
        go_roundw
        case rel =>
          first
            | exact ⟨9, by omega, by go_num, ⟨n2.out.other (by omega)⟩, ⟨R3⟩, ⟨below_set n4.out (by omega)⟩⟩
            | ((repeat apply Exists.intro); exact ⟨⟨9, by omega, by go_num, ⟨n2.out.other (by omega)⟩, ⟨R3⟩, ⟨below_set n4.out (by omega)⟩⟩, rfl⟩)
        case measure => simp [intOf]
    · have hjn : j = 9 := by omega
      subst hjn
      have h3 := H3.out
      rw [List.take_of_length_le (by rw [HT.out]; exact Nat.le_refl _)] at h3
      simp only [Nat.sub_self, List.replicate_zero, List.append_nil] at h3
      have hsz : (T.map (Value.int .i64)).toArray.size = 9 := by simp [HT.out]
      have hi : (Try.prog.info? 24).map (·.size) = some (T.map (Value.int .i64)).toArray.size := by rw [hsz]; exact info24
      have hall : (T.map (Value.int .i64)).toArray.all (·.oneCell') = true := all_one _
      have HI := Aside0.mk hi
      have HA := Aside0.mk hall
      have HS := Aside0.mk hsz
      have HG := Aside0.mk h3
      clear hi hall hsz h3
      go_wp2_with (first | refine wpList_load_row rfl 24 _ rfl (w.heap.size + 1) rfl 24 (T.map (Value.int .i64)).toArray (0, 0) _ HG.out Try.underlying24 rfl HI.out ?_ | refine wpList_store_row rfl 24 _ _ rfl w.heap.size (T.map (Value.int .i64)).toArray rfl rfl 24 _ H2.out HI.out (by rw [HS.out]; rfl) HA.out ?_)
      have hr := Blk.setRow H2.out T
      exact bodyPost_ret (results_cell_row (ty := 24) rfl _ _ w.heap.size 24 _ (0, 0) _ rfl hr Try.underlying24 rfl HI.out) rfl ⟨rfl, belowRow HB.out (by omega) _⟩

set_option maxHeartbeats 2000000 in
theorem tab62 (F : Int → Int → Int) (hF : ∀ (a b : Int), -1 ≤ a ∧ a ≤ 1 → -1 ≤ b ∧ b ≤ 1 → ∀ w : World, Calls Try.prog 62 #[.int .i64 a, .int .i64 b] w fun e w' => e = .returned (.int .i64 (F a b)) ∧ Below w.heap.size w w') (w : World) :
    Calls Try.prog 55 #[.func (.func 62) #[] #[]] w fun e w' => e = .returned (.agg ((genL F).map (Value.int .i64)).toArray) ∧ Below w.heap.size w w' := by
  have S1 := Aside0.mk hF
  have HT := Aside0.mk (genL_len F)
  have HG2 := Aside0.mk (gt_genL F)
  obtain ⟨T, hT⟩ : ∃ T, T = genL F := ⟨_, rfl⟩
  rw [← hT] at HT HG2
  rw [← hT]
  clear hT hF
  go_enter Try.func55, Try.ntmps55
  go_wp2
  go_loopw [4, 5] (fun v4 v5 w' => ∃ j : Nat, j ≤ 9 ∧ v5 = .int .i64 j ∧ Aside0 (Blk w' w.heap.size 24 (List.replicate 9 0)) ∧ Aside0 (Blk w' (w.heap.size + 1) 24 (T.take j ++ List.replicate (9 - j) 0)) ∧ Aside0 (Below w.heap.size w w')) (fun _ v5 _ => 9 - (intOf v5).toNat)
  case atStart =>
    exact ⟨0, by omega, rfl, ⟨(Blk.made w 24 (List.replicate 9 0)).alloc _⟩, ⟨made1 w 24 _ (List.replicate 9 0)⟩, ⟨by repeat (first | exact Below.refl _ _ | apply below_alloc)⟩⟩
  case round =>
    obtain ⟨j, hj, rfl, H2, H3, HB⟩ := hrel
    by_cases hlt : j < 9
    · rcases (show j = 0 ∨ j = 1 ∨ j = 2 ∨ j = 3 ∨ j = 4 ∨ j = 5 ∨ j = 6 ∨ j = 7 ∨ j = 8 by omega) with rfl | rfl | rfl | rfl | rfl | rfl | rfl | rfl | rfl
      · have hx := H3.out.cell 0 (by simp [HT.out])
        have hf := H3.out.fro 0
        have HV : Aside0 (gt T 0 = F (-1) (-1)) := ⟨HG2.out 0 (by omega)⟩
        go_wp2_with (go_at_call 62; refine (S1.out _ _ (by omega) (by omega) _).mono ?_; rintro e w4 ⟨rfl, hbb⟩; have n2 := Aside0.mk (H2.out.below hbb); have n3 := Aside0.mk (H3.out.below hbb); have n4 := Aside0.mk (below_step HB.out hbb); clear hx hf; have hx := n3.out.cell 0 (by simp [HT.out]); have hf := n3.out.fro 0; clear hbb)
        have R3 := n3.out.set 0 (gt T 0)
        rw [take_put T 9 0 HT.out (by omega), HV.out] at R3
        go_roundw
        case rel =>
          first
            | exact ⟨1, by omega, by go_num, ⟨n2.out.other (by omega)⟩, ⟨R3⟩, ⟨below_set n4.out (by omega)⟩⟩
            | ((repeat apply Exists.intro); exact ⟨⟨1, by omega, by go_num, ⟨n2.out.other (by omega)⟩, ⟨R3⟩, ⟨below_set n4.out (by omega)⟩⟩, rfl⟩)
        case measure => simp [intOf]
      · have hx := H3.out.cell 1 (by simp [HT.out])
        have hf := H3.out.fro 1
        have HV : Aside0 (gt T 1 = F (-1) (0)) := ⟨HG2.out 1 (by omega)⟩
        go_wp2_with (go_at_call 62; refine (S1.out _ _ (by omega) (by omega) _).mono ?_; rintro e w4 ⟨rfl, hbb⟩; have n2 := Aside0.mk (H2.out.below hbb); have n3 := Aside0.mk (H3.out.below hbb); have n4 := Aside0.mk (below_step HB.out hbb); clear hx hf; have hx := n3.out.cell 1 (by simp [HT.out]); have hf := n3.out.fro 1; clear hbb)
        have R3 := n3.out.set 1 (gt T 1)
        rw [take_put T 9 1 HT.out (by omega), HV.out] at R3
        go_roundw
        case rel =>
          first
            | exact ⟨2, by omega, by go_num, ⟨n2.out.other (by omega)⟩, ⟨R3⟩, ⟨below_set n4.out (by omega)⟩⟩
            | ((repeat apply Exists.intro); exact ⟨⟨2, by omega, by go_num, ⟨n2.out.other (by omega)⟩, ⟨R3⟩, ⟨below_set n4.out (by omega)⟩⟩, rfl⟩)
        case measure => simp [intOf]
      · have hx := H3.out.cell 2 (by simp [HT.out])
        have hf := H3.out.fro 2
        have HV : Aside0 (gt T 2 = F (-1) (1)) := ⟨HG2.out 2 (by omega)⟩
        go_wp2_with (go_at_call 62; refine (S1.out _ _ (by omega) (by omega) _).mono ?_; rintro e w4 ⟨rfl, hbb⟩; have n2 := Aside0.mk (H2.out.below hbb); have n3 := Aside0.mk (H3.out.below hbb); have n4 := Aside0.mk (below_step HB.out hbb); clear hx hf; have hx := n3.out.cell 2 (by simp [HT.out]); have hf := n3.out.fro 2; clear hbb)
        have R3 := n3.out.set 2 (gt T 2)
        rw [take_put T 9 2 HT.out (by omega), HV.out] at R3
        go_roundw
        case rel =>
          first
            | exact ⟨3, by omega, by go_num, ⟨n2.out.other (by omega)⟩, ⟨R3⟩, ⟨below_set n4.out (by omega)⟩⟩
            | ((repeat apply Exists.intro); exact ⟨⟨3, by omega, by go_num, ⟨n2.out.other (by omega)⟩, ⟨R3⟩, ⟨below_set n4.out (by omega)⟩⟩, rfl⟩)
        case measure => simp [intOf]
      · have hx := H3.out.cell 3 (by simp [HT.out])
        have hf := H3.out.fro 3
        have HV : Aside0 (gt T 3 = F (0) (-1)) := ⟨HG2.out 3 (by omega)⟩
        go_wp2_with (go_at_call 62; refine (S1.out _ _ (by omega) (by omega) _).mono ?_; rintro e w4 ⟨rfl, hbb⟩; have n2 := Aside0.mk (H2.out.below hbb); have n3 := Aside0.mk (H3.out.below hbb); have n4 := Aside0.mk (below_step HB.out hbb); clear hx hf; have hx := n3.out.cell 3 (by simp [HT.out]); have hf := n3.out.fro 3; clear hbb)
        have R3 := n3.out.set 3 (gt T 3)
        rw [take_put T 9 3 HT.out (by omega), HV.out] at R3
        go_roundw
        case rel =>
          first
            | exact ⟨4, by omega, by go_num, ⟨n2.out.other (by omega)⟩, ⟨R3⟩, ⟨below_set n4.out (by omega)⟩⟩
            | ((repeat apply Exists.intro); exact ⟨⟨4, by omega, by go_num, ⟨n2.out.other (by omega)⟩, ⟨R3⟩, ⟨below_set n4.out (by omega)⟩⟩, rfl⟩)
        case measure => simp [intOf]
      · have hx := H3.out.cell 4 (by simp [HT.out])
        have hf := H3.out.fro 4
        have HV : Aside0 (gt T 4 = F (0) (0)) := ⟨HG2.out 4 (by omega)⟩
        go_wp2_with (go_at_call 62; refine (S1.out _ _ (by omega) (by omega) _).mono ?_; rintro e w4 ⟨rfl, hbb⟩; have n2 := Aside0.mk (H2.out.below hbb); have n3 := Aside0.mk (H3.out.below hbb); have n4 := Aside0.mk (below_step HB.out hbb); clear hx hf; have hx := n3.out.cell 4 (by simp [HT.out]); have hf := n3.out.fro 4; clear hbb)
        have R3 := n3.out.set 4 (gt T 4)
        rw [take_put T 9 4 HT.out (by omega), HV.out] at R3
        go_roundw
        case rel =>
          first
            | exact ⟨5, by omega, by go_num, ⟨n2.out.other (by omega)⟩, ⟨R3⟩, ⟨below_set n4.out (by omega)⟩⟩
            | ((repeat apply Exists.intro); exact ⟨⟨5, by omega, by go_num, ⟨n2.out.other (by omega)⟩, ⟨R3⟩, ⟨below_set n4.out (by omega)⟩⟩, rfl⟩)
        case measure => simp [intOf]
      · have hx := H3.out.cell 5 (by simp [HT.out])
        have hf := H3.out.fro 5
        have HV : Aside0 (gt T 5 = F (0) (1)) := ⟨HG2.out 5 (by omega)⟩
        go_wp2_with (go_at_call 62; refine (S1.out _ _ (by omega) (by omega) _).mono ?_; rintro e w4 ⟨rfl, hbb⟩; have n2 := Aside0.mk (H2.out.below hbb); have n3 := Aside0.mk (H3.out.below hbb); have n4 := Aside0.mk (below_step HB.out hbb); clear hx hf; have hx := n3.out.cell 5 (by simp [HT.out]); have hf := n3.out.fro 5; clear hbb)
        have R3 := n3.out.set 5 (gt T 5)
        rw [take_put T 9 5 HT.out (by omega), HV.out] at R3
        go_roundw
        case rel =>
          first
            | exact ⟨6, by omega, by go_num, ⟨n2.out.other (by omega)⟩, ⟨R3⟩, ⟨below_set n4.out (by omega)⟩⟩
            | ((repeat apply Exists.intro); exact ⟨⟨6, by omega, by go_num, ⟨n2.out.other (by omega)⟩, ⟨R3⟩, ⟨below_set n4.out (by omega)⟩⟩, rfl⟩)
        case measure => simp [intOf]
      · have hx := H3.out.cell 6 (by simp [HT.out])
        have hf := H3.out.fro 6
        have HV : Aside0 (gt T 6 = F (1) (-1)) := ⟨HG2.out 6 (by omega)⟩
        go_wp2_with (go_at_call 62; refine (S1.out _ _ (by omega) (by omega) _).mono ?_; rintro e w4 ⟨rfl, hbb⟩; have n2 := Aside0.mk (H2.out.below hbb); have n3 := Aside0.mk (H3.out.below hbb); have n4 := Aside0.mk (below_step HB.out hbb); clear hx hf; have hx := n3.out.cell 6 (by simp [HT.out]); have hf := n3.out.fro 6; clear hbb)
        have R3 := n3.out.set 6 (gt T 6)
        rw [take_put T 9 6 HT.out (by omega), HV.out] at R3
        go_roundw
        case rel =>
          first
            | exact ⟨7, by omega, by go_num, ⟨n2.out.other (by omega)⟩, ⟨R3⟩, ⟨below_set n4.out (by omega)⟩⟩
            | ((repeat apply Exists.intro); exact ⟨⟨7, by omega, by go_num, ⟨n2.out.other (by omega)⟩, ⟨R3⟩, ⟨below_set n4.out (by omega)⟩⟩, rfl⟩)
        case measure => simp [intOf]
      · have hx := H3.out.cell 7 (by simp [HT.out])
        have hf := H3.out.fro 7
        have HV : Aside0 (gt T 7 = F (1) (0)) := ⟨HG2.out 7 (by omega)⟩
        go_wp2_with (go_at_call 62; refine (S1.out _ _ (by omega) (by omega) _).mono ?_; rintro e w4 ⟨rfl, hbb⟩; have n2 := Aside0.mk (H2.out.below hbb); have n3 := Aside0.mk (H3.out.below hbb); have n4 := Aside0.mk (below_step HB.out hbb); clear hx hf; have hx := n3.out.cell 7 (by simp [HT.out]); have hf := n3.out.fro 7; clear hbb)
        have R3 := n3.out.set 7 (gt T 7)
        rw [take_put T 9 7 HT.out (by omega), HV.out] at R3
        go_roundw
        case rel =>
          first
            | exact ⟨8, by omega, by go_num, ⟨n2.out.other (by omega)⟩, ⟨R3⟩, ⟨below_set n4.out (by omega)⟩⟩
            | ((repeat apply Exists.intro); exact ⟨⟨8, by omega, by go_num, ⟨n2.out.other (by omega)⟩, ⟨R3⟩, ⟨below_set n4.out (by omega)⟩⟩, rfl⟩)
        case measure => simp [intOf]
      · have hx := H3.out.cell 8 (by simp [HT.out])
        have hf := H3.out.fro 8
        have HV : Aside0 (gt T 8 = F (1) (1)) := ⟨HG2.out 8 (by omega)⟩
        go_wp2_with (go_at_call 62; refine (S1.out _ _ (by omega) (by omega) _).mono ?_; rintro e w4 ⟨rfl, hbb⟩; have n2 := Aside0.mk (H2.out.below hbb); have n3 := Aside0.mk (H3.out.below hbb); have n4 := Aside0.mk (below_step HB.out hbb); clear hx hf; have hx := n3.out.cell 8 (by simp [HT.out]); have hf := n3.out.fro 8; clear hbb)
        have R3 := n3.out.set 8 (gt T 8)
        rw [take_put T 9 8 HT.out (by omega), HV.out] at R3
        go_roundw
        case rel =>
          first
            | exact ⟨9, by omega, by go_num, ⟨n2.out.other (by omega)⟩, ⟨R3⟩, ⟨below_set n4.out (by omega)⟩⟩
            | ((repeat apply Exists.intro); exact ⟨⟨9, by omega, by go_num, ⟨n2.out.other (by omega)⟩, ⟨R3⟩, ⟨below_set n4.out (by omega)⟩⟩, rfl⟩)
        case measure => simp [intOf]
    · have hjn : j = 9 := by omega
      subst hjn
      have h3 := H3.out
      rw [List.take_of_length_le (by rw [HT.out]; exact Nat.le_refl _)] at h3
      simp only [Nat.sub_self, List.replicate_zero, List.append_nil] at h3
      have hsz : (T.map (Value.int .i64)).toArray.size = 9 := by simp [HT.out]
      have hi : (Try.prog.info? 24).map (·.size) = some (T.map (Value.int .i64)).toArray.size := by rw [hsz]; exact info24
      have hall : (T.map (Value.int .i64)).toArray.all (·.oneCell') = true := all_one _
      have HI := Aside0.mk hi
      have HA := Aside0.mk hall
      have HS := Aside0.mk hsz
      have HG := Aside0.mk h3
      clear hi hall hsz h3
      go_wp2_with (first | refine wpList_load_row rfl 24 _ rfl (w.heap.size + 1) rfl 24 (T.map (Value.int .i64)).toArray (0, 0) _ HG.out Try.underlying24 rfl HI.out ?_ | refine wpList_store_row rfl 24 _ _ rfl w.heap.size (T.map (Value.int .i64)).toArray rfl rfl 24 _ H2.out HI.out (by rw [HS.out]; rfl) HA.out ?_)
      have hr := Blk.setRow H2.out T
      exact bodyPost_ret (results_cell_row (ty := 24) rfl _ _ w.heap.size 24 _ (0, 0) _ rfl hr Try.underlying24 rfl HI.out) rfl ⟨rfl, belowRow HB.out (by omega) _⟩

set_option maxHeartbeats 2000000 in
theorem tab63 (F : Int → Int → Int) (hF : ∀ (a b : Int), -1 ≤ a ∧ a ≤ 1 → -1 ≤ b ∧ b ≤ 1 → ∀ w : World, Calls Try.prog 63 #[.int .i64 a, .int .i64 b] w fun e w' => e = .returned (.int .i64 (F a b)) ∧ Below w.heap.size w w') (w : World) :
    Calls Try.prog 55 #[.func (.func 63) #[] #[]] w fun e w' => e = .returned (.agg ((genL F).map (Value.int .i64)).toArray) ∧ Below w.heap.size w w' := by
  have S1 := Aside0.mk hF
  have HT := Aside0.mk (genL_len F)
  have HG2 := Aside0.mk (gt_genL F)
  obtain ⟨T, hT⟩ : ∃ T, T = genL F := ⟨_, rfl⟩
  rw [← hT] at HT HG2
  rw [← hT]
  clear hT hF
  go_enter Try.func55, Try.ntmps55
  go_wp2
  go_loopw [4, 5] (fun v4 v5 w' => ∃ j : Nat, j ≤ 9 ∧ v5 = .int .i64 j ∧ Aside0 (Blk w' w.heap.size 24 (List.replicate 9 0)) ∧ Aside0 (Blk w' (w.heap.size + 1) 24 (T.take j ++ List.replicate (9 - j) 0)) ∧ Aside0 (Below w.heap.size w w')) (fun _ v5 _ => 9 - (intOf v5).toNat)
  case atStart =>
    exact ⟨0, by omega, rfl, ⟨(Blk.made w 24 (List.replicate 9 0)).alloc _⟩, ⟨made1 w 24 _ (List.replicate 9 0)⟩, ⟨by repeat (first | exact Below.refl _ _ | apply below_alloc)⟩⟩
  case round =>
    obtain ⟨j, hj, rfl, H2, H3, HB⟩ := hrel
    by_cases hlt : j < 9
    · rcases (show j = 0 ∨ j = 1 ∨ j = 2 ∨ j = 3 ∨ j = 4 ∨ j = 5 ∨ j = 6 ∨ j = 7 ∨ j = 8 by omega) with rfl | rfl | rfl | rfl | rfl | rfl | rfl | rfl | rfl
      · have hx := H3.out.cell 0 (by simp [HT.out])
        have hf := H3.out.fro 0
        have HV : Aside0 (gt T 0 = F (-1) (-1)) := ⟨HG2.out 0 (by omega)⟩
        go_wp2_with (go_at_call 63; refine (S1.out _ _ (by omega) (by omega) _).mono ?_; rintro e w4 ⟨rfl, hbb⟩; have n2 := Aside0.mk (H2.out.below hbb); have n3 := Aside0.mk (H3.out.below hbb); have n4 := Aside0.mk (below_step HB.out hbb); clear hx hf; have hx := n3.out.cell 0 (by simp [HT.out]); have hf := n3.out.fro 0; clear hbb)
        have R3 := n3.out.set 0 (gt T 0)
        rw [take_put T 9 0 HT.out (by omega), HV.out] at R3
        go_roundw
        case rel =>
          first
            | exact ⟨1, by omega, by go_num, ⟨n2.out.other (by omega)⟩, ⟨R3⟩, ⟨below_set n4.out (by omega)⟩⟩
            | ((repeat apply Exists.intro); exact ⟨⟨1, by omega, by go_num, ⟨n2.out.other (by omega)⟩, ⟨R3⟩, ⟨below_set n4.out (by omega)⟩⟩, rfl⟩)
        case measure => simp [intOf]
      · have hx := H3.out.cell 1 (by simp [HT.out])
        have hf := H3.out.fro 1
        have HV : Aside0 (gt T 1 = F (-1) (0)) := ⟨HG2.out 1 (by omega)⟩
        go_wp2_with (go_at_call 63; refine (S1.out _ _ (by omega) (by omega) _).mono ?_; rintro e w4 ⟨rfl, hbb⟩; have n2 := Aside0.mk (H2.out.below hbb); have n3 := Aside0.mk (H3.out.below hbb); have n4 := Aside0.mk (below_step HB.out hbb); clear hx hf; have hx := n3.out.cell 1 (by simp [HT.out]); have hf := n3.out.fro 1; clear hbb)
        have R3 := n3.out.set 1 (gt T 1)
        rw [take_put T 9 1 HT.out (by omega), HV.out] at R3
        go_roundw
        case rel =>
          first
            | exact ⟨2, by omega, by go_num, ⟨n2.out.other (by omega)⟩, ⟨R3⟩, ⟨below_set n4.out (by omega)⟩⟩
            | ((repeat apply Exists.intro); exact ⟨⟨2, by omega, by go_num, ⟨n2.out.other (by omega)⟩, ⟨R3⟩, ⟨below_set n4.out (by omega)⟩⟩, rfl⟩)
        case measure => simp [intOf]
      · have hx := H3.out.cell 2 (by simp [HT.out])
        have hf := H3.out.fro 2
        have HV : Aside0 (gt T 2 = F (-1) (1)) := ⟨HG2.out 2 (by omega)⟩
        go_wp2_with (go_at_call 63; refine (S1.out _ _ (by omega) (by omega) _).mono ?_; rintro e w4 ⟨rfl, hbb⟩; have n2 := Aside0.mk (H2.out.below hbb); have n3 := Aside0.mk (H3.out.below hbb); have n4 := Aside0.mk (below_step HB.out hbb); clear hx hf; have hx := n3.out.cell 2 (by simp [HT.out]); have hf := n3.out.fro 2; clear hbb)
        have R3 := n3.out.set 2 (gt T 2)
        rw [take_put T 9 2 HT.out (by omega), HV.out] at R3
        go_roundw
        case rel =>
          first
            | exact ⟨3, by omega, by go_num, ⟨n2.out.other (by omega)⟩, ⟨R3⟩, ⟨below_set n4.out (by omega)⟩⟩
            | ((repeat apply Exists.intro); exact ⟨⟨3, by omega, by go_num, ⟨n2.out.other (by omega)⟩, ⟨R3⟩, ⟨below_set n4.out (by omega)⟩⟩, rfl⟩)
        case measure => simp [intOf]
      · have hx := H3.out.cell 3 (by simp [HT.out])
        have hf := H3.out.fro 3
        have HV : Aside0 (gt T 3 = F (0) (-1)) := ⟨HG2.out 3 (by omega)⟩
        go_wp2_with (go_at_call 63; refine (S1.out _ _ (by omega) (by omega) _).mono ?_; rintro e w4 ⟨rfl, hbb⟩; have n2 := Aside0.mk (H2.out.below hbb); have n3 := Aside0.mk (H3.out.below hbb); have n4 := Aside0.mk (below_step HB.out hbb); clear hx hf; have hx := n3.out.cell 3 (by simp [HT.out]); have hf := n3.out.fro 3; clear hbb)
        have R3 := n3.out.set 3 (gt T 3)
        rw [take_put T 9 3 HT.out (by omega), HV.out] at R3
        go_roundw
        case rel =>
          first
            | exact ⟨4, by omega, by go_num, ⟨n2.out.other (by omega)⟩, ⟨R3⟩, ⟨below_set n4.out (by omega)⟩⟩
            | ((repeat apply Exists.intro); exact ⟨⟨4, by omega, by go_num, ⟨n2.out.other (by omega)⟩, ⟨R3⟩, ⟨below_set n4.out (by omega)⟩⟩, rfl⟩)
        case measure => simp [intOf]
      · have hx := H3.out.cell 4 (by simp [HT.out])
        have hf := H3.out.fro 4
        have HV : Aside0 (gt T 4 = F (0) (0)) := ⟨HG2.out 4 (by omega)⟩
        go_wp2_with (go_at_call 63; refine (S1.out _ _ (by omega) (by omega) _).mono ?_; rintro e w4 ⟨rfl, hbb⟩; have n2 := Aside0.mk (H2.out.below hbb); have n3 := Aside0.mk (H3.out.below hbb); have n4 := Aside0.mk (below_step HB.out hbb); clear hx hf; have hx := n3.out.cell 4 (by simp [HT.out]); have hf := n3.out.fro 4; clear hbb)
        have R3 := n3.out.set 4 (gt T 4)
        rw [take_put T 9 4 HT.out (by omega), HV.out] at R3
        go_roundw
        case rel =>
          first
            | exact ⟨5, by omega, by go_num, ⟨n2.out.other (by omega)⟩, ⟨R3⟩, ⟨below_set n4.out (by omega)⟩⟩
            | ((repeat apply Exists.intro); exact ⟨⟨5, by omega, by go_num, ⟨n2.out.other (by omega)⟩, ⟨R3⟩, ⟨below_set n4.out (by omega)⟩⟩, rfl⟩)
        case measure => simp [intOf]
      · have hx := H3.out.cell 5 (by simp [HT.out])
        have hf := H3.out.fro 5
        have HV : Aside0 (gt T 5 = F (0) (1)) := ⟨HG2.out 5 (by omega)⟩
        go_wp2_with (go_at_call 63; refine (S1.out _ _ (by omega) (by omega) _).mono ?_; rintro e w4 ⟨rfl, hbb⟩; have n2 := Aside0.mk (H2.out.below hbb); have n3 := Aside0.mk (H3.out.below hbb); have n4 := Aside0.mk (below_step HB.out hbb); clear hx hf; have hx := n3.out.cell 5 (by simp [HT.out]); have hf := n3.out.fro 5; clear hbb)
        have R3 := n3.out.set 5 (gt T 5)
        rw [take_put T 9 5 HT.out (by omega), HV.out] at R3
        go_roundw
        case rel =>
          first
            | exact ⟨6, by omega, by go_num, ⟨n2.out.other (by omega)⟩, ⟨R3⟩, ⟨below_set n4.out (by omega)⟩⟩
            | ((repeat apply Exists.intro); exact ⟨⟨6, by omega, by go_num, ⟨n2.out.other (by omega)⟩, ⟨R3⟩, ⟨below_set n4.out (by omega)⟩⟩, rfl⟩)
        case measure => simp [intOf]
      · have hx := H3.out.cell 6 (by simp [HT.out])
        have hf := H3.out.fro 6
        have HV : Aside0 (gt T 6 = F (1) (-1)) := ⟨HG2.out 6 (by omega)⟩
        go_wp2_with (go_at_call 63; refine (S1.out _ _ (by omega) (by omega) _).mono ?_; rintro e w4 ⟨rfl, hbb⟩; have n2 := Aside0.mk (H2.out.below hbb); have n3 := Aside0.mk (H3.out.below hbb); have n4 := Aside0.mk (below_step HB.out hbb); clear hx hf; have hx := n3.out.cell 6 (by simp [HT.out]); have hf := n3.out.fro 6; clear hbb)
        have R3 := n3.out.set 6 (gt T 6)
        rw [take_put T 9 6 HT.out (by omega), HV.out] at R3
        go_roundw
        case rel =>
          first
            | exact ⟨7, by omega, by go_num, ⟨n2.out.other (by omega)⟩, ⟨R3⟩, ⟨below_set n4.out (by omega)⟩⟩
            | ((repeat apply Exists.intro); exact ⟨⟨7, by omega, by go_num, ⟨n2.out.other (by omega)⟩, ⟨R3⟩, ⟨below_set n4.out (by omega)⟩⟩, rfl⟩)
        case measure => simp [intOf]
      · have hx := H3.out.cell 7 (by simp [HT.out])
        have hf := H3.out.fro 7
        have HV : Aside0 (gt T 7 = F (1) (0)) := ⟨HG2.out 7 (by omega)⟩
        go_wp2_with (go_at_call 63; refine (S1.out _ _ (by omega) (by omega) _).mono ?_; rintro e w4 ⟨rfl, hbb⟩; have n2 := Aside0.mk (H2.out.below hbb); have n3 := Aside0.mk (H3.out.below hbb); have n4 := Aside0.mk (below_step HB.out hbb); clear hx hf; have hx := n3.out.cell 7 (by simp [HT.out]); have hf := n3.out.fro 7; clear hbb)
        have R3 := n3.out.set 7 (gt T 7)
        rw [take_put T 9 7 HT.out (by omega), HV.out] at R3
        go_roundw
        case rel =>
          first
            | exact ⟨8, by omega, by go_num, ⟨n2.out.other (by omega)⟩, ⟨R3⟩, ⟨below_set n4.out (by omega)⟩⟩
            | ((repeat apply Exists.intro); exact ⟨⟨8, by omega, by go_num, ⟨n2.out.other (by omega)⟩, ⟨R3⟩, ⟨below_set n4.out (by omega)⟩⟩, rfl⟩)
        case measure => simp [intOf]
      · have hx := H3.out.cell 8 (by simp [HT.out])
        have hf := H3.out.fro 8
        have HV : Aside0 (gt T 8 = F (1) (1)) := ⟨HG2.out 8 (by omega)⟩
        go_wp2_with (go_at_call 63; refine (S1.out _ _ (by omega) (by omega) _).mono ?_; rintro e w4 ⟨rfl, hbb⟩; have n2 := Aside0.mk (H2.out.below hbb); have n3 := Aside0.mk (H3.out.below hbb); have n4 := Aside0.mk (below_step HB.out hbb); clear hx hf; have hx := n3.out.cell 8 (by simp [HT.out]); have hf := n3.out.fro 8; clear hbb)
        have R3 := n3.out.set 8 (gt T 8)
        rw [take_put T 9 8 HT.out (by omega), HV.out] at R3
        go_roundw
        case rel =>
          first
            | exact ⟨9, by omega, by go_num, ⟨n2.out.other (by omega)⟩, ⟨R3⟩, ⟨below_set n4.out (by omega)⟩⟩
            | ((repeat apply Exists.intro); exact ⟨⟨9, by omega, by go_num, ⟨n2.out.other (by omega)⟩, ⟨R3⟩, ⟨below_set n4.out (by omega)⟩⟩, rfl⟩)
        case measure => simp [intOf]
    · have hjn : j = 9 := by omega
      subst hjn
      have h3 := H3.out
      rw [List.take_of_length_le (by rw [HT.out]; exact Nat.le_refl _)] at h3
      simp only [Nat.sub_self, List.replicate_zero, List.append_nil] at h3
      have hsz : (T.map (Value.int .i64)).toArray.size = 9 := by simp [HT.out]
      have hi : (Try.prog.info? 24).map (·.size) = some (T.map (Value.int .i64)).toArray.size := by rw [hsz]; exact info24
      have hall : (T.map (Value.int .i64)).toArray.all (·.oneCell') = true := all_one _
      have HI := Aside0.mk hi
      have HA := Aside0.mk hall
      have HS := Aside0.mk hsz
      have HG := Aside0.mk h3
      clear hi hall hsz h3
      go_wp2_with (first | refine wpList_load_row rfl 24 _ rfl (w.heap.size + 1) rfl 24 (T.map (Value.int .i64)).toArray (0, 0) _ HG.out Try.underlying24 rfl HI.out ?_ | refine wpList_store_row rfl 24 _ _ rfl w.heap.size (T.map (Value.int .i64)).toArray rfl rfl 24 _ H2.out HI.out (by rw [HS.out]; rfl) HA.out ?_)
      have hr := Blk.setRow H2.out T
      exact bodyPost_ret (results_cell_row (ty := 24) rfl _ _ w.heap.size 24 _ (0, 0) _ rfl hr Try.underlying24 rfl HI.out) rfl ⟨rfl, belowRow HB.out (by omega) _⟩

set_option maxHeartbeats 2000000 in
theorem tab64 (F : Int → Int → Int) (hF : ∀ (a b : Int), -1 ≤ a ∧ a ≤ 1 → -1 ≤ b ∧ b ≤ 1 → ∀ w : World, Calls Try.prog 64 #[.int .i64 a, .int .i64 b] w fun e w' => e = .returned (.int .i64 (F a b)) ∧ Below w.heap.size w w') (w : World) :
    Calls Try.prog 55 #[.func (.func 64) #[] #[]] w fun e w' => e = .returned (.agg ((genL F).map (Value.int .i64)).toArray) ∧ Below w.heap.size w w' := by
  have S1 := Aside0.mk hF
  have HT := Aside0.mk (genL_len F)
  have HG2 := Aside0.mk (gt_genL F)
  obtain ⟨T, hT⟩ : ∃ T, T = genL F := ⟨_, rfl⟩
  rw [← hT] at HT HG2
  rw [← hT]
  clear hT hF
  go_enter Try.func55, Try.ntmps55
  go_wp2
  go_loopw [4, 5] (fun v4 v5 w' => ∃ j : Nat, j ≤ 9 ∧ v5 = .int .i64 j ∧ Aside0 (Blk w' w.heap.size 24 (List.replicate 9 0)) ∧ Aside0 (Blk w' (w.heap.size + 1) 24 (T.take j ++ List.replicate (9 - j) 0)) ∧ Aside0 (Below w.heap.size w w')) (fun _ v5 _ => 9 - (intOf v5).toNat)
  case atStart =>
    exact ⟨0, by omega, rfl, ⟨(Blk.made w 24 (List.replicate 9 0)).alloc _⟩, ⟨made1 w 24 _ (List.replicate 9 0)⟩, ⟨by repeat (first | exact Below.refl _ _ | apply below_alloc)⟩⟩
  case round =>
    obtain ⟨j, hj, rfl, H2, H3, HB⟩ := hrel
    by_cases hlt : j < 9
    · rcases (show j = 0 ∨ j = 1 ∨ j = 2 ∨ j = 3 ∨ j = 4 ∨ j = 5 ∨ j = 6 ∨ j = 7 ∨ j = 8 by omega) with rfl | rfl | rfl | rfl | rfl | rfl | rfl | rfl | rfl
      · have hx := H3.out.cell 0 (by simp [HT.out])
        have hf := H3.out.fro 0
        have HV : Aside0 (gt T 0 = F (-1) (-1)) := ⟨HG2.out 0 (by omega)⟩
        go_wp2_with (go_at_call 64; refine (S1.out _ _ (by omega) (by omega) _).mono ?_; rintro e w4 ⟨rfl, hbb⟩; have n2 := Aside0.mk (H2.out.below hbb); have n3 := Aside0.mk (H3.out.below hbb); have n4 := Aside0.mk (below_step HB.out hbb); clear hx hf; have hx := n3.out.cell 0 (by simp [HT.out]); have hf := n3.out.fro 0; clear hbb)
        have R3 := n3.out.set 0 (gt T 0)
        rw [take_put T 9 0 HT.out (by omega), HV.out] at R3
        go_roundw
        case rel =>
          first
            | exact ⟨1, by omega, by go_num, ⟨n2.out.other (by omega)⟩, ⟨R3⟩, ⟨below_set n4.out (by omega)⟩⟩
            | ((repeat apply Exists.intro); exact ⟨⟨1, by omega, by go_num, ⟨n2.out.other (by omega)⟩, ⟨R3⟩, ⟨below_set n4.out (by omega)⟩⟩, rfl⟩)
        case measure => simp [intOf]
      · have hx := H3.out.cell 1 (by simp [HT.out])
        have hf := H3.out.fro 1
        have HV : Aside0 (gt T 1 = F (-1) (0)) := ⟨HG2.out 1 (by omega)⟩
        go_wp2_with (go_at_call 64; refine (S1.out _ _ (by omega) (by omega) _).mono ?_; rintro e w4 ⟨rfl, hbb⟩; have n2 := Aside0.mk (H2.out.below hbb); have n3 := Aside0.mk (H3.out.below hbb); have n4 := Aside0.mk (below_step HB.out hbb); clear hx hf; have hx := n3.out.cell 1 (by simp [HT.out]); have hf := n3.out.fro 1; clear hbb)
        have R3 := n3.out.set 1 (gt T 1)
        rw [take_put T 9 1 HT.out (by omega), HV.out] at R3
        go_roundw
        case rel =>
          first
            | exact ⟨2, by omega, by go_num, ⟨n2.out.other (by omega)⟩, ⟨R3⟩, ⟨below_set n4.out (by omega)⟩⟩
            | ((repeat apply Exists.intro); exact ⟨⟨2, by omega, by go_num, ⟨n2.out.other (by omega)⟩, ⟨R3⟩, ⟨below_set n4.out (by omega)⟩⟩, rfl⟩)
        case measure => simp [intOf]
      · have hx := H3.out.cell 2 (by simp [HT.out])
        have hf := H3.out.fro 2
        have HV : Aside0 (gt T 2 = F (-1) (1)) := ⟨HG2.out 2 (by omega)⟩
        go_wp2_with (go_at_call 64; refine (S1.out _ _ (by omega) (by omega) _).mono ?_; rintro e w4 ⟨rfl, hbb⟩; have n2 := Aside0.mk (H2.out.below hbb); have n3 := Aside0.mk (H3.out.below hbb); have n4 := Aside0.mk (below_step HB.out hbb); clear hx hf; have hx := n3.out.cell 2 (by simp [HT.out]); have hf := n3.out.fro 2; clear hbb)
        have R3 := n3.out.set 2 (gt T 2)
        rw [take_put T 9 2 HT.out (by omega), HV.out] at R3
        go_roundw
        case rel =>
          first
            | exact ⟨3, by omega, by go_num, ⟨n2.out.other (by omega)⟩, ⟨R3⟩, ⟨below_set n4.out (by omega)⟩⟩
            | ((repeat apply Exists.intro); exact ⟨⟨3, by omega, by go_num, ⟨n2.out.other (by omega)⟩, ⟨R3⟩, ⟨below_set n4.out (by omega)⟩⟩, rfl⟩)
        case measure => simp [intOf]
      · have hx := H3.out.cell 3 (by simp [HT.out])
        have hf := H3.out.fro 3
        have HV : Aside0 (gt T 3 = F (0) (-1)) := ⟨HG2.out 3 (by omega)⟩
        go_wp2_with (go_at_call 64; refine (S1.out _ _ (by omega) (by omega) _).mono ?_; rintro e w4 ⟨rfl, hbb⟩; have n2 := Aside0.mk (H2.out.below hbb); have n3 := Aside0.mk (H3.out.below hbb); have n4 := Aside0.mk (below_step HB.out hbb); clear hx hf; have hx := n3.out.cell 3 (by simp [HT.out]); have hf := n3.out.fro 3; clear hbb)
        have R3 := n3.out.set 3 (gt T 3)
        rw [take_put T 9 3 HT.out (by omega), HV.out] at R3
        go_roundw
        case rel =>
          first
            | exact ⟨4, by omega, by go_num, ⟨n2.out.other (by omega)⟩, ⟨R3⟩, ⟨below_set n4.out (by omega)⟩⟩
            | ((repeat apply Exists.intro); exact ⟨⟨4, by omega, by go_num, ⟨n2.out.other (by omega)⟩, ⟨R3⟩, ⟨below_set n4.out (by omega)⟩⟩, rfl⟩)
        case measure => simp [intOf]
      · have hx := H3.out.cell 4 (by simp [HT.out])
        have hf := H3.out.fro 4
        have HV : Aside0 (gt T 4 = F (0) (0)) := ⟨HG2.out 4 (by omega)⟩
        go_wp2_with (go_at_call 64; refine (S1.out _ _ (by omega) (by omega) _).mono ?_; rintro e w4 ⟨rfl, hbb⟩; have n2 := Aside0.mk (H2.out.below hbb); have n3 := Aside0.mk (H3.out.below hbb); have n4 := Aside0.mk (below_step HB.out hbb); clear hx hf; have hx := n3.out.cell 4 (by simp [HT.out]); have hf := n3.out.fro 4; clear hbb)
        have R3 := n3.out.set 4 (gt T 4)
        rw [take_put T 9 4 HT.out (by omega), HV.out] at R3
        go_roundw
        case rel =>
          first
            | exact ⟨5, by omega, by go_num, ⟨n2.out.other (by omega)⟩, ⟨R3⟩, ⟨below_set n4.out (by omega)⟩⟩
            | ((repeat apply Exists.intro); exact ⟨⟨5, by omega, by go_num, ⟨n2.out.other (by omega)⟩, ⟨R3⟩, ⟨below_set n4.out (by omega)⟩⟩, rfl⟩)
        case measure => simp [intOf]
      · have hx := H3.out.cell 5 (by simp [HT.out])
        have hf := H3.out.fro 5
        have HV : Aside0 (gt T 5 = F (0) (1)) := ⟨HG2.out 5 (by omega)⟩
        go_wp2_with (go_at_call 64; refine (S1.out _ _ (by omega) (by omega) _).mono ?_; rintro e w4 ⟨rfl, hbb⟩; have n2 := Aside0.mk (H2.out.below hbb); have n3 := Aside0.mk (H3.out.below hbb); have n4 := Aside0.mk (below_step HB.out hbb); clear hx hf; have hx := n3.out.cell 5 (by simp [HT.out]); have hf := n3.out.fro 5; clear hbb)
        have R3 := n3.out.set 5 (gt T 5)
        rw [take_put T 9 5 HT.out (by omega), HV.out] at R3
        go_roundw
        case rel =>
          first
            | exact ⟨6, by omega, by go_num, ⟨n2.out.other (by omega)⟩, ⟨R3⟩, ⟨below_set n4.out (by omega)⟩⟩
            | ((repeat apply Exists.intro); exact ⟨⟨6, by omega, by go_num, ⟨n2.out.other (by omega)⟩, ⟨R3⟩, ⟨below_set n4.out (by omega)⟩⟩, rfl⟩)
        case measure => simp [intOf]
      · have hx := H3.out.cell 6 (by simp [HT.out])
        have hf := H3.out.fro 6
        have HV : Aside0 (gt T 6 = F (1) (-1)) := ⟨HG2.out 6 (by omega)⟩
        go_wp2_with (go_at_call 64; refine (S1.out _ _ (by omega) (by omega) _).mono ?_; rintro e w4 ⟨rfl, hbb⟩; have n2 := Aside0.mk (H2.out.below hbb); have n3 := Aside0.mk (H3.out.below hbb); have n4 := Aside0.mk (below_step HB.out hbb); clear hx hf; have hx := n3.out.cell 6 (by simp [HT.out]); have hf := n3.out.fro 6; clear hbb)
        have R3 := n3.out.set 6 (gt T 6)
        rw [take_put T 9 6 HT.out (by omega), HV.out] at R3
        go_roundw
        case rel =>
          first
            | exact ⟨7, by omega, by go_num, ⟨n2.out.other (by omega)⟩, ⟨R3⟩, ⟨below_set n4.out (by omega)⟩⟩
            | ((repeat apply Exists.intro); exact ⟨⟨7, by omega, by go_num, ⟨n2.out.other (by omega)⟩, ⟨R3⟩, ⟨below_set n4.out (by omega)⟩⟩, rfl⟩)
        case measure => simp [intOf]
      · have hx := H3.out.cell 7 (by simp [HT.out])
        have hf := H3.out.fro 7
        have HV : Aside0 (gt T 7 = F (1) (0)) := ⟨HG2.out 7 (by omega)⟩
        go_wp2_with (go_at_call 64; refine (S1.out _ _ (by omega) (by omega) _).mono ?_; rintro e w4 ⟨rfl, hbb⟩; have n2 := Aside0.mk (H2.out.below hbb); have n3 := Aside0.mk (H3.out.below hbb); have n4 := Aside0.mk (below_step HB.out hbb); clear hx hf; have hx := n3.out.cell 7 (by simp [HT.out]); have hf := n3.out.fro 7; clear hbb)
        have R3 := n3.out.set 7 (gt T 7)
        rw [take_put T 9 7 HT.out (by omega), HV.out] at R3
        go_roundw
        case rel =>
          first
            | exact ⟨8, by omega, by go_num, ⟨n2.out.other (by omega)⟩, ⟨R3⟩, ⟨below_set n4.out (by omega)⟩⟩
            | ((repeat apply Exists.intro); exact ⟨⟨8, by omega, by go_num, ⟨n2.out.other (by omega)⟩, ⟨R3⟩, ⟨below_set n4.out (by omega)⟩⟩, rfl⟩)
        case measure => simp [intOf]
      · have hx := H3.out.cell 8 (by simp [HT.out])
        have hf := H3.out.fro 8
        have HV : Aside0 (gt T 8 = F (1) (1)) := ⟨HG2.out 8 (by omega)⟩
        go_wp2_with (go_at_call 64; refine (S1.out _ _ (by omega) (by omega) _).mono ?_; rintro e w4 ⟨rfl, hbb⟩; have n2 := Aside0.mk (H2.out.below hbb); have n3 := Aside0.mk (H3.out.below hbb); have n4 := Aside0.mk (below_step HB.out hbb); clear hx hf; have hx := n3.out.cell 8 (by simp [HT.out]); have hf := n3.out.fro 8; clear hbb)
        have R3 := n3.out.set 8 (gt T 8)
        rw [take_put T 9 8 HT.out (by omega), HV.out] at R3
        go_roundw
        case rel =>
          first
            | exact ⟨9, by omega, by go_num, ⟨n2.out.other (by omega)⟩, ⟨R3⟩, ⟨below_set n4.out (by omega)⟩⟩
            | ((repeat apply Exists.intro); exact ⟨⟨9, by omega, by go_num, ⟨n2.out.other (by omega)⟩, ⟨R3⟩, ⟨below_set n4.out (by omega)⟩⟩, rfl⟩)
        case measure => simp [intOf]
    · have hjn : j = 9 := by omega
      subst hjn
      have h3 := H3.out
      rw [List.take_of_length_le (by rw [HT.out]; exact Nat.le_refl _)] at h3
      simp only [Nat.sub_self, List.replicate_zero, List.append_nil] at h3
      have hsz : (T.map (Value.int .i64)).toArray.size = 9 := by simp [HT.out]
      have hi : (Try.prog.info? 24).map (·.size) = some (T.map (Value.int .i64)).toArray.size := by rw [hsz]; exact info24
      have hall : (T.map (Value.int .i64)).toArray.all (·.oneCell') = true := all_one _
      have HI := Aside0.mk hi
      have HA := Aside0.mk hall
      have HS := Aside0.mk hsz
      have HG := Aside0.mk h3
      clear hi hall hsz h3
      go_wp2_with (first | refine wpList_load_row rfl 24 _ rfl (w.heap.size + 1) rfl 24 (T.map (Value.int .i64)).toArray (0, 0) _ HG.out Try.underlying24 rfl HI.out ?_ | refine wpList_store_row rfl 24 _ _ rfl w.heap.size (T.map (Value.int .i64)).toArray rfl rfl 24 _ H2.out HI.out (by rw [HS.out]; rfl) HA.out ?_)
      have hr := Blk.setRow H2.out T
      exact bodyPost_ret (results_cell_row (ty := 24) rfl _ _ w.heap.size 24 _ (0, 0) _ rfl hr Try.underlying24 rfl HI.out) rfl ⟨rfl, belowRow HB.out (by omega) _⟩

set_option maxHeartbeats 2000000 in
theorem tab66 (F : Int → Int → Int) (hF : ∀ (a b : Int), -1 ≤ a ∧ a ≤ 1 → -1 ≤ b ∧ b ≤ 1 → ∀ w : World, Calls Try.prog 66 #[.int .i64 a, .int .i64 b] w fun e w' => e = .returned (.int .i64 (F a b)) ∧ Below w.heap.size w w') (w : World) :
    Calls Try.prog 55 #[.func (.func 66) #[] #[]] w fun e w' => e = .returned (.agg ((genL F).map (Value.int .i64)).toArray) ∧ Below w.heap.size w w' := by
  have S1 := Aside0.mk hF
  have HT := Aside0.mk (genL_len F)
  have HG2 := Aside0.mk (gt_genL F)
  obtain ⟨T, hT⟩ : ∃ T, T = genL F := ⟨_, rfl⟩
  rw [← hT] at HT HG2
  rw [← hT]
  clear hT hF
  go_enter Try.func55, Try.ntmps55
  go_wp2
  go_loopw [4, 5] (fun v4 v5 w' => ∃ j : Nat, j ≤ 9 ∧ v5 = .int .i64 j ∧ Aside0 (Blk w' w.heap.size 24 (List.replicate 9 0)) ∧ Aside0 (Blk w' (w.heap.size + 1) 24 (T.take j ++ List.replicate (9 - j) 0)) ∧ Aside0 (Below w.heap.size w w')) (fun _ v5 _ => 9 - (intOf v5).toNat)
  case atStart =>
    exact ⟨0, by omega, rfl, ⟨(Blk.made w 24 (List.replicate 9 0)).alloc _⟩, ⟨made1 w 24 _ (List.replicate 9 0)⟩, ⟨by repeat (first | exact Below.refl _ _ | apply below_alloc)⟩⟩
  case round =>
    obtain ⟨j, hj, rfl, H2, H3, HB⟩ := hrel
    by_cases hlt : j < 9
    · rcases (show j = 0 ∨ j = 1 ∨ j = 2 ∨ j = 3 ∨ j = 4 ∨ j = 5 ∨ j = 6 ∨ j = 7 ∨ j = 8 by omega) with rfl | rfl | rfl | rfl | rfl | rfl | rfl | rfl | rfl
      · have hx := H3.out.cell 0 (by simp [HT.out])
        have hf := H3.out.fro 0
        have HV : Aside0 (gt T 0 = F (-1) (-1)) := ⟨HG2.out 0 (by omega)⟩
        go_wp2_with (go_at_call 66; refine (S1.out _ _ (by omega) (by omega) _).mono ?_; rintro e w4 ⟨rfl, hbb⟩; have n2 := Aside0.mk (H2.out.below hbb); have n3 := Aside0.mk (H3.out.below hbb); have n4 := Aside0.mk (below_step HB.out hbb); clear hx hf; have hx := n3.out.cell 0 (by simp [HT.out]); have hf := n3.out.fro 0; clear hbb)
        have R3 := n3.out.set 0 (gt T 0)
        rw [take_put T 9 0 HT.out (by omega), HV.out] at R3
        go_roundw
        case rel =>
          first
            | exact ⟨1, by omega, by go_num, ⟨n2.out.other (by omega)⟩, ⟨R3⟩, ⟨below_set n4.out (by omega)⟩⟩
            | ((repeat apply Exists.intro); exact ⟨⟨1, by omega, by go_num, ⟨n2.out.other (by omega)⟩, ⟨R3⟩, ⟨below_set n4.out (by omega)⟩⟩, rfl⟩)
        case measure => simp [intOf]
      · have hx := H3.out.cell 1 (by simp [HT.out])
        have hf := H3.out.fro 1
        have HV : Aside0 (gt T 1 = F (-1) (0)) := ⟨HG2.out 1 (by omega)⟩
        go_wp2_with (go_at_call 66; refine (S1.out _ _ (by omega) (by omega) _).mono ?_; rintro e w4 ⟨rfl, hbb⟩; have n2 := Aside0.mk (H2.out.below hbb); have n3 := Aside0.mk (H3.out.below hbb); have n4 := Aside0.mk (below_step HB.out hbb); clear hx hf; have hx := n3.out.cell 1 (by simp [HT.out]); have hf := n3.out.fro 1; clear hbb)
        have R3 := n3.out.set 1 (gt T 1)
        rw [take_put T 9 1 HT.out (by omega), HV.out] at R3
        go_roundw
        case rel =>
          first
            | exact ⟨2, by omega, by go_num, ⟨n2.out.other (by omega)⟩, ⟨R3⟩, ⟨below_set n4.out (by omega)⟩⟩
            | ((repeat apply Exists.intro); exact ⟨⟨2, by omega, by go_num, ⟨n2.out.other (by omega)⟩, ⟨R3⟩, ⟨below_set n4.out (by omega)⟩⟩, rfl⟩)
        case measure => simp [intOf]
      · have hx := H3.out.cell 2 (by simp [HT.out])
        have hf := H3.out.fro 2
        have HV : Aside0 (gt T 2 = F (-1) (1)) := ⟨HG2.out 2 (by omega)⟩
        go_wp2_with (go_at_call 66; refine (S1.out _ _ (by omega) (by omega) _).mono ?_; rintro e w4 ⟨rfl, hbb⟩; have n2 := Aside0.mk (H2.out.below hbb); have n3 := Aside0.mk (H3.out.below hbb); have n4 := Aside0.mk (below_step HB.out hbb); clear hx hf; have hx := n3.out.cell 2 (by simp [HT.out]); have hf := n3.out.fro 2; clear hbb)
        have R3 := n3.out.set 2 (gt T 2)
        rw [take_put T 9 2 HT.out (by omega), HV.out] at R3
        go_roundw
        case rel =>
          first
            | exact ⟨3, by omega, by go_num, ⟨n2.out.other (by omega)⟩, ⟨R3⟩, ⟨below_set n4.out (by omega)⟩⟩
            | ((repeat apply Exists.intro); exact ⟨⟨3, by omega, by go_num, ⟨n2.out.other (by omega)⟩, ⟨R3⟩, ⟨below_set n4.out (by omega)⟩⟩, rfl⟩)
        case measure => simp [intOf]
      · have hx := H3.out.cell 3 (by simp [HT.out])
        have hf := H3.out.fro 3
        have HV : Aside0 (gt T 3 = F (0) (-1)) := ⟨HG2.out 3 (by omega)⟩
        go_wp2_with (go_at_call 66; refine (S1.out _ _ (by omega) (by omega) _).mono ?_; rintro e w4 ⟨rfl, hbb⟩; have n2 := Aside0.mk (H2.out.below hbb); have n3 := Aside0.mk (H3.out.below hbb); have n4 := Aside0.mk (below_step HB.out hbb); clear hx hf; have hx := n3.out.cell 3 (by simp [HT.out]); have hf := n3.out.fro 3; clear hbb)
        have R3 := n3.out.set 3 (gt T 3)
        rw [take_put T 9 3 HT.out (by omega), HV.out] at R3
        go_roundw
        case rel =>
          first
            | exact ⟨4, by omega, by go_num, ⟨n2.out.other (by omega)⟩, ⟨R3⟩, ⟨below_set n4.out (by omega)⟩⟩
            | ((repeat apply Exists.intro); exact ⟨⟨4, by omega, by go_num, ⟨n2.out.other (by omega)⟩, ⟨R3⟩, ⟨below_set n4.out (by omega)⟩⟩, rfl⟩)
        case measure => simp [intOf]
      · have hx := H3.out.cell 4 (by simp [HT.out])
        have hf := H3.out.fro 4
        have HV : Aside0 (gt T 4 = F (0) (0)) := ⟨HG2.out 4 (by omega)⟩
        go_wp2_with (go_at_call 66; refine (S1.out _ _ (by omega) (by omega) _).mono ?_; rintro e w4 ⟨rfl, hbb⟩; have n2 := Aside0.mk (H2.out.below hbb); have n3 := Aside0.mk (H3.out.below hbb); have n4 := Aside0.mk (below_step HB.out hbb); clear hx hf; have hx := n3.out.cell 4 (by simp [HT.out]); have hf := n3.out.fro 4; clear hbb)
        have R3 := n3.out.set 4 (gt T 4)
        rw [take_put T 9 4 HT.out (by omega), HV.out] at R3
        go_roundw
        case rel =>
          first
            | exact ⟨5, by omega, by go_num, ⟨n2.out.other (by omega)⟩, ⟨R3⟩, ⟨below_set n4.out (by omega)⟩⟩
            | ((repeat apply Exists.intro); exact ⟨⟨5, by omega, by go_num, ⟨n2.out.other (by omega)⟩, ⟨R3⟩, ⟨below_set n4.out (by omega)⟩⟩, rfl⟩)
        case measure => simp [intOf]
      · have hx := H3.out.cell 5 (by simp [HT.out])
        have hf := H3.out.fro 5
        have HV : Aside0 (gt T 5 = F (0) (1)) := ⟨HG2.out 5 (by omega)⟩
        go_wp2_with (go_at_call 66; refine (S1.out _ _ (by omega) (by omega) _).mono ?_; rintro e w4 ⟨rfl, hbb⟩; have n2 := Aside0.mk (H2.out.below hbb); have n3 := Aside0.mk (H3.out.below hbb); have n4 := Aside0.mk (below_step HB.out hbb); clear hx hf; have hx := n3.out.cell 5 (by simp [HT.out]); have hf := n3.out.fro 5; clear hbb)
        have R3 := n3.out.set 5 (gt T 5)
        rw [take_put T 9 5 HT.out (by omega), HV.out] at R3
        go_roundw
        case rel =>
          first
            | exact ⟨6, by omega, by go_num, ⟨n2.out.other (by omega)⟩, ⟨R3⟩, ⟨below_set n4.out (by omega)⟩⟩
            | ((repeat apply Exists.intro); exact ⟨⟨6, by omega, by go_num, ⟨n2.out.other (by omega)⟩, ⟨R3⟩, ⟨below_set n4.out (by omega)⟩⟩, rfl⟩)
        case measure => simp [intOf]
      · have hx := H3.out.cell 6 (by simp [HT.out])
        have hf := H3.out.fro 6
        have HV : Aside0 (gt T 6 = F (1) (-1)) := ⟨HG2.out 6 (by omega)⟩
        go_wp2_with (go_at_call 66; refine (S1.out _ _ (by omega) (by omega) _).mono ?_; rintro e w4 ⟨rfl, hbb⟩; have n2 := Aside0.mk (H2.out.below hbb); have n3 := Aside0.mk (H3.out.below hbb); have n4 := Aside0.mk (below_step HB.out hbb); clear hx hf; have hx := n3.out.cell 6 (by simp [HT.out]); have hf := n3.out.fro 6; clear hbb)
        have R3 := n3.out.set 6 (gt T 6)
        rw [take_put T 9 6 HT.out (by omega), HV.out] at R3
        go_roundw
        case rel =>
          first
            | exact ⟨7, by omega, by go_num, ⟨n2.out.other (by omega)⟩, ⟨R3⟩, ⟨below_set n4.out (by omega)⟩⟩
            | ((repeat apply Exists.intro); exact ⟨⟨7, by omega, by go_num, ⟨n2.out.other (by omega)⟩, ⟨R3⟩, ⟨below_set n4.out (by omega)⟩⟩, rfl⟩)
        case measure => simp [intOf]
      · have hx := H3.out.cell 7 (by simp [HT.out])
        have hf := H3.out.fro 7
        have HV : Aside0 (gt T 7 = F (1) (0)) := ⟨HG2.out 7 (by omega)⟩
        go_wp2_with (go_at_call 66; refine (S1.out _ _ (by omega) (by omega) _).mono ?_; rintro e w4 ⟨rfl, hbb⟩; have n2 := Aside0.mk (H2.out.below hbb); have n3 := Aside0.mk (H3.out.below hbb); have n4 := Aside0.mk (below_step HB.out hbb); clear hx hf; have hx := n3.out.cell 7 (by simp [HT.out]); have hf := n3.out.fro 7; clear hbb)
        have R3 := n3.out.set 7 (gt T 7)
        rw [take_put T 9 7 HT.out (by omega), HV.out] at R3
        go_roundw
        case rel =>
          first
            | exact ⟨8, by omega, by go_num, ⟨n2.out.other (by omega)⟩, ⟨R3⟩, ⟨below_set n4.out (by omega)⟩⟩
            | ((repeat apply Exists.intro); exact ⟨⟨8, by omega, by go_num, ⟨n2.out.other (by omega)⟩, ⟨R3⟩, ⟨below_set n4.out (by omega)⟩⟩, rfl⟩)
        case measure => simp [intOf]
      · have hx := H3.out.cell 8 (by simp [HT.out])
        have hf := H3.out.fro 8
        have HV : Aside0 (gt T 8 = F (1) (1)) := ⟨HG2.out 8 (by omega)⟩
        go_wp2_with (go_at_call 66; refine (S1.out _ _ (by omega) (by omega) _).mono ?_; rintro e w4 ⟨rfl, hbb⟩; have n2 := Aside0.mk (H2.out.below hbb); have n3 := Aside0.mk (H3.out.below hbb); have n4 := Aside0.mk (below_step HB.out hbb); clear hx hf; have hx := n3.out.cell 8 (by simp [HT.out]); have hf := n3.out.fro 8; clear hbb)
        have R3 := n3.out.set 8 (gt T 8)
        rw [take_put T 9 8 HT.out (by omega), HV.out] at R3
        go_roundw
        case rel =>
          first
            | exact ⟨9, by omega, by go_num, ⟨n2.out.other (by omega)⟩, ⟨R3⟩, ⟨below_set n4.out (by omega)⟩⟩
            | ((repeat apply Exists.intro); exact ⟨⟨9, by omega, by go_num, ⟨n2.out.other (by omega)⟩, ⟨R3⟩, ⟨below_set n4.out (by omega)⟩⟩, rfl⟩)
        case measure => simp [intOf]
    · have hjn : j = 9 := by omega
      subst hjn
      have h3 := H3.out
      rw [List.take_of_length_le (by rw [HT.out]; exact Nat.le_refl _)] at h3
      simp only [Nat.sub_self, List.replicate_zero, List.append_nil] at h3
      have hsz : (T.map (Value.int .i64)).toArray.size = 9 := by simp [HT.out]
      have hi : (Try.prog.info? 24).map (·.size) = some (T.map (Value.int .i64)).toArray.size := by rw [hsz]; exact info24
      have hall : (T.map (Value.int .i64)).toArray.all (·.oneCell') = true := all_one _
      have HI := Aside0.mk hi
      have HA := Aside0.mk hall
      have HS := Aside0.mk hsz
      have HG := Aside0.mk h3
      clear hi hall hsz h3
      go_wp2_with (first | refine wpList_load_row rfl 24 _ rfl (w.heap.size + 1) rfl 24 (T.map (Value.int .i64)).toArray (0, 0) _ HG.out Try.underlying24 rfl HI.out ?_ | refine wpList_store_row rfl 24 _ _ rfl w.heap.size (T.map (Value.int .i64)).toArray rfl rfl 24 _ H2.out HI.out (by rw [HS.out]; rfl) HA.out ?_)
      have hr := Blk.setRow H2.out T
      exact bodyPost_ret (results_cell_row (ty := 24) rfl _ _ w.heap.size 24 _ (0, 0) _ rfl hr Try.underlying24 rfl HI.out) rfl ⟨rfl, belowRow HB.out (by omega) _⟩

end Go.Proofs.Ytegknmpphbkgpaa.HY
