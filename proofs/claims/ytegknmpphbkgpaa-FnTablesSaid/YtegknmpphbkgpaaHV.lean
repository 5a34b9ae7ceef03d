/- What the program's TableOf answers. -/
import Derived.Test.YtegknmpphbkgpaaProg
import Derived.Below
import Derived.WalkSpells
import Derived.Deep.Draws
import Derived.Deep.AppendLies
import Derived.Maps.AppendAt
import Derived.OwnWalk
import Derived.Laws.BytesArg
import Derived.Laws.MakeOwn
import Derived.Laws.OwnMore
import Derived.Deep.OwnRows
import Derived.Tactics
import Derived.Lib.ConvBytes
import Derived.Laws.Slices
import Derived.WalkKit
import Derived.KernelRfl
import Derived.RowKit3
import Derived.Deep.LoopGhost
import Derived.Deep.QuietTactic
import Derived.BigQuiet
import Derived.WideLaws
import Derived.Deep.DeepCutAuto
import Derived.Deep.CutBlock
import Derived.Deep.RegionHeld3
import Derived.Laws.Rows
import Derived.Lib.AppendStr
import Derived.ArgAppend
import Derived.Laws.IdiomCopy
import Derived.OrdersHeld
import Derived.Laws.BitsLemmas
import Derived.RowKit
import Derived.Test.YtegknmpphbkgpaaWWords
import Derived.Test.YtegknmpphbkgpaaWLast
import Derived.Test.YtegknmpphbkgpaaWTab
import Derived.Test.YtegknmpphbkgpaaWFour
import Derived.Test.YtegknmpphbkgpaaWQPut
import Derived.Test.YtegknmpphbkgpaaWApart
import Derived.Test.YtegknmpphbkgpaaWArr
import Derived.Test.YtegknmpphbkgpaaWZeros
import Derived.Test.YtegknmpphbkgpaaWFoot
import Derived.Test.YtegknmpphbkgpaaWKept
import Derived.Test.YtegknmpphbkgpaaWShare
import Derived.Test.YtegknmpphbkgpaaWN
import Derived.Test.YtegknmpphbkgpaaWFootNe
import Derived.Test.YtegknmpphbkgpaaWAt
import Derived.Test.YtegknmpphbkgpaaWEqStruct
import Derived.Test.YtegknmpphbkgpaaWRepsOne
import Derived.Test.YtegknmpphbkgpaaWInv
import Derived.Test.YtegknmpphbkgpaaWInvWords
import Derived.Test.YtegknmpphbkgpaaWGuard
import Derived.Test.YtegknmpphbkgpaaWNEv
import Derived.Test.YtegknmpphbkgpaaWMore
import Derived.Test.YtegknmpphbkgpaaHZ
import Derived.Test.YtegknmpphbkgpaaHY
set_option linter.unusedVariables false
set_option linter.unusedSimpArgs false
namespace Go.Proofs.Ytegknmpphbkgpaa.HV
open Go.RowKit Go.Proofs.YtegknmpphbkgpaaW.PrintWords Go.Proofs.YtegknmpphbkgpaaW.PrintLast Go.Proofs.YtegknmpphbkgpaaW.PrintMore Go.Proofs.Ytegknmpphbkgpaa.HA Go.Proofs.Ytegknmpphbkgpaa.HL Go.Proofs.Ytegknmpphbkgpaa.HM Go.Proofs.Ytegknmpphbkgpaa.HK Go.Proofs.Ytegknmpphbkgpaa.HD Go.Proofs.Ytegknmpphbkgpaa.HW Go.Proofs.Ytegknmpphbkgpaa.HZ Go.Proofs.Ytegknmpphbkgpaa.HY Go.Proofs.Ytegknmpphbkgpaa.PFnExactTableOf
theorem val_none (s : ByteArray) (h1 : s.toList ≠ ([109, 105, 110] : List UInt8)) (h2 : s.toList ≠ ([109, 97, 120] : List UInt8)) (h3 : s.toList ≠ ([97, 103, 114, 101, 101] : List UInt8)) (h4 : s.toList ≠ ([97, 110, 121] : List UInt8)) (h5 : s.toList ≠ ([116, 105, 109, 101, 115] : List UInt8)) (h6 : s.toList ≠ ([115, 117, 109] : List UInt8)) (h7 : s.toList ≠ ([99, 97, 114, 114, 121] : List UInt8)) (a b : Int) (ha : -1 ≤ a ∧ a ≤ 1) (hb : -1 ≤ b ∧ b ≤ 1) : valF s a b = 0 := by
  unfold valF spec_l1Value.f
  rw [half_some a b ha hb]
  simp only [Option.bind_some, if_neg h1, if_neg h2, if_neg h3, if_neg h4, if_neg h5, if_neg h6, if_neg h7]
  rfl
set_option maxHeartbeats 2000000 in
theorem iTableOf (s : ByteArray) (w : World) :
    Calls Try.prog 38 #[.string s] w fun e w' => e = .returned (.agg ((genL (valF s)).map (Value.int .i64)).toArray) ∧ Below w.heap.size w w' := by
  have HT := Aside0.mk (genL_len (valF s))
  have H1 := Aside0.mk (Blk.made w 24 (List.replicate 9 0))
  have HB := Aside0.mk (below_alloc (Below.refl w.heap.size w) (Obj.cells (List.map (Value.int IntKind.i64) (List.replicate 9 0)).toArray 24))
  by_cases c0 : s.toList = ([109, 105, 110] : List UInt8)
  · have S1 := Aside0.mk (tab59 (valF s) (two59 s c0))
    obtain ⟨T, hT⟩ : ∃ T, T = genL (valF s) := ⟨_, rfl⟩
    rw [← hT] at S1 HT
    rw [← hT]
    have e0 : (s.toList == ([109, 105, 110] : List UInt8)) = true := beq_iff_eq.mpr c0
    have HI := Aside0.mk (show (Try.prog.info? 24).map (·.size) = some (T.map (Value.int .i64)).toArray.size by rw [info24]; simp [HT.out])
    have HS := Aside0.mk (show (T.map (Value.int .i64)).toArray.size = 9 by simp [HT.out])
    have HA := Aside0.mk (all_one T)
    clear hT c0
    go_enter Try.func38, Try.ntmps38
    go_wp2_with (first | (go_at_call 55; refine (S1.out _).mono ?_; rintro e w1 ⟨rfl, hb⟩; have K1 := Aside0.mk (H1.out.below hb); have HB2 := Aside0.mk (below_step HB.out hb); clear hb) | refine wpList_store_row rfl 24 _ _ rfl w.heap.size (T.map (Value.int .i64)).toArray rfl rfl 24 _ K1.out HI.out (by rw [HS.out]; rfl) HA.out ?_)
    have hr := Blk.setRow K1.out T
    exact bodyPost_ret (results_cell_row (ty := 24) rfl _ _ w.heap.size 24 _ (0, 0) _ rfl hr Try.underlying24 rfl HI.out) rfl ⟨rfl, belowRow HB2.out (by omega) _⟩
  · skip
    by_cases c1 : s.toList = ([109, 97, 120] : List UInt8)
    · have S1 := Aside0.mk (tab60 (valF s) (two60 s c1))
      obtain ⟨T, hT⟩ : ∃ T, T = genL (valF s) := ⟨_, rfl⟩
      rw [← hT] at S1 HT
      rw [← hT]
      have e1 : (s.toList == ([109, 97, 120] : List UInt8)) = true := beq_iff_eq.mpr c1
      have e0 : (s.toList == ([109, 105, 110] : List UInt8)) = false := beq_eq_false_iff_ne.mpr c0
      have HI := Aside0.mk (show (Try.prog.info? 24).map (·.size) = some (T.map (Value.int .i64)).toArray.size by rw [info24]; simp [HT.out])
      have HS := Aside0.mk (show (T.map (Value.int .i64)).toArray.size = 9 by simp [HT.out])
      have HA := Aside0.mk (all_one T)
      clear hT c0 c1
      go_enter Try.func38, Try.ntmps38
      go_wp2_with (first | (go_at_call 55; refine (S1.out _).mono ?_; rintro e w1 ⟨rfl, hb⟩; have K1 := Aside0.mk (H1.out.below hb); have HB2 := Aside0.mk (below_step HB.out hb); clear hb) | refine wpList_store_row rfl 24 _ _ rfl w.heap.size (T.map (Value.int .i64)).toArray rfl rfl 24 _ K1.out HI.out (by rw [HS.out]; rfl) HA.out ?_)
      have hr := Blk.setRow K1.out T
      exact bodyPost_ret (results_cell_row (ty := 24) rfl _ _ w.heap.size 24 _ (0, 0) _ rfl hr Try.underlying24 rfl HI.out) rfl ⟨rfl, belowRow HB2.out (by omega) _⟩
    · skip
      by_cases c2 : s.toList = ([97, 103, 114, 101, 101] : List UInt8)
      · have S1 := Aside0.mk (tab61 (valF s) (two61 s c2))
        obtain ⟨T, hT⟩ : ∃ T, T = genL (valF s) := ⟨_, rfl⟩
        rw [← hT] at S1 HT
        rw [← hT]
        have e2 : (s.toList == ([97, 103, 114, 101, 101] : List UInt8)) = true := beq_iff_eq.mpr c2
        have e0 : (s.toList == ([109, 105, 110] : List UInt8)) = false := beq_eq_false_iff_ne.mpr c0
        have e1 : (s.toList == ([109, 97, 120] : List UInt8)) = false := beq_eq_false_iff_ne.mpr c1
        have HI := Aside0.mk (show (Try.prog.info? 24).map (·.size) = some (T.map (Value.int .i64)).toArray.size by rw [info24]; simp [HT.out])
        have HS := Aside0.mk (show (T.map (Value.int .i64)).toArray.size = 9 by simp [HT.out])
        have HA := Aside0.mk (all_one T)
        clear hT c0 c1 c2
        go_enter Try.func38, Try.ntmps38
        go_wp2_with (first | (go_at_call 55; refine (S1.out _).mono ?_; rintro e w1 ⟨rfl, hb⟩; have K1 := Aside0.mk (H1.out.below hb); have HB2 := Aside0.mk (below_step HB.out hb); clear hb) | refine wpList_store_row rfl 24 _ _ rfl w.heap.size (T.map (Value.int .i64)).toArray rfl rfl 24 _ K1.out HI.out (by rw [HS.out]; rfl) HA.out ?_)
        have hr := Blk.setRow K1.out T
        exact bodyPost_ret (results_cell_row (ty := 24) rfl _ _ w.heap.size 24 _ (0, 0) _ rfl hr Try.underlying24 rfl HI.out) rfl ⟨rfl, belowRow HB2.out (by omega) _⟩
      · skip
        by_cases c3 : s.toList = ([97, 110, 121] : List UInt8)
        · have S1 := Aside0.mk (tab62 (valF s) (two62 s c3))
          obtain ⟨T, hT⟩ : ∃ T, T = genL (valF s) := ⟨_, rfl⟩
          rw [← hT] at S1 HT
          rw [← hT]
          have e3 : (s.toList == ([97, 110, 121] : List UInt8)) = true := beq_iff_eq.mpr c3
          have e0 : (s.toList == ([109, 105, 110] : List UInt8)) = false := beq_eq_false_iff_ne.mpr c0
          have e1 : (s.toList == ([109, 97, 120] : List UInt8)) = false := beq_eq_false_iff_ne.mpr c1
          have e2 : (s.toList == ([97, 103, 114, 101, 101] : List UInt8)) = false := beq_eq_false_iff_ne.mpr c2
          have HI := Aside0.mk (show (Try.prog.info? 24).map (·.size) = some (T.map (Value.int .i64)).toArray.size by rw [info24]; simp [HT.out])
          have HS := Aside0.mk (show (T.map (Value.int .i64)).toArray.size = 9 by simp [HT.out])
          have HA := Aside0.mk (all_one T)
          clear hT c0 c1 c2 c3
          go_enter Try.func38, Try.ntmps38
          go_wp2_with (first | (go_at_call 55; refine (S1.out _).mono ?_; rintro e w1 ⟨rfl, hb⟩; have K1 := Aside0.mk (H1.out.below hb); have HB2 := Aside0.mk (below_step HB.out hb); clear hb) | refine wpList_store_row rfl 24 _ _ rfl w.heap.size (T.map (Value.int .i64)).toArray rfl rfl 24 _ K1.out HI.out (by rw [HS.out]; rfl) HA.out ?_)
          have hr := Blk.setRow K1.out T
          exact bodyPost_ret (results_cell_row (ty := 24) rfl _ _ w.heap.size 24 _ (0, 0) _ rfl hr Try.underlying24 rfl HI.out) rfl ⟨rfl, belowRow HB2.out (by omega) _⟩
        · skip
          by_cases c4 : s.toList = ([116, 105, 109, 101, 115] : List UInt8)
          · have S1 := Aside0.mk (tab63 (valF s) (two63 s c4))
            obtain ⟨T, hT⟩ : ∃ T, T = genL (valF s) := ⟨_, rfl⟩
            rw [← hT] at S1 HT
            rw [← hT]
            have e4 : (s.toList == ([116, 105, 109, 101, 115] : List UInt8)) = true := beq_iff_eq.mpr c4
            have e0 : (s.toList == ([109, 105, 110] : List UInt8)) = false := beq_eq_false_iff_ne.mpr c0
            have e1 : (s.toList == ([109, 97, 120] : List UInt8)) = false := beq_eq_false_iff_ne.mpr c1
            have e2 : (s.toList == ([97, 103, 114, 101, 101] : List UInt8)) = false := beq_eq_false_iff_ne.mpr c2
            have e3 : (s.toList == ([97, 110, 121] : List UInt8)) = false := beq_eq_false_iff_ne.mpr c3
            have HI := Aside0.mk (show (Try.prog.info? 24).map (·.size) = some (T.map (Value.int .i64)).toArray.size by rw [info24]; simp [HT.out])
            have HS := Aside0.mk (show (T.map (Value.int .i64)).toArray.size = 9 by simp [HT.out])
            have HA := Aside0.mk (all_one T)
            clear hT c0 c1 c2 c3 c4
            go_enter Try.func38, Try.ntmps38
            go_wp2_with (first | (go_at_call 55; refine (S1.out _).mono ?_; rintro e w1 ⟨rfl, hb⟩; have K1 := Aside0.mk (H1.out.below hb); have HB2 := Aside0.mk (below_step HB.out hb); clear hb) | refine wpList_store_row rfl 24 _ _ rfl w.heap.size (T.map (Value.int .i64)).toArray rfl rfl 24 _ K1.out HI.out (by rw [HS.out]; rfl) HA.out ?_)
            have hr := Blk.setRow K1.out T
            exact bodyPost_ret (results_cell_row (ty := 24) rfl _ _ w.heap.size 24 _ (0, 0) _ rfl hr Try.underlying24 rfl HI.out) rfl ⟨rfl, belowRow HB2.out (by omega) _⟩
          · skip
            by_cases c5 : s.toList = ([115, 117, 109] : List UInt8)
            · have S1 := Aside0.mk (tab64 (valF s) (two64 s c5))
              obtain ⟨T, hT⟩ : ∃ T, T = genL (valF s) := ⟨_, rfl⟩
              rw [← hT] at S1 HT
              rw [← hT]
              have e5 : (s.toList == ([115, 117, 109] : List UInt8)) = true := beq_iff_eq.mpr c5
              have e0 : (s.toList == ([109, 105, 110] : List UInt8)) = false := beq_eq_false_iff_ne.mpr c0
              have e1 : (s.toList == ([109, 97, 120] : List UInt8)) = false := beq_eq_false_iff_ne.mpr c1
              have e2 : (s.toList == ([97, 103, 114, 101, 101] : List UInt8)) = false := beq_eq_false_iff_ne.mpr c2
              have e3 : (s.toList == ([97, 110, 121] : List UInt8)) = false := beq_eq_false_iff_ne.mpr c3
              have e4 : (s.toList == ([116, 105, 109, 101, 115] : List UInt8)) = false := beq_eq_false_iff_ne.mpr c4
              have HI := Aside0.mk (show (Try.prog.info? 24).map (·.size) = some (T.map (Value.int .i64)).toArray.size by rw [info24]; simp [HT.out])
              have HS := Aside0.mk (show (T.map (Value.int .i64)).toArray.size = 9 by simp [HT.out])
              have HA := Aside0.mk (all_one T)
              clear hT c0 c1 c2 c3 c4 c5
              go_enter Try.func38, Try.ntmps38
              go_wp2_with (first | (go_at_call 55; refine (S1.out _).mono ?_; rintro e w1 ⟨rfl, hb⟩; have K1 := Aside0.mk (H1.out.below hb); have HB2 := Aside0.mk (below_step HB.out hb); clear hb) | refine wpList_store_row rfl 24 _ _ rfl w.heap.size (T.map (Value.int .i64)).toArray rfl rfl 24 _ K1.out HI.out (by rw [HS.out]; rfl) HA.out ?_)
              have hr := Blk.setRow K1.out T
              exact bodyPost_ret (results_cell_row (ty := 24) rfl _ _ w.heap.size 24 _ (0, 0) _ rfl hr Try.underlying24 rfl HI.out) rfl ⟨rfl, belowRow HB2.out (by omega) _⟩
            · skip
              by_cases c6 : s.toList = ([99, 97, 114, 114, 121] : List UInt8)
              · have S1 := Aside0.mk (tab66 (valF s) (two66 s c6))
                obtain ⟨T, hT⟩ : ∃ T, T = genL (valF s) := ⟨_, rfl⟩
                rw [← hT] at S1 HT
                rw [← hT]
                have e6 : (s.toList == ([99, 97, 114, 114, 121] : List UInt8)) = true := beq_iff_eq.mpr c6
                have e0 : (s.toList == ([109, 105, 110] : List UInt8)) = false := beq_eq_false_iff_ne.mpr c0
                have e1 : (s.toList == ([109, 97, 120] : List UInt8)) = false := beq_eq_false_iff_ne.mpr c1
                have e2 : (s.toList == ([97, 103, 114, 101, 101] : List UInt8)) = false := beq_eq_false_iff_ne.mpr c2
                have e3 : (s.toList == ([97, 110, 121] : List UInt8)) = false := beq_eq_false_iff_ne.mpr c3
                have e4 : (s.toList == ([116, 105, 109, 101, 115] : List UInt8)) = false := beq_eq_false_iff_ne.mpr c4
                have e5 : (s.toList == ([115, 117, 109] : List UInt8)) = false := beq_eq_false_iff_ne.mpr c5
                have HI := Aside0.mk (show (Try.prog.info? 24).map (·.size) = some (T.map (Value.int .i64)).toArray.size by rw [info24]; simp [HT.out])
                have HS := Aside0.mk (show (T.map (Value.int .i64)).toArray.size = 9 by simp [HT.out])
                have HA := Aside0.mk (all_one T)
                clear hT c0 c1 c2 c3 c4 c5 c6
                go_enter Try.func38, Try.ntmps38
                go_wp2_with (first | (go_at_call 55; refine (S1.out _).mono ?_; rintro e w1 ⟨rfl, hb⟩; have K1 := Aside0.mk (H1.out.below hb); have HB2 := Aside0.mk (below_step HB.out hb); clear hb) | refine wpList_store_row rfl 24 _ _ rfl w.heap.size (T.map (Value.int .i64)).toArray rfl rfl 24 _ K1.out HI.out (by rw [HS.out]; rfl) HA.out ?_)
                have hr := Blk.setRow K1.out T
                exact bodyPost_ret (results_cell_row (ty := 24) rfl _ _ w.heap.size 24 _ (0, 0) _ rfl hr Try.underlying24 rfl HI.out) rfl ⟨rfl, belowRow HB2.out (by omega) _⟩
              · skip
                have hz : genL (valF s) = List.replicate 9 0 := by
                  have h := val_none s c0 c1 c2 c3 c4 c5 c6
                  apply List.ext_getElem
                  · rw [genL_len]; simp
                  · intro k h1 h2
                    have hk : k < 9 := by simpa using h2
                    simp only [genL, List.getElem_map, List.getElem_range, List.getElem_replicate]
                    exact h _ _ (by omega) (by omega)
                rw [hz]
                have e0 : (s.toList == ([109, 105, 110] : List UInt8)) = false := beq_eq_false_iff_ne.mpr c0
                have e1 : (s.toList == ([109, 97, 120] : List UInt8)) = false := beq_eq_false_iff_ne.mpr c1
                have e2 : (s.toList == ([97, 103, 114, 101, 101] : List UInt8)) = false := beq_eq_false_iff_ne.mpr c2
                have e3 : (s.toList == ([97, 110, 121] : List UInt8)) = false := beq_eq_false_iff_ne.mpr c3
                have e4 : (s.toList == ([116, 105, 109, 101, 115] : List UInt8)) = false := beq_eq_false_iff_ne.mpr c4
                have e5 : (s.toList == ([115, 117, 109] : List UInt8)) = false := beq_eq_false_iff_ne.mpr c5
                have e6 : (s.toList == ([99, 97, 114, 114, 121] : List UInt8)) = false := beq_eq_false_iff_ne.mpr c6
                have HIZ := Aside0.mk (show (Try.prog.info? 24).map (·.size) = some ((List.replicate 9 0).map (Value.int .i64)).toArray.size from info24)
                clear hz c0 c1 c2 c3 c4 c5 c6
                go_enter Try.func38, Try.ntmps38
                go_wp2
                exact bodyPost_ret (results_cell_row (ty := 24) rfl _ _ w.heap.size 24 ((List.replicate 9 0).map (Value.int .i64)).toArray (0, 0) _ rfl H1.out Try.underlying24 rfl HIZ.out) rfl ⟨rfl, HB.out⟩
end Go.Proofs.Ytegknmpphbkgpaa.HV
