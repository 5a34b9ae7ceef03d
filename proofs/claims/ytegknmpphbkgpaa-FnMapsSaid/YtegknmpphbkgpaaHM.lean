/- MapOf of program and reference answer the same carry map. No condition. -/
import Derived.Test.YtegknmpphbkgpaaProg
import Derived.Below
import Derived.WalkSpells
import Derived.Deep.Draws
import Derived.Deep.AppendLies
import Derived.Maps.AppendAt
import Derived.OwnWalk
import Derived.Laws.BytesArg
import Derived.Laws.MakeOwn
import Derived.Laws.OwnMore
import Derived.Deep.OwnRows
import Derived.Tactics
import Derived.Lib.ConvBytes
import Derived.Laws.Slices
import Derived.WalkKit
import Derived.KernelRfl
import Derived.RowKit3
import Derived.Deep.LoopGhost
import Derived.Deep.QuietTactic
import Derived.BigQuiet
import Derived.WideLaws
import Derived.Deep.DeepCutAuto
import Derived.Deep.CutBlock
import Derived.Deep.RegionHeld3
import Derived.Laws.Rows
import Derived.Lib.AppendStr
import Derived.ArgAppend
import Derived.Laws.IdiomCopy
import Derived.OrdersHeld
import Derived.Laws.BitsLemmas
import Derived.RowKit
import Derived.Test.YtegknmpphbkgpaaWWords
import Derived.Test.YtegknmpphbkgpaaWLast
import Derived.Test.YtegknmpphbkgpaaWTab
import Derived.Test.YtegknmpphbkgpaaWFour
import Derived.Test.YtegknmpphbkgpaaWQPut
import Derived.Test.YtegknmpphbkgpaaWApart
import Derived.Test.YtegknmpphbkgpaaWArr
import Derived.Test.YtegknmpphbkgpaaWZeros
import Derived.Test.YtegknmpphbkgpaaWFoot
import Derived.Test.YtegknmpphbkgpaaWKept
import Derived.Test.YtegknmpphbkgpaaWShare
import Derived.Test.YtegknmpphbkgpaaWN
import Derived.Test.YtegknmpphbkgpaaWFootNe
import Derived.Test.YtegknmpphbkgpaaWAt
import Derived.Test.YtegknmpphbkgpaaWEqStruct
import Derived.Test.YtegknmpphbkgpaaWRepsOne
import Derived.Test.YtegknmpphbkgpaaWInv
import Derived.Test.YtegknmpphbkgpaaWInvWords
import Derived.Test.YtegknmpphbkgpaaWGuard
import Derived.Test.YtegknmpphbkgpaaWNEv
import Derived.Test.YtegknmpphbkgpaaWMore
import Derived.Test.YtegknmpphbkgpaaHL
set_option linter.unusedVariables false
set_option linter.unusedSimpArgs false
namespace Go.Proofs.Ytegknmpphbkgpaa.HM
open Go.RowKit Go.Proofs.YtegknmpphbkgpaaW.PrintWords Go.Proofs.YtegknmpphbkgpaaW.PrintLast Go.Proofs.YtegknmpphbkgpaaW.PrintMore Go.Proofs.Ytegknmpphbkgpaa.HA Go.Proofs.Ytegknmpphbkgpaa.HL Go.Proofs.Ytegknmpphbkgpaa.PFnExactMapOf
/-- The trit of a small number, and the carry. -/
def crd (n : Int) : Int × Int := if n > 1 then (n - 3, 1) else if n < -1 then (n + 3, -1) else (n, 0)
theorem impl_carried_t (n : Int) (h : -1000 ≤ n ∧ n ≤ 1000) : impl_carried.f n = some (crd n) := by
  unfold impl_carried.f crd
  by_cases h1 : n > 1
  · rw [if_pos h1, if_pos h1, wr (by omega) (by omega)]
  · rw [if_neg h1, if_neg h1]
    by_cases h2 : n < -1
    · rw [if_pos h2, if_pos h2, wr (by omega) (by omega)]
    · rw [if_neg h2, if_neg h2]
theorem spec_l1Parts_1a (n c : Int) (k : Nat) (hk : 1 < k) (h : ¬ n < -1) : spec_l1Parts.l1 k n c = some (n, c) := by
  obtain ⟨k, rfl⟩ : ∃ m, k = m + 1 := ⟨k - 1, by omega⟩
  simp only [spec_l1Parts.l1]; rw [if_neg h]
theorem spec_l1Parts_1b (n c : Int) (k : Nat) (hk : 2 < k) (h : n < -1) (hn : -4 ≤ n) (hc : -5 ≤ c ∧ c ≤ 5) : spec_l1Parts.l1 k n c = some (n + 3, c - 1) := by
  obtain ⟨k, rfl⟩ : ∃ m, k = m + 1 := ⟨k - 1, by omega⟩
  simp only [spec_l1Parts.l1]; rw [if_pos h, wr (by omega) (by omega), wr (by omega) (by omega)]
  exact spec_l1Parts_1a _ _ _ (by omega) (by omega)
theorem spec_l1Parts_t (k : Nat) (hk : 5 < k) (n : Int) (h : -4 ≤ n ∧ n ≤ 4) : spec_l1Parts.f k n = some (crd n) := by
  unfold spec_l1Parts.f crd
  obtain ⟨k, rfl⟩ : ∃ m, k = m + 1 := ⟨k - 1, by omega⟩
  simp only [spec_l1Parts.l0]
  by_cases h1 : n > 1
  · rw [if_pos h1, if_pos h1, wr (by omega) (by omega), wr (by omega) (by omega)]
    obtain ⟨k, rfl⟩ : ∃ m, k = m + 1 := ⟨k - 1, by omega⟩
    simp only [spec_l1Parts.l0]
    rw [if_neg (by omega)]
    exact spec_l1Parts_1a _ _ _ (by omega) (by omega)
  · rw [if_neg h1, if_neg h1]
    by_cases h2 : n < -1
    · rw [if_pos h2]; exact spec_l1Parts_1b _ _ _ (by omega) h2 (by omega) (by omega)
    · rw [if_neg h2]; exact spec_l1Parts_1a _ _ _ (by omega) h2
theorem spec_FullAdd_t (k : Nat) (a b c : Int) (ha : -1 ≤ a ∧ a ≤ 1) (hb : -1 ≤ b ∧ b ≤ 1) (hc : -1 ≤ c ∧ c ≤ 1) (hk : 8 < k) : spec_FullAdd.f k a b c = some (crd (a + b + c)) := by
  unfold spec_FullAdd.f
  rw [spec_l1Two_t, spec_IsTrit_t]
  simp only [Option.bind_some, isT_iff.mpr ha, isT_iff.mpr hb, isT_iff.mpr hc, Bool.and_true, if_true]
  rw [wr (x := a + b) (by omega) (by omega), wr (by omega) (by omega), spec_l1Parts_t _ (by omega) _ (by omega)]; rfl
theorem impl_FullAdd_t (k : Nat) (a b c : Int) (ha : -1 ≤ a ∧ a ≤ 1) (hb : -1 ≤ b ∧ b ≤ 1) (hc : -1 ≤ c ∧ c ≤ 1) (hk : 5 < k) : impl_FullAdd.f k a b c = some (crd (a + b + c)) := by
  unfold impl_FullAdd.f
  rw [impl_trits_t k _ (by simp) (by simp; omega)]
  simp only [List.all_cons, List.all_nil, Bool.and_true, Option.bind_some, isT_iff.mpr ha, isT_iff.mpr hb, isT_iff.mpr hc, if_true]
  rw [wr (x := a + b) (by omega) (by omega), wr (by omega) (by omega), impl_carried_t _ (by omega)]; rfl
theorem crd_trit (n : Int) (h : -3 ≤ n ∧ n ≤ 3) : (-1 ≤ (crd n).1 ∧ (crd n).1 ≤ 1) ∧ (-1 ≤ (crd n).2 ∧ (crd n).2 ≤ 1) := by
  unfold crd; split
  · simp; omega
  · split <;> simp <;> omega
/-- What FullAdd answers. -/
def fa (a b c : Int) : Int × Int := if isT a && isT b && isT c then crd (a + b + c) else (0, 0)
theorem spec_FullAdd_all (a b c : Int) : spec_FullAdd.f 9 a b c = some (fa a b c) := by
  by_cases h : (isT a && isT b && isT c) = true
  · have h1 : (isT a = true ∧ isT b = true) ∧ isT c = true := by simpa using h
    unfold fa; rw [if_pos h]
    exact spec_FullAdd_t 9 a b c (isT_iff.mp h1.1.1) (isT_iff.mp h1.1.2) (isT_iff.mp h1.2) (by omega)
  · unfold fa; rw [if_neg h]
    unfold spec_FullAdd.f
    rw [spec_l1Two_t, spec_IsTrit_t]
    cases ha : isT a <;> cases hb : isT b <;> cases hc : isT c <;> simp_all
theorem impl_FullAdd_all (a b c : Int) : impl_FullAdd.f 9 a b c = some (fa a b c) := by
  by_cases h : (isT a && isT b && isT c) = true
  · have h1 : (isT a = true ∧ isT b = true) ∧ isT c = true := by simpa using h
    unfold fa; rw [if_pos h]
    exact impl_FullAdd_t 9 a b c (isT_iff.mp h1.1.1) (isT_iff.mp h1.1.2) (isT_iff.mp h1.2) (by omega)
  · unfold fa; rw [if_neg h]
    unfold impl_FullAdd.f
    rw [impl_trits_t 9 _ (by simp) (by simp)]
    simp only [List.all_cons, List.all_nil, Bool.and_true, Option.bind_some]
    cases ha : isT a <;> cases hb : isT b <;> cases hc : isT c <;> simp_all
theorem sFull (a b c : Int) (w : World) : Calls Try.prog 53 #[.int .i64 a, .int .i64 b, .int .i64 c] w fun e w' => e = .returned (.tuple #[.int .i64 (fa a b c).1, .int .i64 (fa a b c).2]) ∧ Drawn0 w w' := spec_FullAdd.calls 9 a b c _ _ w (spec_FullAdd_all a b c)
theorem iFull (a b c : Int) (w : World) : Calls Try.prog 54 #[.int .i64 a, .int .i64 b, .int .i64 c] w fun e w' => e = .returned (.tuple #[.int .i64 (fa a b c).1, .int .i64 (fa a b c).2]) ∧ Below w.heap.size w w' := impl_FullAdd.calls 9 a b c _ _ w (impl_FullAdd_all a b c)
/-- The carry map of two numbers. -/
def mapL (a b : Int) : List Int := [(fa a b (-1)).2, (fa a b 0).2, (fa a b 1).2]
theorem gt_mapL (a b : Int) (j : Nat) (hj : j < 3) : gt (mapL a b) j = (fa a b ((j : Int) - 1)).2 := by
  match j, hj with
  | 0, _ => rfl
  | 1, _ => rfl
  | 2, _ => rfl
set_option maxHeartbeats 1000000 in
theorem iMapOf (a b : Int) (w : World) :
    Calls Try.prog 32 #[.int .i64 a, .int .i64 b] w fun e w' => e = .returned (.agg ((mapL a b).map (Value.int .i64)).toArray) ∧ Below w.heap.size w w' := by
  go_enter Try.func32, Try.ntmps32
  go_wp2
  go_loopw [6, 7] (fun v6 v7 w' => ∃ j : Nat, j ≤ 3 ∧ v7 = .int .i64 j ∧ Aside0 (Blk w' w.heap.size 30 (List.replicate 3 0)) ∧ Aside0 (Blk w' (w.heap.size + 1) 30 ((mapL a b).take j ++ List.replicate (3 - j) 0)) ∧ Aside0 (Below w.heap.size w w')) (fun _ v7 _ => 3 - (intOf v7).toNat)
  case atStart =>
    refine ⟨0, by omega, rfl, ⟨(Blk.made w 30 (List.replicate 3 0)).alloc _⟩, ⟨?_⟩, ⟨below_alloc (below_alloc (Below.refl _ _) _) _⟩⟩
    have := Blk.made (w.alloc (Obj.cells (List.map (Value.int IntKind.i64) (List.replicate 3 0)).toArray 30)) 30 (List.replicate 3 0)
    rw [alloc_size] at this
    exact this
  case round =>
    obtain ⟨j, hj, rfl, H1, H2, HB⟩ := hrel
    by_cases hlt : j < 3
    · go_wp2_with (go_at_call 54; refine (iFull _ _ _ _).mono ?_; rintro e w4 ⟨rfl, hb⟩; have n1 := Aside0.mk (H1.out.below hb); have n2 := Aside0.mk (H2.out.below hb); have n3 := Aside0.mk (below_step HB.out hb); have hy := n2.out.cell j (by simp [mapL]; omega); have hf := n2.out.fro j; clear hb)
      go_roundw
      case rel =>
        refine ⟨j + 1, by omega, by simp, ⟨n1.out.other (by omega)⟩, ⟨?_⟩, ⟨below_set n3.out (by omega)⟩⟩
        have := n2.out.set j (gt (mapL a b) j)
        rw [take_put (mapL a b) 3 j rfl hlt] at this
        rwa [gt_mapL a b j hlt] at this
      case measure => simp [intOf]; omega
    · have hjn : j = 3 := by omega
      subst hjn
      have h3 := H2.out
      rw [List.take_of_length_le (by exact Nat.le_refl _)] at h3
      simp only [Nat.sub_self, List.replicate_zero, List.append_nil] at h3
      have hsz : ((mapL a b).map (Value.int .i64)).toArray.size = 3 := by simp [mapL]
      have hi : (Try.prog.info? 30).map (·.size) = some ((mapL a b).map (Value.int .i64)).toArray.size := by rw [hsz]; exact info30
      have hall : ((mapL a b).map (Value.int .i64)).toArray.all (·.oneCell') = true := all_one _
      have HI := Aside0.mk hi
      have HA := Aside0.mk hall
      have HS := Aside0.mk hsz
      have HG := Aside0.mk h3
      clear hi hall hsz h3
      go_wp2_with (first | refine wpList_load_row rfl 30 _ rfl (w.heap.size + 1) rfl 30 ((mapL a b).map (Value.int .i64)).toArray (0, 0) _ HG.out Try.underlying30 rfl HI.out ?_ | refine wpList_store_row rfl 30 _ _ rfl w.heap.size ((mapL a b).map (Value.int .i64)).toArray rfl rfl 30 _ H1.out HI.out (by rw [HS.out]; rfl) HA.out ?_)
      have hr := Blk.setRow H1.out (mapL a b)
      exact bodyPost_ret (results_cell_row (ty := 30) rfl _ _ w.heap.size 30 _ (0, 0) _ rfl hr Try.underlying30 rfl HI.out) rfl ⟨rfl, belowRow HB.out (by omega) _⟩
set_option maxHeartbeats 1000000 in
theorem sMapOf (a b : Int) (w : World) :
    Calls Try.prog 31 #[.int .i64 a, .int .i64 b] w fun e w' => e = .returned (.agg ((mapL a b).map (Value.int .i64)).toArray) ∧ Below w.heap.size w w' := by
  go_enter Try.func31, Try.ntmps31
  go_wp2
  go_loopw [6, 7, 8] (fun v6 v7 v8 w' => ∃ j : Nat, j ≤ 3 ∧ v6 = .int .i64 ((j : Int) - 1) ∧ Aside0 (Blk w' w.heap.size 30 (List.replicate 3 0)) ∧ Aside0 (Blk w' (w.heap.size + 1) 30 ((mapL a b).take j ++ List.replicate (3 - j) 0)) ∧ Aside0 (Below w.heap.size w w')) (fun v6 _ _ _ => 3 - (intOf v6 + 1).toNat)
  case atStart =>
    refine ⟨0, by omega, rfl, ⟨(Blk.made w 30 (List.replicate 3 0)).alloc _⟩, ⟨?_⟩, ⟨below_alloc (below_alloc (Below.refl _ _) _) _⟩⟩
    have := Blk.made (w.alloc (Obj.cells (List.map (Value.int IntKind.i64) (List.replicate 3 0)).toArray 30)) 30 (List.replicate 3 0)
    rw [alloc_size] at this
    exact this
  case round =>
    obtain ⟨j, hj, rfl, H1, H2, HB⟩ := hrel
    by_cases hlt : j < 3
    · go_wp2_with (go_at_call 53; refine (sFull _ _ _ _).mono ?_; rintro e w4 ⟨rfl, ⟨m1, rfl⟩⟩; have n1 := Aside0.mk (H1.out.drewN m1); have n2 := Aside0.mk (H2.out.drewN m1); have n3 := Aside0.mk (pw_below_drewN HB.out m1); have hy := n2.out.cell j (by simp [mapL]; omega); have hf := n2.out.fro j)
      go_roundw
      case rel =>
        refine ⟨j + 1, by omega, by simp, ⟨n1.out.other (by omega)⟩, ⟨?_⟩, ⟨below_set n3.out (by omega)⟩⟩
        have := n2.out.set j (gt (mapL a b) j)
        rw [take_put (mapL a b) 3 j rfl hlt] at this
        rwa [gt_mapL a b j hlt] at this
      case measure => simp [intOf]; omega
    · have hjn : j = 3 := by omega
      subst hjn
      have h3 := H2.out
      rw [List.take_of_length_le (by exact Nat.le_refl _)] at h3
      simp only [Nat.sub_self, List.replicate_zero, List.append_nil] at h3
      have hsz : ((mapL a b).map (Value.int .i64)).toArray.size = 3 := by simp [mapL]
      have hi : (Try.prog.info? 30).map (·.size) = some ((mapL a b).map (Value.int .i64)).toArray.size := by rw [hsz]; exact info30
      have hall : ((mapL a b).map (Value.int .i64)).toArray.all (·.oneCell') = true := all_one _
      have HI := Aside0.mk hi
      have HA := Aside0.mk hall
      have HS := Aside0.mk hsz
      have HG := Aside0.mk h3
      clear hi hall hsz h3
      go_wp2_with (first | refine wpList_load_row rfl 30 _ rfl (w.heap.size + 1) rfl 30 ((mapL a b).map (Value.int .i64)).toArray (0, 0) _ HG.out Try.underlying30 rfl HI.out ?_ | refine wpList_store_row rfl 30 _ _ rfl w.heap.size ((mapL a b).map (Value.int .i64)).toArray rfl rfl 30 _ H1.out HI.out (by rw [HS.out]; rfl) HA.out ?_)
      have hr := Blk.setRow H1.out (mapL a b)
      exact bodyPost_ret (results_cell_row (ty := 30) rfl _ _ w.heap.size 30 _ (0, 0) _ rfl hr Try.underlying30 rfl HI.out) rfl ⟨rfl, belowRow HB.out (by omega) _⟩
end Go.Proofs.Ytegknmpphbkgpaa.HM
