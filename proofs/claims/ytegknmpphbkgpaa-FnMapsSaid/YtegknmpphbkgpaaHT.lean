/- What ThenMap answers. Three numbers each. -/
import Derived.Test.YtegknmpphbkgpaaProg
import Derived.Below
import Derived.WalkSpells
import Derived.Deep.Draws
import Derived.Deep.AppendLies
import Derived.Maps.AppendAt
import Derived.OwnWalk
import Derived.Laws.BytesArg
import Derived.Laws.MakeOwn
import Derived.Laws.OwnMore
import Derived.Deep.OwnRows
import Derived.Tactics
import Derived.Lib.ConvBytes
import Derived.Laws.Slices
import Derived.WalkKit
import Derived.KernelRfl
import Derived.RowKit3
import Derived.Deep.LoopGhost
import Derived.Deep.QuietTactic
import Derived.BigQuiet
import Derived.WideLaws
import Derived.Deep.DeepCutAuto
import Derived.Deep.CutBlock
import Derived.Deep.RegionHeld3
import Derived.Laws.Rows
import Derived.Lib.AppendStr
import Derived.ArgAppend
import Derived.Laws.IdiomCopy
import Derived.OrdersHeld
import Derived.Laws.BitsLemmas
import Derived.RowKit
import Derived.Test.YtegknmpphbkgpaaWWords
import Derived.Test.YtegknmpphbkgpaaWLast
import Derived.Test.YtegknmpphbkgpaaWTab
import Derived.Test.YtegknmpphbkgpaaWFour
import Derived.Test.YtegknmpphbkgpaaWQPut
import Derived.Test.YtegknmpphbkgpaaWApart
import Derived.Test.YtegknmpphbkgpaaWArr
import Derived.Test.YtegknmpphbkgpaaWZeros
import Derived.Test.YtegknmpphbkgpaaWFoot
import Derived.Test.YtegknmpphbkgpaaWKept
import Derived.Test.YtegknmpphbkgpaaWShare
import Derived.Test.YtegknmpphbkgpaaWN
import Derived.Test.YtegknmpphbkgpaaWFootNe
import Derived.Test.YtegknmpphbkgpaaWAt
import Derived.Test.YtegknmpphbkgpaaWEqStruct
import Derived.Test.YtegknmpphbkgpaaWRepsOne
import Derived.Test.YtegknmpphbkgpaaWInv
import Derived.Test.YtegknmpphbkgpaaWInvWords
import Derived.Test.YtegknmpphbkgpaaWGuard
import Derived.Test.YtegknmpphbkgpaaWNEv
import Derived.Test.YtegknmpphbkgpaaWMore
import Derived.Test.YtegknmpphbkgpaaHL
set_option linter.unusedVariables false
set_option linter.unusedSimpArgs false
namespace Go.Proofs.Ytegknmpphbkgpaa.HT
open Go.RowKit Go.Proofs.YtegknmpphbkgpaaW.PrintWords Go.Proofs.YtegknmpphbkgpaaW.PrintLast Go.Proofs.YtegknmpphbkgpaaW.PrintMore Go.Proofs.Ytegknmpphbkgpaa.HA Go.Proofs.Ytegknmpphbkgpaa.HL Go.Proofs.Ytegknmpphbkgpaa.PFnExactMapOf
theorem made3 (w : World) (t : TypeId) (o1 o2 o3 : Obj) (l : List Int) : Blk ((((w.alloc o1).alloc o2).alloc o3).alloc (.cells (l.map (Value.int .i64)).toArray t)) (w.heap.size + 1 + 1 + 1) t l := by
  have h := Blk.made (((w.alloc o1).alloc o2).alloc o3) t l
  have e : ∀ (a : World) (o : Obj), (a.alloc o).heap.size = a.heap.size + 1 := fun a o => by simp
  rwa [e, e, e] at h
theorem made2 (w : World) (t : TypeId) (o1 o2 : Obj) (l : List Int) : Blk (((w.alloc o1).alloc o2).alloc (.cells (l.map (Value.int .i64)).toArray t)) (w.heap.size + 1 + 1) t l := by
  have h := Blk.made ((w.alloc o1).alloc o2) t l
  have e : ∀ (a : World) (o : Obj), (a.alloc o).heap.size = a.heap.size + 1 := fun a o => by simp
  rwa [e, e] at h
theorem made1 (w : World) (t : TypeId) (o1 : Obj) (l : List Int) : Blk ((w.alloc o1).alloc (.cells (l.map (Value.int .i64)).toArray t)) (w.heap.size + 1) t l := by
  have h := Blk.made (w.alloc o1) t l
  have e : ∀ (a : World) (o : Obj), (a.alloc o).heap.size = a.heap.size + 1 := fun a o => by simp
  rwa [e] at h
/-- What ThenMap answers. -/
def thenL (f g : List Int) : List Int := if f.all isT && g.all isT then f.map (fun x => gt g (x + 1).toNat) else [0, 0, 0]
theorem thenL_len (f g : List Int) (hf : f.length = 3) : (thenL f g).length = 3 := by unfold thenL; split <;> simp [hf]
theorem gt_thenL (f g : List Int) (j : Nat) (hf : f.length = 3) (hj : j < 3) (h1 : f.all isT = true) (h2 : g.all isT = true) : gt (thenL f g) j = gt g (gt f j + 1).toNat := by
  unfold thenL
  rw [h1, h2]
  simp [gt, List.getD_eq_getElem?_getD, show j < f.length by omega]
theorem all_at (l : List Int) (j : Nat) (hj : j < l.length) (h : l.all isT = true) : -1 ≤ gt l j ∧ gt l j ≤ 1 := by
  have := List.all_eq_true.mp h (l[j]) (List.getElem_mem hj)
  have e : gt l j = l[j] := by simp [gt, List.getD_eq_getElem?_getD, hj]
  rw [e]
  exact isT_iff.mp this
theorem thenL_no (f g : List Int) (h : (f.all isT && g.all isT) = false) : thenL f g = [0, 0, 0] := by unfold thenL; rw [h]; rfl
set_option maxHeartbeats 2000000 in
theorem sThenMap (f g : List Int) (hf : f.length = 3) (hg : g.length = 3) (w : World) :
    Calls Try.prog 20 #[.agg (f.map (Value.int .i64)).toArray, .agg (g.map (Value.int .i64)).toArray] w fun e w' => e = .returned (.agg ((thenL f g).map (Value.int .i64)).toArray) ∧ Below w.heap.size w w' := by
  have HF := Aside0.mk hf
  have HG := Aside0.mk hg
  have HT := Aside0.mk (thenL_len f g hf)
  have HN := Aside0.mk (thenL_no f g)
  have HTG := Aside0.mk (gt_thenL f g)
  obtain ⟨T, hT⟩ : ∃ T, T = thenL f g := ⟨_, rfl⟩
  rw [← hT] at HT HN HTG
  rw [← hT]
  clear hf hg hT
  have HI := Aside0.mk (show (Try.prog.info? 30).map (·.size) = some (List.map (Value.int .i64) [0, 0, 0]).toArray.size from info30)
  go_enter Try.func20, Try.ntmps20
  go_wp2
  go_loopw [6] (fun v6 w' => ∃ j : Nat, j ≤ 3 ∧ v6 = .int .i64 j ∧ Aside0 (Blk w' w.heap.size 30 f) ∧ Aside0 (Blk w' (w.heap.size + 1) 30 g) ∧ Aside0 (Blk w' (w.heap.size + 1 + 1) 30 [0, 0, 0]) ∧ Aside0 (Blk w' (w.heap.size + 1 + 1 + 1) 30 [0, 0, 0]) ∧ Aside0 ((f.take j).all isT = true) ∧ Aside0 ((g.take j).all isT = true) ∧ Aside0 (Below w.heap.size w w')) (fun v6 _ => 3 - (intOf v6).toNat)
  case atStart =>
    exact ⟨0, by omega, rfl, ⟨(((Blk.made w 30 f).alloc _).alloc _).alloc _⟩, ⟨((made1 w 30 _ g).alloc _).alloc _⟩, ⟨(made2 w 30 _ _ [0, 0, 0]).alloc _⟩, ⟨made3 w 30 _ _ _ [0, 0, 0]⟩, ⟨rfl⟩, ⟨rfl⟩, ⟨below_alloc (below_alloc (below_alloc (below_alloc (Below.refl _ _) _) _) _) _⟩⟩
  case round =>
    obtain ⟨j, hj, rfl, H1, H2, H3, H4, HA1, HA2, HB⟩ := hrel
    by_cases hlt : j < 3
    · have hx := H1.out.cell j (by rw [HF.out]; exact hlt)
      have hy := H2.out.cell j (by rw [HG.out]; exact hlt)
      have HX := Aside0.mk (all_step f j (by rw [HF.out]; exact hlt) HA1.out)
      have HY := Aside0.mk (all_step g j (by rw [HG.out]; exact hlt) HA2.out)
      by_cases he : isT (gt f j) = true
      · have HE := Aside0.mk he
        by_cases hd : isT (gt g j) = true
        · have HD := Aside0.mk hd
          clear he hd
          go_wp2_with (go_at_call 46; refine (sIsTrit _ _).mono ?_; rintro e w' ⟨rfl, ⟨n1, rfl⟩⟩; first | rw [HE.out] | rw [HD.out])
          go_roundw
          case rel => exact ⟨j + 1, by omega, by simp, ⟨H1.out⟩, ⟨H2.out⟩, ⟨H3.out⟩, ⟨H4.out⟩, ⟨HX.out.trans HE.out⟩, ⟨HY.out.trans HD.out⟩, ⟨by repeat (first | (with_reducible first | exact HB.out | apply below_alloc | apply pw_below_drewN | apply below_drew1) | exact HB.out)⟩⟩
          case measure => simp [intOf]; omega
        · have hd' : isT (gt g j) = false := by simpa using hd
          have HD := Aside0.mk hd'
          have HR := Aside0.mk (HN.out (by rw [all_not g j (by rw [HG.out]; exact hlt) hd', Bool.and_false]))
          clear he hd hd'
          have HZ := Aside0.mk H3.out
          go_wp2_with (first | (go_at_call 46; refine (sIsTrit _ _).mono ?_; rintro e w' ⟨rfl, ⟨n1, rfl⟩⟩; (first | rw [HE.out] | rw [HD.out]); have HZ2 := Aside0.mk (HZ.out.drewN n1); clear HZ; have HZ := HZ2; clear HZ2) | refine wpList_store_row rfl 30 _ _ rfl (w.heap.size + 1 + 1) (List.map (Value.int .i64) [0, 0, 0]).toArray rfl rfl 30 (List.map (Value.int .i64) [0, 0, 0]).toArray HZ.out HI.out rfl (all_one [0, 0, 0]) ?_)
          have hr := Blk.setRow HZ.out [0, 0, 0]
          rw [HR.out]
          exact bodyPost_ret (results_cell_row (ty := 30) rfl _ _ (w.heap.size + 1 + 1) 30 _ (0, 0) _ rfl hr Try.underlying30 rfl HI.out) rfl ⟨rfl, belowRow (by repeat (first | (with_reducible first | exact HB.out | apply below_alloc | apply pw_below_drewN | apply below_drew1) | exact HB.out)) (by omega) _⟩
      · have he' : isT (gt f j) = false := by simpa using he
        have HE := Aside0.mk he'
        have HR := Aside0.mk (HN.out (by rw [all_not f j (by rw [HF.out]; exact hlt) he', Bool.false_and]))
        clear he he'
        have HZ := Aside0.mk H3.out
        go_wp2_with (first | (go_at_call 46; refine (sIsTrit _ _).mono ?_; rintro e w' ⟨rfl, ⟨n1, rfl⟩⟩; rw [HE.out]; have HZ2 := Aside0.mk (HZ.out.drewN n1); clear HZ; have HZ := HZ2; clear HZ2) | refine wpList_store_row rfl 30 _ _ rfl (w.heap.size + 1 + 1) (List.map (Value.int .i64) [0, 0, 0]).toArray rfl rfl 30 (List.map (Value.int .i64) [0, 0, 0]).toArray HZ.out HI.out rfl (all_one [0, 0, 0]) ?_)
        have hr := Blk.setRow HZ.out [0, 0, 0]
        rw [HR.out]
        exact bodyPost_ret (results_cell_row (ty := 30) rfl _ _ (w.heap.size + 1 + 1) 30 _ (0, 0) _ rfl hr Try.underlying30 rfl HI.out) rfl ⟨rfl, belowRow (by repeat (first | (with_reducible first | exact HB.out | apply below_alloc | apply pw_below_drewN | apply below_drew1) | exact HB.out)) (by omega) _⟩
    · have hjn : j = 3 := by omega
      subst hjn
      have hf3 := HA1.out
      have hg3 := HA2.out
      rw [List.take_of_length_le (by rw [HF.out]; exact Nat.le_refl _)] at hf3
      rw [List.take_of_length_le (by rw [HG.out]; exact Nat.le_refl _)] at hg3
      have HFA := Aside0.mk hf3
      have HGA := Aside0.mk hg3
      clear hf3 hg3 HA1 HA2
      go_wp2
      go_loopw [7] (fun v7 w' => ∃ j : Nat, j ≤ 3 ∧ v7 = .int .i64 j ∧ Aside0 (Blk w' w.heap.size 30 f) ∧ Aside0 (Blk w' (w.heap.size + 1) 30 g) ∧ Aside0 (Blk w' (w.heap.size + 1 + 1) 30 (List.replicate 3 0)) ∧ Aside0 (Blk w' (w.heap.size + 1 + 1 + 1) 30 (T.take j ++ List.replicate (3 - j) 0)) ∧ Aside0 (Below w.heap.size w w')) (fun v7 _ => 3 - (intOf v7).toNat)
      case atStart => exact ⟨0, by omega, rfl, H1, H2, H3, H4, HB⟩
      case round =>
        clear H1 H2 H3 H4 HB
        obtain ⟨j, hj, rfl, H1, H2, H3, H4, HB⟩ := hrel
        by_cases hlt : j < 3
        · have hx := H1.out.cell j (by rw [HF.out]; exact hlt)
          obtain ⟨t1, t2⟩ := all_at f j (by rw [HF.out]; exact hlt) HFA.out
          have hy := H2.out.cell (gt f j + 1).toNat (by rw [HG.out]; omega)
          have hz := H4.out.cell j (by simp [HT.out]; omega)
          have hf := H4.out.fro j
          go_wp2
          go_roundw
          case rel =>
            refine ⟨j + 1, by omega, by simp, ⟨H1.out.other (by omega)⟩, ⟨H2.out.other (by omega)⟩, ⟨H3.out.other (by omega)⟩, ⟨?_⟩, ⟨below_set HB.out (by omega)⟩⟩
            have := H4.out.set j (gt T j)
            rw [take_put T 3 j HT.out hlt, HTG.out j HF.out hlt HFA.out HGA.out] at this
            exact this
          case measure => simp [intOf]; omega
        · have hjn : j = 3 := by omega
          subst hjn
          have h3 := H4.out
          rw [List.take_of_length_le (by rw [HT.out]; exact Nat.le_refl _)] at h3
          simp only [Nat.sub_self, List.replicate_zero, List.append_nil] at h3
          have hsz : (T.map (Value.int .i64)).toArray.size = 3 := by simp [HT.out]
          have hi : (Try.prog.info? 30).map (·.size) = some (T.map (Value.int .i64)).toArray.size := by rw [hsz]; exact info30
          have hall : (T.map (Value.int .i64)).toArray.all (·.oneCell') = true := all_one _
          have HI := Aside0.mk hi
          have HA := Aside0.mk hall
          have HS := Aside0.mk hsz
          have HG := Aside0.mk h3
          clear hi hall hsz h3
          go_wp2_with (first | refine wpList_load_row rfl 30 _ rfl (w.heap.size + 1 + 1 + 1) rfl 30 (T.map (Value.int .i64)).toArray (0, 0) _ HG.out Try.underlying30 rfl HI.out ?_ | refine wpList_store_row rfl 30 _ _ rfl (w.heap.size + 1 + 1) (T.map (Value.int .i64)).toArray rfl rfl 30 _ H3.out HI.out (by rw [HS.out]; rfl) HA.out ?_)
          have hr := Blk.setRow H3.out T
          exact bodyPost_ret (results_cell_row (ty := 30) rfl _ _ (w.heap.size + 1 + 1) 30 _ (0, 0) _ rfl hr Try.underlying30 rfl HI.out) rfl ⟨rfl, belowRow HB.out (by omega) _⟩

set_option maxHeartbeats 2000000 in
theorem iThenMap (f g : List Int) (hf : f.length = 3) (hg : g.length = 3) (w : World) :
    Calls Try.prog 22 #[.agg (f.map (Value.int .i64)).toArray, .agg (g.map (Value.int .i64)).toArray] w fun e w' => e = .returned (.agg ((thenL f g).map (Value.int .i64)).toArray) ∧ Below w.heap.size w w' := by
  have HF := Aside0.mk hf
  have HG := Aside0.mk hg
  have HT := Aside0.mk (thenL_len f g hf)
  have HN := Aside0.mk (thenL_no f g)
  have HTG := Aside0.mk (gt_thenL f g)
  obtain ⟨T, hT⟩ : ∃ T, T = thenL f g := ⟨_, rfl⟩
  rw [← hT] at HT HN HTG
  rw [← hT]
  clear hf hg hT
  have HI := Aside0.mk (show (Try.prog.info? 30).map (·.size) = some (List.map (Value.int .i64) [0, 0, 0]).toArray.size from info30)
  have B1 := Aside0.mk (((Blk.made w 30 f).alloc (Obj.cells (List.map (Value.int IntKind.i64) g).toArray 30)).alloc (Obj.cells (List.map (Value.int IntKind.i64) [0, 0, 0]).toArray 30))
  have B2 := Aside0.mk ((made1 w 30 (Obj.cells (List.map (Value.int IntKind.i64) f).toArray 30) g).alloc (Obj.cells (List.map (Value.int IntKind.i64) [0, 0, 0]).toArray 30))
  have B3 := Aside0.mk (made2 w 30 (Obj.cells (List.map (Value.int IntKind.i64) f).toArray 30) (Obj.cells (List.map (Value.int IntKind.i64) g).toArray 30) [0, 0, 0])
  have HB := Aside0.mk (below_alloc (below_alloc (below_alloc (Below.refl w.heap.size w) (Obj.cells (List.map (Value.int IntKind.i64) f).toArray 30)) (Obj.cells (List.map (Value.int IntKind.i64) g).toArray 30)) (Obj.cells (List.map (Value.int IntKind.i64) [0, 0, 0]).toArray 30))
  by_cases he : f.all isT = true
  · have HE := Aside0.mk he
    by_cases hd : g.all isT = true
    · have HD := Aside0.mk hd
      have HFA := Aside0.mk he
      have HGA := Aside0.mk hd
      clear he hd
      go_enter Try.func22, Try.ntmps22
      go_wp2_with (first | (go_at_call 47; refine (iTrits w.heap.size 30 f 3 HF.out (by omega) _ B1.out).mono ?_; rintro e w' ⟨rfl, ⟨n1, rfl⟩⟩; rw [HE.out]; have C1 := Aside0.mk (B1.out.drewN n1); have C2 := Aside0.mk (B2.out.drewN n1); have C3 := Aside0.mk (B3.out.drewN n1); have C4 := Aside0.mk (pw_below_drewN HB.out n1); clear B1 B2 B3 HB) | (go_at_call 47; refine (iTrits (w.heap.size + 1) 30 g 3 HG.out (by omega) _ C2.out).mono ?_; rintro e w' ⟨rfl, ⟨n2, rfl⟩⟩; rw [HD.out]; have B1 := Aside0.mk (C1.out.drewN n2); have B2 := Aside0.mk (C2.out.drewN n2); have B3 := Aside0.mk (C3.out.drewN n2); have HB := Aside0.mk (pw_below_drewN C4.out n2); clear C1 C2 C3 C4))
      go_loopw [6, 16] (fun v6 v16 w' => ∃ j : Nat, j ≤ 3 ∧ v16 = .int .i64 j ∧ Aside0 (Blk w' w.heap.size 30 f) ∧ Aside0 (Blk w' (w.heap.size + 1) 30 g) ∧ Aside0 (Blk w' (w.heap.size + 1 + 1) 30 (List.replicate 3 0)) ∧ Aside0 (Blk w' (w.heap.size + 1 + 1 + 1) 30 (T.take j ++ List.replicate (3 - j) 0)) ∧ Aside0 (Below w.heap.size w w')) (fun _ v16 _ => 3 - (intOf v16).toNat)
      case atStart =>
        refine ⟨0, by omega, rfl, ⟨B1.out.alloc _⟩, ⟨B2.out.alloc _⟩, ⟨B3.out.alloc _⟩, ⟨?_⟩, ⟨by repeat (first | exact Below.refl _ _ | apply below_alloc | apply pw_below_drewN | apply below_drew1)⟩⟩
        refine Eq.subst (motive := fun z => Blk _ z 30 [0, 0, 0]) ?_ (Blk.made _ 30 [0, 0, 0])
        show (((w.alloc _).alloc _).alloc _).heap.size = _
        rw [alloc_size, alloc_size, alloc_size]
      case round =>
        clear B1 B2 B3 HB
        obtain ⟨j, hj, rfl, H1, H2, H3, H4, HB⟩ := hrel
        by_cases hlt : j < 3
        · have hx := H1.out.cell j (by rw [HF.out]; exact hlt)
          obtain ⟨t1, t2⟩ := all_at f j (by rw [HF.out]; exact hlt) HFA.out
          have hy := H2.out.cell (gt f j + 1).toNat (by rw [HG.out]; omega)
          have hz := H4.out.cell j (by simp [HT.out]; omega)
          have hf := H4.out.fro j
          go_wp2
          go_roundw
          case rel =>
            refine ⟨j + 1, by omega, by simp, ⟨H1.out.other (by omega)⟩, ⟨H2.out.other (by omega)⟩, ⟨H3.out.other (by omega)⟩, ⟨?_⟩, ⟨below_set HB.out (by omega)⟩⟩
            have := H4.out.set j (gt T j)
            rw [take_put T 3 j HT.out hlt, HTG.out j HF.out hlt HFA.out HGA.out] at this
            exact this
          case measure => simp [intOf]; omega
        · have hjn : j = 3 := by omega
          subst hjn
          have h3 := H4.out
          rw [List.take_of_length_le (by rw [HT.out]; exact Nat.le_refl _)] at h3
          simp only [Nat.sub_self, List.replicate_zero, List.append_nil] at h3
          have hsz : (T.map (Value.int .i64)).toArray.size = 3 := by simp [HT.out]
          have hi : (Try.prog.info? 30).map (·.size) = some (T.map (Value.int .i64)).toArray.size := by rw [hsz]; exact info30
          have hall : (T.map (Value.int .i64)).toArray.all (·.oneCell') = true := all_one _
          have HI := Aside0.mk hi
          have HA := Aside0.mk hall
          have HS := Aside0.mk hsz
          have HG := Aside0.mk h3
          clear hi hall hsz h3
          go_wp2_with (first | refine wpList_load_row rfl 30 _ rfl (w.heap.size + 1 + 1 + 1) rfl 30 (T.map (Value.int .i64)).toArray (0, 0) _ HG.out Try.underlying30 rfl HI.out ?_ | refine wpList_store_row rfl 30 _ _ rfl (w.heap.size + 1 + 1) (T.map (Value.int .i64)).toArray rfl rfl 30 _ H3.out HI.out (by rw [HS.out]; rfl) HA.out ?_)
          have hr := Blk.setRow H3.out T
          exact bodyPost_ret (results_cell_row (ty := 30) rfl _ _ (w.heap.size + 1 + 1) 30 _ (0, 0) _ rfl hr Try.underlying30 rfl HI.out) rfl ⟨rfl, belowRow HB.out (by omega) _⟩

    · have hd' : g.all isT = false := by simpa using hd
      have HD := Aside0.mk hd'
      have HR := Aside0.mk (HN.out (by rw [hd', Bool.and_false]))
      clear he hd hd'
      go_enter Try.func22, Try.ntmps22
      go_wp2_with (first | (go_at_call 47; refine (iTrits w.heap.size 30 f 3 HF.out (by omega) _ B1.out).mono ?_; rintro e w' ⟨rfl, ⟨n1, rfl⟩⟩; rw [HE.out]; have C1 := Aside0.mk (B1.out.drewN n1); have C2 := Aside0.mk (B2.out.drewN n1); have C3 := Aside0.mk (B3.out.drewN n1); have C4 := Aside0.mk (pw_below_drewN HB.out n1); clear B1 B2 B3 HB) | (go_at_call 47; refine (iTrits (w.heap.size + 1) 30 g 3 HG.out (by omega) _ C2.out).mono ?_; rintro e w' ⟨rfl, ⟨n2, rfl⟩⟩; rw [HD.out]; have B1 := Aside0.mk (C1.out.drewN n2); have B2 := Aside0.mk (C2.out.drewN n2); have B3 := Aside0.mk (C3.out.drewN n2); have HB := Aside0.mk (pw_below_drewN C4.out n2); clear C1 C2 C3 C4) | refine wpList_store_row rfl 30 _ _ rfl (w.heap.size + 1 + 1) (List.map (Value.int .i64) [0, 0, 0]).toArray rfl rfl 30 (List.map (Value.int .i64) [0, 0, 0]).toArray B3.out HI.out rfl (all_one [0, 0, 0]) ?_)
      have hr := Blk.setRow B3.out [0, 0, 0]
      rw [HR.out]
      exact bodyPost_ret (results_cell_row (ty := 30) rfl _ _ (w.heap.size + 1 + 1) 30 _ (0, 0) _ rfl hr Try.underlying30 rfl HI.out) rfl ⟨rfl, belowRow (by repeat (first | exact Below.refl _ _ | apply below_alloc | apply pw_below_drewN | apply below_drew1)) (by omega) _⟩
  · have he' : f.all isT = false := by simpa using he
    have HE := Aside0.mk he'
    have HR := Aside0.mk (HN.out (by rw [he', Bool.false_and]))
    clear he he'
    go_enter Try.func22, Try.ntmps22
    go_wp2_with (first | (go_at_call 47; refine (iTrits w.heap.size 30 f 3 HF.out (by omega) _ B1.out).mono ?_; rintro e w' ⟨rfl, ⟨n1, rfl⟩⟩; rw [HE.out]; have C1 := Aside0.mk (B1.out.drewN n1); have C2 := Aside0.mk (B2.out.drewN n1); have C3 := Aside0.mk (B3.out.drewN n1); have C4 := Aside0.mk (pw_below_drewN HB.out n1); clear B1 B2 B3 HB) | refine wpList_store_row rfl 30 _ _ rfl (w.heap.size + 1 + 1) (List.map (Value.int .i64) [0, 0, 0]).toArray rfl rfl 30 (List.map (Value.int .i64) [0, 0, 0]).toArray C3.out HI.out rfl (all_one [0, 0, 0]) ?_)
    have hr := Blk.setRow C3.out [0, 0, 0]
    rw [HR.out]
    exact bodyPost_ret (results_cell_row (ty := 30) rfl _ _ (w.heap.size + 1 + 1) 30 _ (0, 0) _ rfl hr Try.underlying30 rfl HI.out) rfl ⟨rfl, belowRow (by repeat (first | exact Below.refl _ _ | apply below_alloc | apply pw_below_drewN | apply below_drew1)) (by omega) _⟩
end Go.Proofs.Ytegknmpphbkgpaa.HT
