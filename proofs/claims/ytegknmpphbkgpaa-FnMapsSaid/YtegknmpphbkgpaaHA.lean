/- Arrays of whole numbers in a block of memory; the functions of the laws that copy and compare tables and carry maps. No condition. -/
import Derived.Test.YtegknmpphbkgpaaProg
import Derived.Below
import Derived.WalkSpells
import Derived.Deep.Draws
import Derived.Deep.AppendLies
import Derived.Maps.AppendAt
import Derived.OwnWalk
import Derived.Laws.BytesArg
import Derived.Laws.MakeOwn
import Derived.Laws.OwnMore
import Derived.Deep.OwnRows
import Derived.Tactics
import Derived.Lib.ConvBytes
import Derived.Laws.Slices
import Derived.WalkKit
import Derived.KernelRfl
import Derived.RowKit3
import Derived.Deep.LoopGhost
import Derived.Deep.QuietTactic
import Derived.BigQuiet
import Derived.WideLaws
import Derived.Deep.DeepCutAuto
import Derived.Deep.CutBlock
import Derived.Deep.RegionHeld3
import Derived.Laws.Rows
import Derived.Lib.AppendStr
import Derived.ArgAppend
import Derived.Laws.IdiomCopy
import Derived.OrdersHeld
import Derived.Laws.BitsLemmas
import Derived.RowKit
import Derived.Test.YtegknmpphbkgpaaWWords
import Derived.Test.YtegknmpphbkgpaaWLast
import Derived.Test.YtegknmpphbkgpaaWTab
import Derived.Test.YtegknmpphbkgpaaWFour
import Derived.Test.YtegknmpphbkgpaaWQPut
import Derived.Test.YtegknmpphbkgpaaWApart
import Derived.Test.YtegknmpphbkgpaaWArr
import Derived.Test.YtegknmpphbkgpaaWZeros
import Derived.Test.YtegknmpphbkgpaaWFoot
import Derived.Test.YtegknmpphbkgpaaWKept
import Derived.Test.YtegknmpphbkgpaaWShare
import Derived.Test.YtegknmpphbkgpaaWN
import Derived.Test.YtegknmpphbkgpaaWFootNe
import Derived.Test.YtegknmpphbkgpaaWAt
import Derived.Test.YtegknmpphbkgpaaWEqStruct
import Derived.Test.YtegknmpphbkgpaaWRepsOne
import Derived.Test.YtegknmpphbkgpaaWInv
import Derived.Test.YtegknmpphbkgpaaWInvWords
import Derived.Test.YtegknmpphbkgpaaWGuard
import Derived.Test.YtegknmpphbkgpaaWNEv
import Derived.Test.YtegknmpphbkgpaaWMore
set_option linter.unusedVariables false
set_option linter.unusedSimpArgs false
namespace Go.Proofs.Ytegknmpphbkgpaa.HA
open Go.RowKit Go.Proofs.YtegknmpphbkgpaaW.PrintWords Go.Proofs.YtegknmpphbkgpaaW.PrintLast Go.Proofs.YtegknmpphbkgpaaW.PrintMore
/-- Block g holds the numbers l. -/
def Blk (w : World) (g : Nat) (t : TypeId) (l : List Int) : Prop := w.heap[g]? = some (.cells (l.map (Value.int .i64)).toArray t (0, 0))
section
variable {w : World} {g : Nat} {t : TypeId} {l : List Int}
theorem Blk.lt (h : Blk w g t l) : g < w.heap.size := (Array.getElem?_eq_some_iff.1 h).1
theorem belowRow {B g : Nat} {w0 w : World} (hb : Below B w0 w) (hBg : B ≤ g) (cs : Array Value) : Below B w0 (w.setRow g cs) := by
  refine ⟨hb.os, hb.tape, hb.output, by simpa using hb.size, fun k hk => ?_⟩
  rw [← hb.block k hk]
  unfold World.setRow
  simp only [Array.getElem?_modify]
  rw [if_neg (by omega)]
/-- The number at j. -/
def gt (l : List Int) (j : Nat) : Int := l.getD j 0
theorem Blk.cell (h : Blk w g t l) (j : Nat) (hj : j < l.length) : w.cell? ⟨g, j, none⟩ = some (.int .i64 (gt l j)) := by
  have h' : w.heap[g]? = some (.cells (l.map (Value.int .i64)).toArray t (0, 0)) := h
  rw [cell_of_row w g j _ t (0, 0) h']
  simp [gt, List.getD_eq_getElem?_getD, hj]
theorem Blk.fro (h : Blk w g t l) (j : Nat) : w.frozen? ⟨g, j, none⟩ = false := by
  have h' : w.heap[g]? = some (.cells (l.map (Value.int .i64)).toArray t (0, 0)) := h
  simp [World.frozen?, h']
theorem Blk.set (h : Blk w g t l) (j : Nat) (x : Int) : Blk (w.setCell ⟨g, j, none⟩ (.int .i64 x)) g t (l.set j x) := by
  have h' : w.heap[g]? = some (.cells (l.map (Value.int .i64)).toArray t (0, 0)) := h
  unfold Blk
  rw [heap_setCell_same w g j _ t _ h']
  simp [List.map_set]
theorem Blk.other (h : Blk w g t l) {g' j : Nat} {v : Value} (hne : g' ≠ g) : Blk (w.setCell ⟨g', j, none⟩ v) g t l := by
  unfold Blk World.setCell
  simp only [Array.getElem?_modify]
  rw [if_neg hne]
  exact h
theorem Blk.otherRow (h : Blk w g t l) {g' : Nat} {cs : Array Value} (hne : g' ≠ g) : Blk (w.setRow g' cs) g t l := by
  unfold Blk World.setRow
  simp only [Array.getElem?_modify]
  rw [if_neg hne]
  exact h
theorem Blk.setRow (h : Blk w g t l) (l' : List Int) : Blk (w.setRow g (l'.map (Value.int .i64)).toArray) g t l' := by
  unfold Blk World.setRow
  have h' : w.heap[g]? = some (.cells (l.map (Value.int .i64)).toArray t (0, 0)) := h
  simp [Array.getElem?_modify, h']
theorem Blk.alloc (h : Blk w g t l) (o : Obj) : Blk (w.alloc o) g t l := by
  unfold Blk
  rw [Go.heap_alloc_old w o h.lt]
  exact h
theorem Blk.made (w : World) (t : TypeId) (l : List Int) : Blk (w.alloc (.cells (l.map (Value.int .i64)).toArray t)) w.heap.size t l := heap_alloc_new w _
theorem Blk.below (h : Blk w g t l) {w' : World} (hb : Below w.heap.size w w') : Blk w' g t l := (hb.block g h.lt).trans h
theorem Blk.drewN (h : Blk w g t l) (m : Nat) : Blk (w.drewN m) g t l := h
end
theorem Blk.toC {w : World} {g : Nat} {t : TypeId} {l : List Int} (h : Blk w g t l) (hl : l.length ≤ 9223372036854775807) : Kd.C (Kd.int .i64) w (some ⟨g, 0, none⟩) l.length l := by
  refine ⟨rfl, hl, fun _ => ⟨_, rfl, fun j p hj => ⟨[.int .i64 p], rfl, rfl, fun i u hu => ?_⟩⟩⟩
  have hjl := (List.getElem?_eq_some_iff.1 hj).1
  have hi : i = 0 := by
    have := (List.getElem?_eq_some_iff.1 hu).1
    simpa using this
  subst hi
  have hu' : Value.int .i64 p = u := by simpa using hu
  subst hu'
  have hadd : (⟨g, 0, none⟩ : Addr).add (j * 1 + 0) = ⟨g, j, none⟩ := by unfold Addr.add; split <;> simp_all
  show w.cell? ((⟨g, 0, none⟩ : Addr).add (j * 1 + 0)) = _
  rw [hadd, h.cell j hjl]
  simp [gt, List.getD_eq_getElem?_getD, hj]
theorem all_one (l : List Int) : (l.map (Value.int .i64)).toArray.all (·.oneCell') = true := by simp [Value.oneCell']
theorem take_put (l : List Int) (n j : Nat) (hl : l.length = n) (hj : j < n) : (l.take j ++ List.replicate (n - j) 0).set j (gt l j) = l.take (j + 1) ++ List.replicate (n - (j + 1)) 0 := by
  have h1 : (l.take j).length = j := by rw [List.length_take]; omega
  rw [List.set_append_right _ _ (by omega), h1, Nat.sub_self, show n - j = (n - (j + 1)) + 1 by omega, List.replicate_succ, List.set_cons_zero, List.take_succ_eq_append_getElem (i := j) (by omega)]
  have h2 : gt l j = l[j]'(by omega) := by simp [gt, List.getD_eq_getElem?_getD, show j < l.length by omega]
  rw [h2, List.append_assoc]; rfl
theorem alloc_size (a : World) (o : Obj) : (a.alloc o).heap.size = a.heap.size + 1 := by simp
theorem take_ext (a b : List Int) (n j : Nat) (ha : a.length = n) (hb : b.length = n) (hj : j < n) (h : a.take j = b.take j) : a.take (j + 1) = b.take (j + 1) ↔ gt a j = gt b j := by
  rw [List.take_succ_eq_append_getElem (l := a) (i := j) (by omega), List.take_succ_eq_append_getElem (l := b) (i := j) (by omega), h, List.append_cancel_left_eq]
  simp [gt, List.getD_eq_getElem?_getD, show j < a.length by omega, show j < b.length by omega]
theorem info22 : (Try.prog.info? 22).map (·.size) = some 9 := by kernel_rfl
theorem info24 : (Try.prog.info? 24).map (·.size) = some 9 := by kernel_rfl
theorem info30 : (Try.prog.info? 30).map (·.size) = some 3 := by kernel_rfl
set_option maxHeartbeats 1000000 in
theorem toTable_calls (l : List Int) (hl : l.length = 9) (w : World) :
    Calls Try.prog 16 #[.agg (l.map (Value.int .i64)).toArray] w fun e w' => e = .returned (.agg (l.map (Value.int .i64)).toArray) ∧ Below w.heap.size w w' := by
  have HL := Aside0.mk hl
  clear hl
  go_enter Try.func16, Try.ntmps16
  go_wp2
  go_loopw [4] (fun v4 w' => ∃ j : Nat, j ≤ 9 ∧ v4 = .int .i64 j ∧ Aside0 (Blk w' w.heap.size 22 l) ∧ Aside0 (Blk w' (w.heap.size + 1) 24 (List.replicate 9 0)) ∧ Aside0 (Blk w' (w.heap.size + 1 + 1) 24 (l.take j ++ List.replicate (9 - j) 0)) ∧ Aside0 (Below w.heap.size w w')) (fun v4 _ => 9 - (intOf v4).toNat)
  case atStart =>
    have s1 : ∀ (a : World) (o : Obj), (a.alloc o).heap.size = a.heap.size + 1 := fun a o => by simp
    refine ⟨0, by omega, rfl, ⟨((Blk.made w 22 l).alloc _).alloc _⟩, ⟨?_⟩, ⟨?_⟩, ⟨?_⟩⟩
    · have := Blk.made (w.alloc (Obj.cells (List.map (Value.int IntKind.i64) l).toArray 22)) 24 (List.replicate 9 0)
      rw [s1] at this
      exact this.alloc _
    · have := Blk.made ((w.alloc (Obj.cells (List.map (Value.int IntKind.i64) l).toArray 22)).alloc (Obj.cells (List.map (Value.int IntKind.i64) (List.replicate 9 0)).toArray 24)) 24 (List.replicate 9 0)
      rw [s1, s1] at this
      exact this
    · exact below_alloc (below_alloc (below_alloc (Below.refl _ _) _) _) _
  case round =>
    obtain ⟨j, hj, rfl, H1, H2, H3, HB⟩ := hrel
    by_cases hlt : j < 9
    · have hx := H1.out.cell j (by rw [HL.out]; exact hlt)
      have hy := H3.out.cell j (by simp [HL.out]; omega)
      have hf := H3.out.fro j
      go_wp2
      go_roundw
      case rel =>
        refine ⟨j + 1, by omega, by simp, ⟨H1.out.other (by omega)⟩, ⟨H2.out.other (by omega)⟩, ⟨?_⟩, ⟨below_set HB.out (by omega)⟩⟩
        have := H3.out.set j (gt l j)
        rwa [take_put l 9 j HL.out hlt] at this
      case measure => simp [intOf]; omega
    · have hjn : j = 9 := by omega
      subst hjn
      have h3 := H3.out
      rw [List.take_of_length_le (by rw [HL.out]; exact Nat.le_refl _)] at h3
      simp only [Nat.sub_self, List.replicate_zero, List.append_nil] at h3
      have hsz : (l.map (Value.int .i64)).toArray.size = 9 := by simp [HL.out]
      have hi : (Try.prog.info? 24).map (·.size) = some (l.map (Value.int .i64)).toArray.size := by rw [hsz]; exact info24
      have hall : (l.map (Value.int .i64)).toArray.all (·.oneCell') = true := all_one l
      have HI := Aside0.mk hi
      have HA := Aside0.mk hall
      have HS := Aside0.mk hsz
      have HG := Aside0.mk h3
      clear hi hall hsz h3
      go_wp2_with (first | refine wpList_load_row rfl 24 _ rfl (w.heap.size + 1 + 1) rfl 24 (l.map (Value.int .i64)).toArray (0, 0) _ HG.out Try.underlying24 rfl HI.out ?_ | refine wpList_store_row rfl 24 _ _ rfl (w.heap.size + 1) (l.map (Value.int .i64)).toArray rfl rfl 24 _ H2.out HI.out (by rw [HS.out]; rfl) HA.out ?_)
      have hr := Blk.setRow H2.out l
      exact bodyPost_ret (results_cell_row (ty := 24) rfl _ _ (w.heap.size + 1) 24 _ (0, 0) _ rfl hr Try.underlying24 rfl HI.out) rfl ⟨rfl, belowRow HB.out (by omega) _⟩
set_option maxHeartbeats 1000000 in
theorem toCarryMap_calls (l : List Int) (hl : l.length = 3) (w : World) :
    Calls Try.prog 21 #[.agg (l.map (Value.int .i64)).toArray] w fun e w' => e = .returned (.agg (l.map (Value.int .i64)).toArray) ∧ Below w.heap.size w w' := by
  have HL := Aside0.mk hl
  clear hl
  go_enter Try.func21, Try.ntmps21
  go_wp2
  go_loopw [4] (fun v4 w' => ∃ j : Nat, j ≤ 3 ∧ v4 = .int .i64 j ∧ Aside0 (Blk w' w.heap.size 29 l) ∧ Aside0 (Blk w' (w.heap.size + 1) 30 (List.replicate 3 0)) ∧ Aside0 (Blk w' (w.heap.size + 1 + 1) 30 (l.take j ++ List.replicate (3 - j) 0)) ∧ Aside0 (Below w.heap.size w w')) (fun v4 _ => 3 - (intOf v4).toNat)
  case atStart =>
    have s1 : ∀ (a : World) (o : Obj), (a.alloc o).heap.size = a.heap.size + 1 := fun a o => by simp
    refine ⟨0, by omega, rfl, ⟨((Blk.made w 29 l).alloc _).alloc _⟩, ⟨?_⟩, ⟨?_⟩, ⟨?_⟩⟩
    · have := Blk.made (w.alloc (Obj.cells (List.map (Value.int IntKind.i64) l).toArray 29)) 30 (List.replicate 3 0)
      rw [s1] at this
      exact this.alloc _
    · have := Blk.made ((w.alloc (Obj.cells (List.map (Value.int IntKind.i64) l).toArray 29)).alloc (Obj.cells (List.map (Value.int IntKind.i64) (List.replicate 3 0)).toArray 30)) 30 (List.replicate 3 0)
      rw [s1, s1] at this
      exact this
    · exact below_alloc (below_alloc (below_alloc (Below.refl _ _) _) _) _
  case round =>
    obtain ⟨j, hj, rfl, H1, H2, H3, HB⟩ := hrel
    by_cases hlt : j < 3
    · have hx := H1.out.cell j (by rw [HL.out]; exact hlt)
      have hy := H3.out.cell j (by simp [HL.out]; omega)
      have hf := H3.out.fro j
      go_wp2
      go_roundw
      case rel =>
        refine ⟨j + 1, by omega, by simp, ⟨H1.out.other (by omega)⟩, ⟨H2.out.other (by omega)⟩, ⟨?_⟩, ⟨below_set HB.out (by omega)⟩⟩
        have := H3.out.set j (gt l j)
        rwa [take_put l 3 j HL.out hlt] at this
      case measure => simp [intOf]; omega
    · have hjn : j = 3 := by omega
      subst hjn
      have h3 := H3.out
      rw [List.take_of_length_le (by rw [HL.out]; exact Nat.le_refl _)] at h3
      simp only [Nat.sub_self, List.replicate_zero, List.append_nil] at h3
      have hsz : (l.map (Value.int .i64)).toArray.size = 3 := by simp [HL.out]
      have hi : (Try.prog.info? 30).map (·.size) = some (l.map (Value.int .i64)).toArray.size := by rw [hsz]; exact info30
      have hall : (l.map (Value.int .i64)).toArray.all (·.oneCell') = true := all_one l
      have HI := Aside0.mk hi
      have HA := Aside0.mk hall
      have HS := Aside0.mk hsz
      have HG := Aside0.mk h3
      clear hi hall hsz h3
      go_wp2_with (first | refine wpList_load_row rfl 30 _ rfl (w.heap.size + 1 + 1) rfl 30 (l.map (Value.int .i64)).toArray (0, 0) _ HG.out Try.underlying30 rfl HI.out ?_ | refine wpList_store_row rfl 30 _ _ rfl (w.heap.size + 1) (l.map (Value.int .i64)).toArray rfl rfl 30 _ H2.out HI.out (by rw [HS.out]; rfl) HA.out ?_)
      have hr := Blk.setRow H2.out l
      exact bodyPost_ret (results_cell_row (ty := 30) rfl _ _ (w.heap.size + 1) 30 _ (0, 0) _ rfl hr Try.underlying30 rfl HI.out) rfl ⟨rfl, belowRow HB.out (by omega) _⟩
set_option maxHeartbeats 1000000 in
theorem eqTable_calls (a b : List Int) (ha : a.length = 9) (hb : b.length = 9) (w : World) :
    Calls Try.prog 30 #[.agg (a.map (Value.int .i64)).toArray, .agg (b.map (Value.int .i64)).toArray] w fun e w' => e = .returned (.bool (decide (a = b))) ∧ Below w.heap.size w w' := by
  have HLA := Aside0.mk ha
  have HLB := Aside0.mk hb
  clear ha hb
  go_enter Try.func30, Try.ntmps30
  go_wp2
  go_loopw [5] (fun v5 w' => ∃ j : Nat, j ≤ 9 ∧ v5 = .int .i64 j ∧ Aside0 (Blk w' w.heap.size 24 a) ∧ Aside0 (Blk w' (w.heap.size + 1) 24 b) ∧ Aside0 (a.take j = b.take j) ∧ Aside0 (Below w.heap.size w w')) (fun v5 _ => 9 - (intOf v5).toNat)
  case atStart =>
    refine ⟨0, by omega, rfl, ⟨(Blk.made w 24 a).alloc _⟩, ⟨?_⟩, ⟨rfl⟩, ⟨below_alloc (below_alloc (Below.refl _ _) _) _⟩⟩
    have := Blk.made (w.alloc (Obj.cells (List.map (Value.int IntKind.i64) a).toArray 24)) 24 b
    rwa [alloc_size] at this
  case round =>
    obtain ⟨j, hj, rfl, H1, H2, HT, HB⟩ := hrel
    by_cases hlt : j < 9
    · have hx := H1.out.cell j (by rw [HLA.out]; exact hlt)
      have hy := H2.out.cell j (by rw [HLB.out]; exact hlt)
      have HX := Aside0.mk (take_ext a b 9 j HLA.out HLB.out hlt HT.out)
      by_cases he : gt a j = gt b j
      · have he2 : (gt a j != gt b j) = false := bne_eq_false_iff_eq.mpr he
        have HE := Aside0.mk he
        clear he
        go_wp2
        repeat (go_quiet (fail); try go_wp2)
        go_roundw
        case rel => exact ⟨j + 1, by omega, by simp, ⟨H1.out⟩, ⟨H2.out⟩, ⟨HX.out.mpr HE.out⟩, ⟨by repeat (first | (with_reducible first | exact HB.out | apply below_alloc | apply pw_below_drewN | apply below_drew1) | exact HB.out)⟩⟩
        case measure => simp [intOf]; omega
      · have he2 : (gt a j != gt b j) = true := bne_iff_ne.mpr he
        have HE := Aside0.mk he
        clear he
        go_wp2
        repeat (go_quiet (fail); try go_wp2)
        go_ret
        exact ⟨by rw [decide_eq_false (fun h : a = b => HE.out (by rw [h]))]; rfl, by repeat (first | (with_reducible first | exact HB.out | apply below_alloc | apply pw_below_drewN | apply below_drew1) | exact HB.out)⟩
    · have hjn : j = 9 := by omega
      subst hjn
      have h : a = b := by
        have := HT.out
        rwa [List.take_of_length_le (by rw [HLA.out]; exact Nat.le_refl _), List.take_of_length_le (by rw [HLB.out]; exact Nat.le_refl _)] at this
      have HE := Aside0.mk h
      clear h
      go_wp2
      go_ret
      exact ⟨by rw [decide_eq_true HE.out]; rfl, by repeat (first | (with_reducible first | exact HB.out | apply below_alloc | apply pw_below_drewN | apply below_drew1) | exact HB.out)⟩
set_option maxHeartbeats 1000000 in
theorem eqCarryMap_calls (a b : List Int) (ha : a.length = 3) (hb : b.length = 3) (w : World) :
    Calls Try.prog 23 #[.agg (a.map (Value.int .i64)).toArray, .agg (b.map (Value.int .i64)).toArray] w fun e w' => e = .returned (.bool (decide (a = b))) ∧ Below w.heap.size w w' := by
  have HLA := Aside0.mk ha
  have HLB := Aside0.mk hb
  clear ha hb
  go_enter Try.func23, Try.ntmps23
  go_wp2
  go_loopw [5] (fun v5 w' => ∃ j : Nat, j ≤ 3 ∧ v5 = .int .i64 j ∧ Aside0 (Blk w' w.heap.size 30 a) ∧ Aside0 (Blk w' (w.heap.size + 1) 30 b) ∧ Aside0 (a.take j = b.take j) ∧ Aside0 (Below w.heap.size w w')) (fun v5 _ => 3 - (intOf v5).toNat)
  case atStart =>
    refine ⟨0, by omega, rfl, ⟨(Blk.made w 30 a).alloc _⟩, ⟨?_⟩, ⟨rfl⟩, ⟨below_alloc (below_alloc (Below.refl _ _) _) _⟩⟩
    have := Blk.made (w.alloc (Obj.cells (List.map (Value.int IntKind.i64) a).toArray 30)) 30 b
    rwa [alloc_size] at this
  case round =>
    obtain ⟨j, hj, rfl, H1, H2, HT, HB⟩ := hrel
    by_cases hlt : j < 3
    · have hx := H1.out.cell j (by rw [HLA.out]; exact hlt)
      have hy := H2.out.cell j (by rw [HLB.out]; exact hlt)
      have HX := Aside0.mk (take_ext a b 3 j HLA.out HLB.out hlt HT.out)
      by_cases he : gt a j = gt b j
      · have he2 : (gt a j != gt b j) = false := bne_eq_false_iff_eq.mpr he
        have HE := Aside0.mk he
        clear he
        go_wp2
        repeat (go_quiet (fail); try go_wp2)
        go_roundw
        case rel => exact ⟨j + 1, by omega, by simp, ⟨H1.out⟩, ⟨H2.out⟩, ⟨HX.out.mpr HE.out⟩, ⟨by repeat (first | (with_reducible first | exact HB.out | apply below_alloc | apply pw_below_drewN | apply below_drew1) | exact HB.out)⟩⟩
        case measure => simp [intOf]; omega
      · have he2 : (gt a j != gt b j) = true := bne_iff_ne.mpr he
        have HE := Aside0.mk he
        clear he
        go_wp2
        repeat (go_quiet (fail); try go_wp2)
        go_ret
        exact ⟨by rw [decide_eq_false (fun h : a = b => HE.out (by rw [h]))]; rfl, by repeat (first | (with_reducible first | exact HB.out | apply below_alloc | apply pw_below_drewN | apply below_drew1) | exact HB.out)⟩
    · have hjn : j = 3 := by omega
      subst hjn
      have h : a = b := by
        have := HT.out
        rwa [List.take_of_length_le (by rw [HLA.out]; exact Nat.le_refl _), List.take_of_length_le (by rw [HLB.out]; exact Nat.le_refl _)] at this
      have HE := Aside0.mk h
      clear h
      go_wp2
      go_ret
      exact ⟨by rw [decide_eq_true HE.out]; rfl, by repeat (first | (with_reducible first | exact HB.out | apply below_alloc | apply pw_below_drewN | apply below_drew1) | exact HB.out)⟩
end Go.Proofs.Ytegknmpphbkgpaa.HA
