/- Plain facts of tables; the table that is drawn from a code. -/
import Derived.Test.YtegknmpphbkgpaaProg
import Derived.Below
import Derived.WalkSpells
import Derived.Deep.Draws
import Derived.Deep.AppendLies
import Derived.Maps.AppendAt
import Derived.OwnWalk
import Derived.Laws.BytesArg
import Derived.Laws.MakeOwn
import Derived.Laws.OwnMore
import Derived.Deep.OwnRows
import Derived.Tactics
import Derived.Lib.ConvBytes
import Derived.Laws.Slices
import Derived.WalkKit
import Derived.KernelRfl
import Derived.RowKit3
import Derived.Deep.LoopGhost
import Derived.Deep.QuietTactic
import Derived.BigQuiet
import Derived.WideLaws
import Derived.Deep.DeepCutAuto
import Derived.Deep.CutBlock
import Derived.Deep.RegionHeld3
import Derived.Laws.Rows
import Derived.Lib.AppendStr
import Derived.ArgAppend
import Derived.Laws.IdiomCopy
import Derived.OrdersHeld
import Derived.Laws.BitsLemmas
import Derived.RowKit
import Derived.Test.YtegknmpphbkgpaaWWords
import Derived.Test.YtegknmpphbkgpaaWLast
import Derived.Test.YtegknmpphbkgpaaWTab
import Derived.Test.YtegknmpphbkgpaaWFour
import Derived.Test.YtegknmpphbkgpaaWQPut
import Derived.Test.YtegknmpphbkgpaaWApart
import Derived.Test.YtegknmpphbkgpaaWArr
import Derived.Test.YtegknmpphbkgpaaWZeros
import Derived.Test.YtegknmpphbkgpaaWFoot
import Derived.Test.YtegknmpphbkgpaaWKept
import Derived.Test.YtegknmpphbkgpaaWShare
import Derived.Test.YtegknmpphbkgpaaWN
import Derived.Test.YtegknmpphbkgpaaWFootNe
import Derived.Test.YtegknmpphbkgpaaWAt
import Derived.Test.YtegknmpphbkgpaaWEqStruct
import Derived.Test.YtegknmpphbkgpaaWRepsOne
import Derived.Test.YtegknmpphbkgpaaWInv
import Derived.Test.YtegknmpphbkgpaaWInvWords
import Derived.Test.YtegknmpphbkgpaaWGuard
import Derived.Test.YtegknmpphbkgpaaWNEv
import Derived.Test.YtegknmpphbkgpaaWMore
import Derived.Test.YtegknmpphbkgpaaHG
import Derived.Test.YtegknmpphbkgpaaHV
import Derived.Test.YtegknmpphbkgpaaHX
import Derived.Test.YtegknmpphbkgpaaHS
import Derived.Test.YtegknmpphbkgpaaHF
import Derived.Test.YtegknmpphbkgpaaHQ
import Derived.Test.YtegknmpphbkgpaaHO2
set_option linter.unusedVariables false
set_option linter.unusedSimpArgs false
namespace Go.Proofs.Ytegknmpphbkgpaa.HG2
open Go.RowKit Go.Proofs.YtegknmpphbkgpaaW.PrintWords Go.Proofs.YtegknmpphbkgpaaW.PrintLast Go.Proofs.YtegknmpphbkgpaaW.PrintMore Go.Proofs.Ytegknmpphbkgpaa.HA Go.Proofs.Ytegknmpphbkgpaa.HL Go.Proofs.Ytegknmpphbkgpaa.HM Go.Proofs.Ytegknmpphbkgpaa.HK Go.Proofs.Ytegknmpphbkgpaa.HD Go.Proofs.Ytegknmpphbkgpaa.HS Go.Proofs.Ytegknmpphbkgpaa.HF Go.Proofs.Ytegknmpphbkgpaa.HP Go.Proofs.Ytegknmpphbkgpaa.HQ Go.Proofs.Ytegknmpphbkgpaa.HW Go.Proofs.Ytegknmpphbkgpaa.HX Go.Proofs.Ytegknmpphbkgpaa.HV Go.Proofs.Ytegknmpphbkgpaa.HO Go.Proofs.Ytegknmpphbkgpaa.HO2 Go.Proofs.Ytegknmpphbkgpaa.HG Go.Proofs.Ytegknmpphbkgpaa.QFnTables
theorem ext9 (l m : List Int) (hl : l.length = 9) (hm : m.length = 9) (h : ∀ j i : Nat, j < 3 → i < 3 → gt l (3 * j + i) = gt m (3 * j + i)) : l = m := by
  apply List.ext_getElem (by rw [hl, hm])
  intro k h1 h2
  have hk : k < 9 := by omega
  have := h (k / 3) (k % 3) (by omega) (by omega)
  rw [show 3 * (k / 3) + k % 3 = k by omega] at this
  simpa [gt, List.getD_eq_getElem?_getD, h1, h2] using this
theorem look_at (l : List Int) (h : l.all isT = true) (j i : Nat) (hj : j < 3) (hi : i < 3) : lookL l ((j : Int) - 1) ((i : Int) - 1) = gt l (3 * j + i) := by
  unfold lookL
  rw [h, show (isT ((j : Int) - 1) && isT ((i : Int) - 1)) = true by rw [isT_iff.mpr (by omega), isT_iff.mpr (by omega)]; rfl]
  simp only [Bool.and_self, if_true]
  congr 1
  omega
theorem gen_all (F : Int → Int → Int) (h : ∀ a b : Int, -1 ≤ F a b ∧ F a b ≤ 1) : (genL F).all isT = true := by
  rw [List.all_eq_true]
  intro x hx
  obtain ⟨k, _, rfl⟩ := List.mem_map.mp hx
  exact isT_iff.mpr (h _ _)
theorem swap_all (l : List Int) : (genL (swapF l)).all isT = true := gen_all _ fun a b => ⟨lookL_low l b a, lookL_high l b a⟩
theorem dual_all (l : List Int) : (genL (dualF l)).all isT = true := gen_all _ fun a b => by
  unfold dualF
  have := lookL_low l (-a) (-b)
  have := lookL_high l (-a) (-b)
  omega
theorem swap_at (l : List Int) (h : l.all isT = true) (j i : Nat) (hj : j < 3) (hi : i < 3) : gt (genL (swapF l)) (3 * j + i) = gt l (3 * i + j) := by
  rw [gt_gen2 _ j i hj hi]
  exact look_at l h i j hi hj
theorem dual_at (l : List Int) (h : l.all isT = true) (j i : Nat) (hj : j < 3) (hi : i < 3) : gt (genL (dualF l)) (3 * j + i) = -gt l (3 * (2 - j) + (2 - i)) := by
  rw [gt_gen2 _ j i hj hi]
  have := look_at l h (2 - j) (2 - i) (by omega) (by omega)
  rw [show ((2 - j : Nat) : Int) - 1 = -((j : Int) - 1) by omega, show ((2 - i : Nat) : Int) - 1 = -((i : Int) - 1) by omega] at this
  unfold dualF
  rw [this]
theorem swap2 (l : List Int) (hl : l.length = 9) (h : l.all isT = true) : genL (swapF (genL (swapF l))) = l :=
  ext9 _ _ (genL_len _) hl fun j i hj hi => by rw [swap_at _ (swap_all l) j i hj hi, swap_at l h i j hi hj]
theorem dual2 (l : List Int) (hl : l.length = 9) (h : l.all isT = true) : genL (dualF (genL (dualF l))) = l :=
  ext9 _ _ (genL_len _) hl fun j i hj hi => by
    rw [dual_at _ (dual_all l) j i hj hi, dual_at l h (2 - j) (2 - i) (by omega) (by omega), Int.neg_neg]
    congr 1
    omega
theorem mono_iff (l : List Int) (h : l.all isT = true) : monoL l = true ↔ (gt l 0 ≤ gt l 1 ∧ gt l 1 ≤ gt l 2 ∧ gt l 3 ≤ gt l 4 ∧ gt l 4 ≤ gt l 5 ∧ gt l 6 ≤ gt l 7 ∧ gt l 7 ≤ gt l 8) ∧ (gt l 0 ≤ gt l 3 ∧ gt l 3 ≤ gt l 6 ∧ gt l 1 ≤ gt l 4 ∧ gt l 4 ≤ gt l 7 ∧ gt l 2 ≤ gt l 5 ∧ gt l 5 ≤ gt l 8) := by
  unfold monoL
  rw [h, Bool.true_and]
  show (goodAt l 0 && (goodAt l 1 && (goodAt l 2 && (goodAt l 3 && (goodAt l 4 && (goodAt l 5 && (goodAt l 6 && (goodAt l 7 && (goodAt l 8 && true))))))))) = true ↔ _
  simp only [goodAt, Nat.reduceLeDiff, decide_true, decide_false, Nat.reduceMod, Nat.reduceSub, Nat.lt_irrefl, Nat.reduceLT, Nat.zero_mod, Bool.false_and, Bool.true_and, Bool.not_false, Bool.and_true, Bool.and_eq_true, Bool.not_eq_true', decide_eq_false_iff_not]
  omega
theorem mono_swap (l : List Int) (h : l.all isT = true) : monoL (genL (swapF l)) = monoL l := by
  have s := fun j i hj hi => swap_at l h j i hj hi
  have s0 := s 0 0 (by omega) (by omega); have s1 := s 0 1 (by omega) (by omega); have s2 := s 0 2 (by omega) (by omega)
  have s3 := s 1 0 (by omega) (by omega); have s4 := s 1 1 (by omega) (by omega); have s5 := s 1 2 (by omega) (by omega)
  have s6 := s 2 0 (by omega) (by omega); have s7 := s 2 1 (by omega) (by omega); have s8 := s 2 2 (by omega) (by omega)
  simp only [Nat.reduceMul, Nat.reduceAdd] at s0 s1 s2 s3 s4 s5 s6 s7 s8
  rw [Bool.eq_iff_iff, mono_iff l h, mono_iff _ (swap_all l), s0, s1, s2, s3, s4, s5, s6, s7, s8]
  clear s s0 s1 s2 s3 s4 s5 s6 s7 s8
  omega
theorem mono_dual (l : List Int) (h : l.all isT = true) : monoL (genL (dualF l)) = monoL l := by
  have s := fun j i hj hi => dual_at l h j i hj hi
  have s0 := s 0 0 (by omega) (by omega); have s1 := s 0 1 (by omega) (by omega); have s2 := s 0 2 (by omega) (by omega)
  have s3 := s 1 0 (by omega) (by omega); have s4 := s 1 1 (by omega) (by omega); have s5 := s 1 2 (by omega) (by omega)
  have s6 := s 2 0 (by omega) (by omega); have s7 := s 2 1 (by omega) (by omega); have s8 := s 2 2 (by omega) (by omega)
  simp only [Nat.reduceMul, Nat.reduceAdd, Nat.reduceSub] at s0 s1 s2 s3 s4 s5 s6 s7 s8
  rw [Bool.eq_iff_iff, mono_iff l h, mono_iff _ (dual_all l), s0, s1, s2, s3, s4, s5, s6, s7, s8]
  clear s s0 s1 s2 s3 s4 s5 s6 s7 s8
  omega
theorem bt_str (xs : List Int) (h : ∀ x ∈ xs, 0 ≤ x ∧ x ≤ 255) (i : Nat) (hi : i < xs.length) : bt (strOfNums xs) (i : Int) = xs.getD i 0 := by
  have hm : xs.getD i 0 ∈ xs := by rw [List.getD_eq_getElem?_getD, List.getElem?_eq_getElem hi]; exact List.getElem_mem hi
  have hx := h _ hm
  have hs : ((i : Int)).toNat < (strOfNums xs).size := by rw [strOfNums_size]; simpa using hi
  unfold bt
  rw [dif_pos hs]
  have e : (strOfNums xs)[((i : Int)).toNat]'hs = UInt8.ofNat (xs.getD i 0).toNat := by
    simp [strOfNums, ByteArray.getElem_eq_getElem_data, List.getD_eq_getElem?_getD, List.getElem?_eq_getElem hi]
  rw [e, UInt8.toNat_ofNat']
  omega
theorem chr_b (a : Int) (h : -1 ≤ a ∧ a ≤ 1) : (0 ≤ chr a ∧ chr a ≤ 255) ∧ trB (chr a) = a := by
  obtain rfl | rfl | rfl := (show a = -1 ∨ a = 0 ∨ a = 1 by omega)
  all_goals decide
theorem par_fmt (l : List Int) (hl : l.length = 9) (h : l.all isT = true) : parL (fmtL l) = l ∧ parB (fmtL l) = true ∧ (fmtL l).size = 9 := by
  have hw : ∀ x ∈ l, -1 ≤ x ∧ x ≤ 1 := fun x hx => isT_iff.mp (List.all_eq_true.mp h x hx)
  have hb : ∀ x ∈ l.map chr, 0 ≤ x ∧ x ≤ 255 := by
    intro x hx
    obtain ⟨a, ha, rfl⟩ := List.mem_map.mp hx
    exact (chr_b a (hw a ha)).1
  have hs : (strOfNums (l.map chr)).size = 9 := by rw [strOfNums_size]; simpa using hl
  have ht : trs (strOfNums (l.map chr)) = l := by
    apply List.ext_getElem
    · rw [trs_len, hs, hl]
    · intro p h1 h2
      have hp : p < (strOfNums (l.map chr)).size := by rwa [trs_len] at h1
      have e := trs_get (strOfNums (l.map chr)) p hp
      rw [bt_str _ hb p (by simpa using h2)] at e
      have e2 : (l.map chr).getD p 0 = chr l[p] := by simp [List.getD_eq_getElem?_getD, h2]
      rw [e2, (chr_b _ (hw _ (List.getElem_mem h2))).2] at e
      simpa [List.getD_eq_getElem?_getD, h1] using e
  have hf : fmtL l = strOfNums (l.map chr) := by unfold fmtL; rw [h]; rfl
  refine ⟨?_, ?_, by rw [hf, hs]⟩
  · unfold parL
    rw [hf, ht, if_pos ⟨hs, h⟩]
  · unfold parB
    rw [hf, ht, decide_eq_true ⟨hs, h⟩]
/-- The tables that the law names. -/
def minT : List Int := [-1, -1, -1, -1, 0, 0, -1, 0, 1]
def maxT : List Int := [-1, 0, 1, 0, 0, 1, 1, 1, 1]
def anyT : List Int := [-1, -1, 0, -1, 0, 1, 0, 1, 1]
def timesT : List Int := [1, 0, -1, 0, 0, 0, -1, 0, 1]
theorem min_eq : genL (valF ⟨#[109, 105, 110]⟩) = minT := by decide +kernel
theorem max_eq : genL (valF ⟨#[109, 97, 120]⟩) = maxT := by decide +kernel
theorem any_eq : genL (valF ⟨#[97, 110, 121]⟩) = anyT := by decide +kernel
theorem times_eq : genL (valF ⟨#[116, 105, 109, 101, 115]⟩) = timesT := by decide +kernel
theorem dual_min : genL (dualF minT) = maxT := by decide +kernel
theorem mono_any : monoL anyT = true := by decide +kernel
theorem mono_times : monoL timesT = false := by decide +kernel
/-- The names of the tables. -/
def names : List ByteArray := [⟨#[109, 105, 110]⟩, ⟨#[109, 97, 120]⟩, ⟨#[97, 103, 114, 101, 101]⟩, ⟨#[97, 110, 121]⟩, ⟨#[116, 105, 109, 101, 115]⟩, ⟨#[115, 117, 109]⟩, ⟨#[99, 97, 114, 114, 121]⟩]
theorem anyTable (s : ByteArray) (w : World) : Calls Try.prog 37 #[.string s] w fun e w' => (∃ T : List Int, T.length = 9 ∧ e = .returned (.agg (T.map (Value.int .i64)).toArray)) ∧ Below w.heap.size w w' :=
  (sTableOf s w).mono fun e w' h => ⟨⟨_, genL_len _, h.1⟩, h.2⟩
set_option maxHeartbeats 2000000 in
theorem l1Table_calls (g : Nat) (b : List Int) (hb : b.length ≤ 1000000000000) (w0 w : World) (h : Cur w0 w g b) (hB : Below w0.heap.size w0 w) :
    Calls Try.prog 67 #[.pointer (some ⟨g, 0, none⟩)] w fun e w' => (∃ T : List Int, T.length = 9 ∧ e = .returned (.agg (T.map (Value.int .i64)).toArray)) ∧ Below w0.heap.size w0 w' := by
  have HL := Aside0.mk hb
  have HG := Aside0.mk h.lt
  have H00 := Aside0.mk hB.size
  have C0 := Aside0.mk ((h.alloc (Obj.cells (List.map (Value.int IntKind.i64) (List.replicate 9 0)).toArray 24)).alloc (Obj.cells (List.map Value.string names).toArray 9))
  have HB0 := Aside0.mk (below_alloc (below_alloc hB (Obj.cells (List.map (Value.int IntKind.i64) (List.replicate 9 0)).toArray 24)) (Obj.cells (List.map Value.string names).toArray 9))
  have K0 := Aside0.mk ((Blk.made w 24 (List.replicate 9 0)).alloc (Obj.cells (List.map Value.string names).toArray 9))
  have hrow : ((w.alloc (Obj.cells (List.map (Value.int IntKind.i64) (List.replicate 9 0)).toArray 24)).alloc (Obj.cells (List.map Value.string names).toArray 9)).heap[w.heap.size + 1]? = some (.cells (names.map Value.string).toArray 9 (0, 0)) := by
    have := heap_alloc_new (w.alloc (Obj.cells (List.map (Value.int IntKind.i64) (List.replicate 9 0)).toArray 24)) (Obj.cells (List.map Value.string names).toArray 9)
    rwa [alloc_size] at this
  have HR := Aside0.mk hrow
  clear hb h hB hrow
  go_enter Try.func67, Try.ntmps67
  go_upto_if 10 with (first
    | (go_at_call 80; refine (cur_pick C0.out HB0.out HL.out (w.heap.size + 1) 9 names rfl HR.out (by have := HG.out; omega)).mono ?_; rintro e w1 ⟨s, rfl, c1, b1, k1⟩; have C1 := Aside0.mk c1; have HB1 := Aside0.mk b1; have K1 := Aside0.mk (Blk.keep K0.out k1 (by have := HG.out; omega)); clear c1 b1 k1 C0 HB0 K0 HR)
    | (go_at_call 37; refine (anyTable s _).mono ?_; rintro e w2 ⟨⟨T, hT, rfl⟩, hb⟩; have HT := Aside0.mk hT; have HI := Aside0.mk (show (Try.prog.info? 24).map (·.size) = some (T.map (Value.int .i64)).toArray.size by rw [info24]; simp [hT]); have HS := Aside0.mk (show (T.map (Value.int .i64)).toArray.size = 9 by simp [hT]); have HA := Aside0.mk (all_one T); have C2 := Aside0.mk (C1.out.below hb); have HB2 := Aside0.mk (below_step HB1.out hb); have K2 := Aside0.mk (K1.out.below hb); clear hT hb C1 HB1 K1)
    | (refine wpList_store_row rfl 24 _ _ rfl w2.heap.size (T.map (Value.int .i64)).toArray rfl rfl 24 _ (Blk.made w2 24 (List.replicate 9 0)) HI.out (by rw [HS.out]; rfl) HA.out ?_; have M2 := Aside0.mk ((Blk.made w2 24 (List.replicate 9 0)).setRow T); have C3 := Aside0.mk ((C2.out.alloc (Obj.cells (List.map (Value.int IntKind.i64) (List.replicate 9 0)).toArray 24)).row (k := w2.heap.size) (by have := C2.out.lt; omega) (T.map (Value.int .i64)).toArray); have HB3 := Aside0.mk (belowRow (below_alloc HB2.out (Obj.cells (List.map (Value.int IntKind.i64) (List.replicate 9 0)).toArray 24)) HB2.out.size (T.map (Value.int .i64)).toArray); have HN := Aside0.mk (show w2.heap.size ≠ g ∧ w.heap.size ≠ g ∧ w2.heap.size ≠ w.heap.size by have := C2.out.lt; have := HG.out; have := K2.out.lt; omega); have HN0 := Aside0.mk (show w0.heap.size ≤ w2.heap.size ∧ w0.heap.size ≤ w.heap.size from ⟨HB2.out.size, H00.out⟩); have K3 := Aside0.mk ((K2.out.alloc (Obj.cells (List.map (Value.int IntKind.i64) (List.replicate 9 0)).toArray 24)).otherRow (cs := (T.map (Value.int .i64)).toArray) HN.out.2.2); clear C2 HB2 K2)
    | (go_at_call 81; refine (cur_once C3.out HB3.out HL.out 2 (by omega)).mono ?_; rintro e w3 ⟨c, rfl, c1, b1, k1⟩; have C4 := Aside0.mk c1; have HB4 := Aside0.mk b1; have K4 := Aside0.mk (Blk.keep K3.out k1 HN.out.2.1); have M4 := Aside0.mk (Blk.keep M2.out k1 HN.out.1); clear c1 b1 k1 C3 HB3 K3 M2))
  go_cut [4] (fun s4 wx => ∃ T : List Int, Aside0 (T.length = 9) ∧ Aside0 (Cur w0 wx g b) ∧ Aside0 (Blk wx w.heap.size 24 (List.replicate 9 0)) ∧ Aside0 (Blk wx w2.heap.size 24 T) ∧ Aside0 (Below w0.heap.size w0 wx))
  case first =>
    cases c with
    | false =>
      go_wp2
      go_meet
      exact ⟨T, HT, C4, K4, M4, HB4⟩
    | true =>
      go_wp2
      go_loopw [4] (fun v4 w' => ∃ j : Nat, ∃ T' : List Int, j ≤ 9 ∧ v4 = .int .i64 j ∧ Aside0 (T'.length = 9) ∧ Aside0 (Cur w0 w' g b) ∧ Aside0 (Blk w' w.heap.size 24 (List.replicate 9 0)) ∧ Aside0 (Blk w' w2.heap.size 24 T') ∧ Aside0 (Below w0.heap.size w0 w')) (fun v4 _ => 9 - (intOf v4).toNat)
      case atStart => exact ⟨0, T, by omega, rfl, HT, C4, K4, M4, HB4⟩
      case round =>
        clear C4 K4 M4 HB4 HT HI HS HA
        obtain ⟨j, T, hj, rfl, HT, C4, K4, M4, HB4⟩ := hrel
        by_cases hlt : j < 9
        · go_wp2_with (go_at_call 69; refine (cur_below C4.out HB4.out HL.out 3 (by omega)).mono ?_; rintro e w4 ⟨r, rfl, r1, r2, c1, b1, k1⟩; have C5 := Aside0.mk c1; have HB5 := Aside0.mk b1; have K5 := Aside0.mk (Blk.keep K4.out k1 HN.out.2.1); have M5 := Aside0.mk (Blk.keep M4.out k1 HN.out.1); have hx := M5.out.cell j (by rw [HT.out]; exact hlt); have hf := M5.out.fro j; clear c1 b1 k1 C4 HB4 K4 M4)
          go_roundw
          case rel => exact ⟨j + 1, T.set j (r - 1), by omega, by simp, ⟨by rw [List.length_set]; exact HT.out⟩, ⟨C5.out.far (p := ⟨w2.heap.size, j, none⟩) (Ne.symm HN.out.1) _⟩, ⟨K5.out.other HN.out.2.2⟩, ⟨M5.out.set j _⟩, ⟨below_set HB5.out HN0.out.1⟩⟩
          case measure => simp [intOf]; omega
        · go_wp2
          go_meet
          exact ⟨T, HT, C4, K4, M4, HB4⟩
  case rest =>
    obtain ⟨T, HT, C4, K4, M4, HB4⟩ := hcut
    go_upto_if 21 with (go_at_call 81; refine (cur_once C4.out HB4.out HL.out 15 (by omega)).mono ?_; rintro e w3 ⟨c, rfl, c1, b1, k1⟩; have C5 := Aside0.mk c1; have HB5 := Aside0.mk b1; have K5 := Aside0.mk (Blk.keep K4.out k1 HN.out.2.1); have M5 := Aside0.mk (Blk.keep M4.out k1 HN.out.1); clear c1 b1 k1 C4 HB4 K4 M4)
    go_cut [] (fun wx => ∃ T : List Int, Aside0 (T.length = 9) ∧ Aside0 (Cur w0 wx g b) ∧ Aside0 (Blk wx w.heap.size 24 (List.replicate 9 0)) ∧ Aside0 (Blk wx w2.heap.size 24 T) ∧ Aside0 (Below w0.heap.size w0 wx))
    case first =>
      cases c with
      | false =>
        go_wp2
        go_meet
        exact ⟨T, HT, C5, K5, M5, HB5⟩
      | true =>
        go_wp2_with (first
          | (go_at_call 69; refine (cur_below C5.out HB5.out HL.out 9 (by omega)).mono ?_; rintro e w4 ⟨r, rfl, r1, r2, c1, b1, k1⟩; obtain ⟨m, rfl⟩ : ∃ m : Nat, r = m := ⟨r.toNat, by omega⟩; have C6 := Aside0.mk (c1.alloc (Obj.cells (List.map (Value.int IntKind.i64) [-2, 2, -9223372036854775808]).toArray 3)); have HB6 := Aside0.mk (below_alloc b1 (Obj.cells (List.map (Value.int IntKind.i64) [-2, 2, -9223372036854775808]).toArray 3)); have K6 := Aside0.mk ((Blk.keep K5.out k1 HN.out.2.1).alloc (Obj.cells (List.map (Value.int IntKind.i64) [-2, 2, -9223372036854775808]).toArray 3)); have M6 := Aside0.mk ((Blk.keep M5.out k1 HN.out.1).alloc (Obj.cells (List.map (Value.int IntKind.i64) [-2, 2, -9223372036854775808]).toArray 3)); have HM := Aside0.mk (show m < 9 by omega); have R6 := Aside0.mk (Blk.made w4 3 [-2, 2, -9223372036854775808]); have HN6 := Aside0.mk (show w4.heap.size ≠ g by have := c1.lt; omega); clear c1 b1 k1 C5 HB5 K5 M5)
          | (go_at_call 82; refine (cur_int C6.out HB6.out HL.out w4.heap.size 3 [-2, 2, -9223372036854775808] rfl R6.out HN6.out).mono ?_; rintro e w5 ⟨r, rfl, c1, b1, k1⟩; have C7 := Aside0.mk c1; have HB7 := Aside0.mk b1; have K7 := Aside0.mk (Blk.keep K6.out k1 HN.out.2.1); have M7 := Aside0.mk (Blk.keep M6.out k1 HN.out.1); have hx := M7.out.cell m (by rw [HT.out]; exact HM.out); have hf := M7.out.fro m; have hm := HM.out; clear c1 b1 k1 C6 HB6 K6 M6 R6))
        go_meet
        exact ⟨T.set m r, ⟨by rw [List.length_set]; exact HT.out⟩, ⟨C7.out.far (p := ⟨w2.heap.size, m, none⟩) (Ne.symm HN.out.1) _⟩, ⟨K7.out.other HN.out.2.2⟩, ⟨M7.out.set m _⟩, ⟨below_set HB7.out HN0.out.1⟩⟩
    case rest =>
      clear C4 K4 M4 HB4
      obtain ⟨T, HT, C4, K4, M4, HB4⟩ := hcut
      have HI2 := Aside0.mk (show (Try.prog.info? 24).map (·.size) = some (T.map (Value.int .i64)).toArray.size by rw [info24]; simp [HT.out])
      have HS2 := Aside0.mk (show (T.map (Value.int .i64)).toArray.size = 9 by simp [HT.out])
      have HA2 := Aside0.mk (all_one T)
      go_wp2_with (first
        | refine wpList_load_row rfl 24 _ rfl w2.heap.size rfl 24 (T.map (Value.int .i64)).toArray (0, 0) _ M4.out Try.underlying24 rfl HI2.out ?_
        | refine wpList_store_row rfl 24 _ _ rfl w.heap.size (T.map (Value.int .i64)).toArray rfl rfl 24 _ K4.out HI2.out (by rw [HS2.out]; rfl) HA2.out ?_)
      have hr := Blk.setRow K4.out T
      exact bodyPost_ret (results_cell_row (ty := 24) rfl _ _ w.heap.size 24 _ (0, 0) _ rfl hr Try.underlying24 rfl HI2.out) rfl ⟨⟨T, HT.out, rfl⟩, belowRow HB4.out HN0.out.2 _⟩
set_option maxHeartbeats 2000000 in
theorem makeTable_calls (A0 : Option Addr) (c0 : Nat) (l0 : List Int) (w : World) (hr0 : Kd.C (Kd.int .u8) w A0 l0.length l0) (hc0 : l0.length ≤ c0) (hl : l0.length ≤ 1000000000000) :
    Calls Try.prog 39 #[.slice A0 l0.length c0] w fun e w' => (∃ T : List Int, T.length = 9 ∧ T.all isT = true ∧ e = .returned (.agg (T.map (Value.int .i64)).toArray)) ∧ Below w.heap.size w w' := by
  obtain ⟨y, hy⟩ := new_t 5000 l0 hl (by omega)
  have HZ := Aside0.mk (below_alloc (Below.refl w.heap.size w) (Obj.cells (List.map (Value.int IntKind.i64) (List.replicate 9 0)).toArray 24))
  have SN := Aside0.mk (spec_l01New.calls 5000 A0 c0 l0 l0 0 y (w.alloc (Obj.cells (List.map (Value.int IntKind.i64) (List.replicate 9 0)).toArray 24)) (w.alloc (Obj.cells (List.map (Value.int IntKind.i64) (List.replicate 9 0)).toArray 24)) (Below.refl _ _) (Kd.C_below hr0 HZ.out) hc0 hy)
  have HL := Aside0.mk hl
  have K0 := Aside0.mk (Blk.made w 24 (List.replicate 9 0))
  have HN := Aside0.mk (show (w.alloc (Obj.cells (List.map (Value.int IntKind.i64) (List.replicate 9 0)).toArray 24)).heap.size = w.heap.size + 1 by rw [alloc_size])
  obtain ⟨n0, hn⟩ : ∃ n0, n0 = l0.length := ⟨_, rfl⟩
  rw [← hn] at SN
  rw [← hn]
  clear hr0 hc0 hl hy hn
  go_enter Try.func39, Try.ntmps39
  go_upto_if 9 with (first
    | (go_at_call 68; refine SN.out.mono ?_; rintro e w1 ⟨g, rfl, hI, hb, -⟩; have C1 := Aside0.mk (show Cur (w.alloc (Obj.cells (List.map (Value.int IntKind.i64) (List.replicate 9 0)).toArray 24)) w1 g l0 from ⟨0, y, hI, by omega, by omega⟩); have HB1 := Aside0.mk hb; clear hI hb SN)
    | (go_at_call 67; refine (l1Table_calls g l0 HL.out (w.alloc (Obj.cells (List.map (Value.int IntKind.i64) (List.replicate 9 0)).toArray 24)) w1 C1.out HB1.out).mono ?_; rintro e w2 ⟨⟨T, hT, rfl⟩, hb⟩; have HT := Aside0.mk hT; have HI := Aside0.mk (show (Try.prog.info? 24).map (·.size) = some (T.map (Value.int .i64)).toArray.size by rw [info24]; simp [hT]); have HS := Aside0.mk (show (T.map (Value.int .i64)).toArray.size = 9 by simp [hT]); have HA := Aside0.mk (all_one T); have K2 := Aside0.mk (K0.out.below hb); have HB2 := Aside0.mk (below_step HZ.out hb); clear hT hb C1 HB1 K0 HZ)
    | (refine wpList_store_row rfl 24 _ _ rfl w2.heap.size (T.map (Value.int .i64)).toArray rfl rfl 24 _ (Blk.made w2 24 (List.replicate 9 0)) HI.out (by rw [HS.out]; rfl) HA.out ?_; have M3 := Aside0.mk ((Blk.made w2 24 (List.replicate 9 0)).setRow T); have K3 := Aside0.mk ((K2.out.alloc (Obj.cells (List.map (Value.int IntKind.i64) (List.replicate 9 0)).toArray 24)).otherRow (g' := w2.heap.size) (cs := (T.map (Value.int .i64)).toArray) (by have := K2.out.lt; omega)); have HB3 := Aside0.mk (belowRow (below_alloc HB2.out (Obj.cells (List.map (Value.int IntKind.i64) (List.replicate 9 0)).toArray 24)) HB2.out.size (T.map (Value.int .i64)).toArray); clear HB2 K2)
    | refine wpList_load_row rfl 24 _ rfl w2.heap.size rfl 24 (T.map (Value.int .i64)).toArray (0, 0) _ M3.out Try.underlying24 rfl HI.out ?_
    | (go_at_call 15; refine (sIsTable T HT.out _).mono ?_; rintro e w3 ⟨rfl, hb⟩; have M4 := Aside0.mk (M3.out.below hb); have K4 := Aside0.mk (K3.out.below hb); have HB4 := Aside0.mk (below_step HB3.out hb); clear hb M3 K3 HB3; obtain ⟨c, hc⟩ : ∃ c, c = T.all isT := ⟨_, rfl⟩; rw [← hc]; have HC := Aside0.mk hc; clear hc))
  cases c with
  | false =>
    have SA := Aside0.mk (sTableOf ⟨#[97, 110, 121]⟩)
    rw [any_eq] at SA
    have HIA := Aside0.mk (show (Try.prog.info? 24).map (·.size) = some (anyT.map (Value.int .i64)).toArray.size from info24)
    have HAA := Aside0.mk (all_one anyT)
    go_wp2_with (first
      | (go_at_call 37; refine (SA.out _).mono ?_; rintro e w4 ⟨rfl, hb⟩; have K5 := Aside0.mk (K4.out.below hb); have HB5 := Aside0.mk (below_step HB4.out hb); clear hb K4 HB4)
      | refine wpList_store_row rfl 24 _ _ rfl w.heap.size (anyT.map (Value.int .i64)).toArray rfl rfl 24 _ K5.out HIA.out rfl HAA.out ?_)
    have hr := Blk.setRow K5.out anyT
    exact bodyPost_ret (results_cell_row (ty := 24) rfl _ _ w.heap.size 24 _ (0, 0) _ rfl hr Try.underlying24 rfl HIA.out) rfl ⟨⟨anyT, rfl, rfl, rfl⟩, belowRow HB5.out (Nat.le_refl _) _⟩
  | true =>
    go_wp2_with (first
      | refine wpList_load_row rfl 24 _ rfl w2.heap.size rfl 24 (T.map (Value.int .i64)).toArray (0, 0) _ M4.out Try.underlying24 rfl HI.out ?_
      | refine wpList_store_row rfl 24 _ _ rfl w.heap.size (T.map (Value.int .i64)).toArray rfl rfl 24 _ K4.out HI.out (by rw [HS.out]; rfl) HA.out ?_)
    have hr := Blk.setRow K4.out T
    exact bodyPost_ret (results_cell_row (ty := 24) rfl _ _ w.heap.size 24 _ (0, 0) _ rfl hr Try.underlying24 rfl HI.out) rfl ⟨⟨T, HT.out, HC.out.symm, rfl⟩, belowRow HB4.out (Nat.le_refl _) _⟩
theorem trits_calls (w : World) : Calls Try.prog 40 #[] w fun e w' => (e = .returned (.slice (some ⟨w.heap.size, 0, none⟩) 3 3)) ∧ Blk w' w.heap.size 3 [-1, 0, 1] ∧ Below w.heap.size w w' := by
  go_enter Try.func40, Try.ntmps40
  go_wp2
  go_ret
  exact ⟨rfl, Blk.made w 3 [-1, 0, 1], below_alloc (Below.refl _ _) _⟩
end Go.Proofs.Ytegknmpphbkgpaa.HG2
