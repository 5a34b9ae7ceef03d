/- What FormatTable answers. Nine numbers. -/
import Derived.Test.YtegknmpphbkgpaaProg
import Derived.Below
import Derived.WalkSpells
import Derived.Deep.Draws
import Derived.Deep.AppendLies
import Derived.Maps.AppendAt
import Derived.OwnWalk
import Derived.Laws.BytesArg
import Derived.Laws.MakeOwn
import Derived.Laws.OwnMore
import Derived.Deep.OwnRows
import Derived.Tactics
import Derived.Lib.ConvBytes
import Derived.Laws.Slices
import Derived.WalkKit
import Derived.KernelRfl
import Derived.RowKit3
import Derived.Deep.LoopGhost
import Derived.Deep.QuietTactic
import Derived.BigQuiet
import Derived.WideLaws
import Derived.Deep.DeepCutAuto
import Derived.Deep.CutBlock
import Derived.Deep.RegionHeld3
import Derived.Laws.Rows
import Derived.Lib.AppendStr
import Derived.ArgAppend
import Derived.Laws.IdiomCopy
import Derived.OrdersHeld
import Derived.Laws.BitsLemmas
import Derived.RowKit
import Derived.Test.YtegknmpphbkgpaaWWords
import Derived.Test.YtegknmpphbkgpaaWLast
import Derived.Test.YtegknmpphbkgpaaWTab
import Derived.Test.YtegknmpphbkgpaaWFour
import Derived.Test.YtegknmpphbkgpaaWQPut
import Derived.Test.YtegknmpphbkgpaaWApart
import Derived.Test.YtegknmpphbkgpaaWArr
import Derived.Test.YtegknmpphbkgpaaWZeros
import Derived.Test.YtegknmpphbkgpaaWFoot
import Derived.Test.YtegknmpphbkgpaaWKept
import Derived.Test.YtegknmpphbkgpaaWShare
import Derived.Test.YtegknmpphbkgpaaWN
import Derived.Test.YtegknmpphbkgpaaWFootNe
import Derived.Test.YtegknmpphbkgpaaWAt
import Derived.Test.YtegknmpphbkgpaaWEqStruct
import Derived.Test.YtegknmpphbkgpaaWRepsOne
import Derived.Test.YtegknmpphbkgpaaWInv
import Derived.Test.YtegknmpphbkgpaaWInvWords
import Derived.Test.YtegknmpphbkgpaaWGuard
import Derived.Test.YtegknmpphbkgpaaWNEv
import Derived.Test.YtegknmpphbkgpaaWMore
import Derived.Test.YtegknmpphbkgpaaHL
import Derived.Test.YtegknmpphbkgpaaPFnExactFormatTablex1
set_option linter.unusedVariables false
set_option linter.unusedSimpArgs false
namespace Go.Proofs.Ytegknmpphbkgpaa.HF
open Go.RowKit Go.Proofs.YtegknmpphbkgpaaW.PrintWords Go.Proofs.YtegknmpphbkgpaaW.PrintLast Go.Proofs.YtegknmpphbkgpaaW.PrintMore Go.Proofs.Ytegknmpphbkgpaa.HA Go.Proofs.Ytegknmpphbkgpaa.HL Go.Proofs.Ytegknmpphbkgpaa.PFnExactFormatTable
theorem str_append (xs ys : List Int) : strOfNums (xs ++ ys) = strOfNums xs ++ strOfNums ys := by
  apply ByteArray.ext; simp [strOfNums, ByteArray.data_append]
theorem str_nil : strOfNums [] = (⟨#[]⟩ : ByteArray) := rfl
/-- A trit's byte. -/
def chr (a : Int) : Int := bt (⟨#[45, 48, 43]⟩ : ByteArray) (a + 1)
theorem trit3 {a : Int} (h : -1 ≤ a ∧ a ≤ 1) : a = -1 ∨ a = 0 ∨ a = 1 := by omega
theorem spec_l1Byte_t (a : Int) (h : -1 ≤ a ∧ a ≤ 1) : spec_l1Byte.f a = some (strOfNums [chr a]) := by
  obtain rfl | rfl | rfl := trit3 h
  all_goals (unfold spec_l1Byte.f; simp [wrap64, rdOf, chr, bt, strOfNums]; rfl)
theorem impl_tritBytes_l0 (l : List Int) (hl : l.length ≤ 1000000) (hb : ∀ x ∈ l, -1 ≤ x ∧ x ≤ 1) (d : Nat) : ∀ (k j : Nat), j + d = l.length → d < k →
    impl_tritBytes.l0 k ((l.take j).map chr) l (l.length : Int) (j : Int) = some (strOfNums (l.map chr)) := by
  induction d with
  | zero =>
    intro k j hj hk
    obtain ⟨k, rfl⟩ : ∃ m, k = m + 1 := ⟨k - 1, by omega⟩
    simp only [impl_tritBytes.l0]
    rw [if_neg (by omega), List.take_of_length_le (by omega)]
  | succ d ih =>
    intro k j hj hk
    obtain ⟨k, rfl⟩ : ∃ m, k = m + 1 := ⟨k - 1, by omega⟩
    simp only [impl_tritBytes.l0]
    have e := ih k (j + 1) (by omega) (by omega)
    have hm : l.getD j 0 ∈ l := by rw [List.getD_eq_getElem?_getD, List.getElem?_eq_getElem (by omega)]; exact List.getElem_mem (by omega)
    have h1 := hb _ hm
    rw [if_pos (by omega), if_pos (by omega), if_pos (by omega), rd_nat, wr (x := l.getD j 0 + 1) (by omega) (by omega), if_pos (by omega), if_pos (by omega),
      if_pos (by simp; omega), wr (by omega) (by omega)]
    rw [take_snoc l j (by omega)] at e
    simp only [List.map_append, List.map_cons, List.map_nil] at e
    exact_mod_cast e
theorem impl_tritBytes_t (k : Nat) (l : List Int) (hl : l.length ≤ 1000000) (hb : ∀ x ∈ l, -1 ≤ x ∧ x ≤ 1) (hk : l.length < k) : impl_tritBytes.f k l = some (strOfNums (l.map chr)) := by
  have e := impl_tritBytes_l0 l hl hb l.length k 0 (by omega) (by omega)
  unfold impl_tritBytes.f; simpa using e
theorem sByte (a : Int) (h : -1 ≤ a ∧ a ≤ 1) (w : World) : Calls Try.prog 49 #[.int .i64 a] w fun e w' => e = .returned (.string (strOfNums [chr a])) ∧ Below w.heap.size w w' := spec_l1Byte.calls a _ w (spec_l1Byte_t a h)
theorem iBytes (g : Nat) (l : List Int) (hl : l.length = 9) (ht : l.all isT = true) (w : World) (h : Blk w g 24 l) : Calls Try.prog 50 #[.slice (some ⟨g, 0, none⟩) 9 9] w fun e w' => e = .returned (.string (strOfNums (l.map chr))) ∧ Below w.heap.size w w' := by
  have hb : ∀ x ∈ l, -1 ≤ x ∧ x ≤ 1 := fun x hx => isT_iff.mp (List.all_eq_true.mp ht x hx)
  have hc := h.toC (by omega)
  have := impl_tritBytes.calls 10 _ l.length l _ w hc (Nat.le_refl _) (impl_tritBytes_t 10 l (by omega) hb (by omega))
  rwa [hl] at this
/-- What FormatTable answers. -/
def fmtL (l : List Int) : ByteArray := if l.all isT then strOfNums (l.map chr) else ⟨#[]⟩
theorem fmtL_yes (l : List Int) (h : l.all isT = true) : fmtL l = strOfNums (l.map chr) := by unfold fmtL; rw [h]; rfl
theorem fmtL_no (l : List Int) (h : l.all isT = false) : fmtL l = ⟨#[]⟩ := by unfold fmtL; rw [h]; rfl
theorem fmt_step (l : List Int) (j : Nat) (hj : j < l.length) : strOfNums ((l.take j).map chr) ++ strOfNums [chr (gt l j)] = strOfNums ((l.take (j + 1)).map chr) := by
  rw [List.take_succ_eq_append_getElem hj, List.map_append, str_append]
  simp [gt, List.getD_eq_getElem?_getD, hj]
theorem all_at' (l : List Int) (j : Nat) (hj : j < l.length) (h : l.all isT = true) : -1 ≤ gt l j ∧ gt l j ≤ 1 := by
  have := List.all_eq_true.mp h (l[j]) (List.getElem_mem hj)
  have e : gt l j = l[j] := by simp [gt, List.getD_eq_getElem?_getD, hj]
  rw [e]
  exact isT_iff.mp this
set_option maxHeartbeats 2000000 in
theorem sFormat (l : List Int) (hl : l.length = 9) (w : World) :
    Calls Try.prog 24 #[.agg (l.map (Value.int .i64)).toArray] w fun e w' => e = .returned (.string (fmtL l)) ∧ Below w.heap.size w w' := by
  have S0 := Aside0.mk (sIsTable l hl)
  have HL := Aside0.mk hl
  have HI := Aside0.mk (show (Try.prog.info? 24).map (·.size) = some (l.map (Value.int .i64)).toArray.size by rw [info24]; simp [hl])
  have KB := Aside0.mk (Blk.made w 24 l)
  have HB := Aside0.mk (below_alloc (Below.refl w.heap.size w) (Obj.cells (List.map (Value.int IntKind.i64) l).toArray 24))
  clear hl
  by_cases h1 : l.all isT = true
  · have H1 := Aside0.mk h1
    have HR := Aside0.mk (fmtL_yes l h1)
    clear h1
    go_enter Try.func24, Try.ntmps24
    go_wp2_with (first | refine wpList_load_row rfl 24 _ rfl w.heap.size rfl 24 (l.map (Value.int .i64)).toArray (0, 0) _ KB.out Try.underlying24 rfl HI.out ?_ | (go_at_call 15; refine (S0.out _).mono ?_; rintro e w1 ⟨rfl, hb⟩; have n1 := Aside0.mk (KB.out.below hb); have n2 := Aside0.mk (below_step HB.out hb); clear KB HB hb; have KB := n1; have HB := n2; clear n1 n2; rw [H1.out]))
    go_loopw [3, 4] (fun v3 v4 w' => ∃ j : Nat, j ≤ 9 ∧ v4 = .int .i64 j ∧ (∃ s : ByteArray, v3 = .string s ∧ Aside0 (s = strOfNums ((l.take j).map chr))) ∧ Aside0 (Blk w' w.heap.size 24 l) ∧ Aside0 (Below w.heap.size w w')) (fun _ v4 _ => 9 - (intOf v4).toNat)
    case atStart => exact ⟨0, by omega, rfl, ⟨_, rfl, ⟨rfl⟩⟩, KB, HB⟩
    case round =>
      clear KB HB
      obtain ⟨j, hj, rfl, ⟨sa, rfl, HSA⟩, KB, HB⟩ := hrel
      by_cases hlt : j < 9
      · obtain ⟨sb, hsb⟩ : ∃ sb : ByteArray, sb = strOfNums [chr (gt l j)] := ⟨_, rfl⟩
        have hx := KB.out.cell j (by rw [HL.out]; exact hlt)
        have HT := Aside0.mk (all_at' l j (by rw [HL.out]; exact hlt) H1.out)
        have HST := Aside0.mk (fmt_step l j (by rw [HL.out]; exact hlt))
        rw [← HSA.out, ← hsb] at HST
        have hsz : sa.size + sb.size ≤ 9223372036854775807 := by
          rw [HSA.out, hsb, strOfNums_size, strOfNums_size]
          simp
          omega
        have c8b1 : decide (sa.size + sb.size ≤ 9223372036854775807) = true := decide_eq_true hsz
        have c8b2 : (9223372036854775807 < sa.size + sb.size) = False := eq_false (Nat.not_lt.2 hsz)
        have S4 := Aside0.mk (sByte (gt l j) HT.out)
        rw [← hsb] at S4
        clear hsb
        clear hsz
        go_wp2_with (go_at_call 49; refine (S4.out _).mono ?_; rintro e w1 ⟨rfl, hb⟩; have n1 := Aside0.mk (KB.out.below hb); have n2 := Aside0.mk (below_step HB.out hb); clear KB HB hb; have KB := n1; have HB := n2; clear n1 n2)
        go_roundw
        case rel => exact ⟨j + 1, by omega, by simp, ⟨_, rfl, HST⟩, KB, HB⟩
        case measure => simp [intOf]; omega
      · have hjn : j = 9 := by omega
        subst hjn
        have HTK := Aside0.mk (show l.take 9 = l from List.take_of_length_le (by rw [HL.out]; exact Nat.le_refl _))
        go_wp2
        go_ret
        exact ⟨by rw [HR.out, HSA.out, HTK.out]; rfl, HB.out⟩
  · have h1' : l.all isT = false := by simpa using h1
    have H1 := Aside0.mk h1'
    have HR := Aside0.mk (fmtL_no l h1')
    clear h1 h1'
    go_enter Try.func24, Try.ntmps24
    go_wp2_with (first | refine wpList_load_row rfl 24 _ rfl w.heap.size rfl 24 (l.map (Value.int .i64)).toArray (0, 0) _ KB.out Try.underlying24 rfl HI.out ?_ | (go_at_call 15; refine (S0.out _).mono ?_; rintro e w1 ⟨rfl, hb⟩; have n1 := Aside0.mk (KB.out.below hb); have n2 := Aside0.mk (below_step HB.out hb); clear KB HB hb; have KB := n1; have HB := n2; clear n1 n2; rw [H1.out]))
    go_ret
    exact ⟨by rw [HR.out]; rfl, HB.out⟩
set_option maxHeartbeats 2000000 in
theorem iFormat (l : List Int) (hl : l.length = 9) (w : World) :
    Calls Try.prog 25 #[.agg (l.map (Value.int .i64)).toArray] w fun e w' => e = .returned (.string (fmtL l)) ∧ Below w.heap.size w w' := by
  have S0 := Aside0.mk (iIsTable l hl)
  have S5 := Aside0.mk (iBytes w.heap.size l hl)
  have HL := Aside0.mk hl
  have HI := Aside0.mk (show (Try.prog.info? 24).map (·.size) = some (l.map (Value.int .i64)).toArray.size by rw [info24]; simp [hl])
  have KB := Aside0.mk (Blk.made w 24 l)
  have HB := Aside0.mk (below_alloc (Below.refl w.heap.size w) (Obj.cells (List.map (Value.int IntKind.i64) l).toArray 24))
  clear hl
  by_cases h1 : l.all isT = true
  · have H1 := Aside0.mk h1
    have HR := Aside0.mk (fmtL_yes l h1)
    clear h1
    go_enter Try.func25, Try.ntmps25
    go_wp2_with (first | refine wpList_load_row rfl 24 _ rfl w.heap.size rfl 24 (l.map (Value.int .i64)).toArray (0, 0) _ KB.out Try.underlying24 rfl HI.out ?_ | (go_at_call 17; refine (S0.out _).mono ?_; rintro e w1 ⟨rfl, hb⟩; have n1 := Aside0.mk (KB.out.below hb); have n2 := Aside0.mk (below_step HB.out hb); clear KB HB hb; have KB := n1; have HB := n2; clear n1 n2; rw [H1.out]) | (go_at_call 50; refine (S5.out H1.out _ KB.out).mono ?_; rintro e w2 ⟨rfl, hb⟩; have n2 := Aside0.mk (below_step HB.out hb); clear HB hb; have HB := n2; clear n2))
    go_ret
    exact ⟨by rw [HR.out]; rfl, HB.out⟩
  · have h1' : l.all isT = false := by simpa using h1
    have H1 := Aside0.mk h1'
    have HR := Aside0.mk (fmtL_no l h1')
    clear h1 h1'
    go_enter Try.func25, Try.ntmps25
    go_wp2_with (first | refine wpList_load_row rfl 24 _ rfl w.heap.size rfl 24 (l.map (Value.int .i64)).toArray (0, 0) _ KB.out Try.underlying24 rfl HI.out ?_ | (go_at_call 17; refine (S0.out _).mono ?_; rintro e w1 ⟨rfl, hb⟩; have n1 := Aside0.mk (KB.out.below hb); have n2 := Aside0.mk (below_step HB.out hb); clear KB HB hb; have KB := n1; have HB := n2; clear n1 n2; rw [H1.out]))
    go_ret
    exact ⟨by rw [HR.out]; rfl, HB.out⟩
end Go.Proofs.Ytegknmpphbkgpaa.HF
