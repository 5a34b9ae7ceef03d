/- The law of ThenMap holds for three numbers each. -/
import Derived.Test.YtegknmpphbkgpaaProg
import Derived.Below
import Derived.WalkSpells
import Derived.Deep.Draws
import Derived.Deep.AppendLies
import Derived.Maps.AppendAt
import Derived.OwnWalk
import Derived.Laws.BytesArg
import Derived.Laws.MakeOwn
import Derived.Laws.OwnMore
import Derived.Deep.OwnRows
import Derived.Tactics
import Derived.Lib.ConvBytes
import Derived.Laws.Slices
import Derived.WalkKit
import Derived.KernelRfl
import Derived.RowKit3
import Derived.Deep.LoopGhost
import Derived.Deep.QuietTactic
import Derived.BigQuiet
import Derived.WideLaws
import Derived.Deep.DeepCutAuto
import Derived.Deep.CutBlock
import Derived.Deep.RegionHeld3
import Derived.Laws.Rows
import Derived.Lib.AppendStr
import Derived.ArgAppend
import Derived.Laws.IdiomCopy
import Derived.OrdersHeld
import Derived.Laws.BitsLemmas
import Derived.RowKit
import Derived.Test.YtegknmpphbkgpaaWWords
import Derived.Test.YtegknmpphbkgpaaWLast
import Derived.Test.YtegknmpphbkgpaaWTab
import Derived.Test.YtegknmpphbkgpaaWFour
import Derived.Test.YtegknmpphbkgpaaWQPut
import Derived.Test.YtegknmpphbkgpaaWApart
import Derived.Test.YtegknmpphbkgpaaWArr
import Derived.Test.YtegknmpphbkgpaaWZeros
import Derived.Test.YtegknmpphbkgpaaWFoot
import Derived.Test.YtegknmpphbkgpaaWKept
import Derived.Test.YtegknmpphbkgpaaWShare
import Derived.Test.YtegknmpphbkgpaaWN
import Derived.Test.YtegknmpphbkgpaaWFootNe
import Derived.Test.YtegknmpphbkgpaaWAt
import Derived.Test.YtegknmpphbkgpaaWEqStruct
import Derived.Test.YtegknmpphbkgpaaWRepsOne
import Derived.Test.YtegknmpphbkgpaaWInv
import Derived.Test.YtegknmpphbkgpaaWInvWords
import Derived.Test.YtegknmpphbkgpaaWGuard
import Derived.Test.YtegknmpphbkgpaaWNEv
import Derived.Test.YtegknmpphbkgpaaWMore
import Derived.Test.YtegknmpphbkgpaaHT
set_option linter.unusedVariables false
set_option linter.unusedSimpArgs false
namespace Go.Proofs.Ytegknmpphbkgpaa.LThenMap
open Go.RowKit Go.Proofs.YtegknmpphbkgpaaW.PrintWords Go.Proofs.YtegknmpphbkgpaaW.PrintLast Go.Proofs.YtegknmpphbkgpaaW.PrintMore Go.Proofs.Ytegknmpphbkgpaa.HA Go.Proofs.Ytegknmpphbkgpaa.HL Go.Proofs.Ytegknmpphbkgpaa.HT Go.Proofs.Ytegknmpphbkgpaa.PFnExactMapOf
/-- What the law of ThenMap keeps of the world. -/
def SH (w w' : World) (f g : List Int) (k : Nat) (l : List Int) : Prop := Blk w' w.heap.size 29 f ∧ Blk w' (w.heap.size + 1) 29 g ∧ Below w.heap.size w w' ∧ (w.heap.size + 1 < k → Blk w' k 30 l)
/-- A fresh block beside it. -/
def ZB (w w' : World) (k k' : Nat) : Prop := Blk w' k' 30 [0, 0, 0] ∧ w.heap.size + 1 < k' ∧ k' ≠ k
section
variable {w w' w'' : World} {f g : List Int} {k : Nat} {l : List Int} {k' : Nat}
theorem SH.below (h : SH w w' f g k l) (hb : Below w'.heap.size w' w'') : SH w w'' f g k l := ⟨h.1.below hb, h.2.1.below hb, below_step h.2.2.1 hb, fun hk => (h.2.2.2 hk).below hb⟩
theorem SH.alloc (h : SH w w' f g k l) (o : Obj) : SH w (w'.alloc o) f g k l := ⟨h.1.alloc o, h.2.1.alloc o, below_alloc h.2.2.1 o, fun hk => (h.2.2.2 hk).alloc o⟩
theorem SH.drew (h : SH w w' f g k l) : SH w w'.drew f g k l := ⟨h.1.drewN 1, h.2.1.drewN 1, pw_below_drewN h.2.2.1 1, fun hk => (h.2.2.2 hk).drewN 1⟩
theorem SH.cells {f0 f1 f2 g0 g1 g2 : Int} (h : SH w w' [f0, f1, f2] [g0, g1, g2] k l) : w'.cell? ⟨w.heap.size, 0, none⟩ = some (.int .i64 f0) ∧ w'.cell? ⟨w.heap.size, 1, none⟩ = some (.int .i64 f1) ∧ w'.cell? ⟨w.heap.size, 2, none⟩ = some (.int .i64 f2) ∧ w'.cell? ⟨w.heap.size + 1, 0, none⟩ = some (.int .i64 g0) ∧ w'.cell? ⟨w.heap.size + 1, 1, none⟩ = some (.int .i64 g1) ∧ w'.cell? ⟨w.heap.size + 1, 2, none⟩ = some (.int .i64 g2) ∧ SH w w' [f0, f1, f2] [g0, g1, g2] k l :=
  ⟨h.1.cell 0 (by simp), h.1.cell 1 (by simp), h.1.cell 2 (by simp), h.2.1.cell 0 (by simp), h.2.1.cell 1 (by simp), h.2.1.cell 2 (by simp), h⟩
theorem ZB.drew (h : ZB w w' k k') : ZB w w'.drew k k' := ⟨h.1.drewN 1, h.2⟩
theorem ZB.below (h : ZB w w' k k') (hb : Below w'.heap.size w' w'') : ZB w w'' k k' := ⟨h.1.below hb, h.2⟩
theorem ZB.made (h : SH w w' f g k l) : ZB w (w'.alloc (Obj.cells #[.int .i64 0, .int .i64 0, .int .i64 0] 30)) k w'.heap.size := by
  refine ⟨Blk.made w' 30 [0, 0, 0], h.2.1.lt, ?_⟩
  have h1 := h.2.1.lt
  by_cases hk : w.heap.size + 1 < k
  · have := (h.2.2.2 hk).lt
    omega
  · omega
theorem ZB.cells (h : ZB w w' k k') : w'.cell? ⟨k', 0, none⟩ = some (.int .i64 0) ∧ w'.cell? ⟨k', 1, none⟩ = some (.int .i64 0) ∧ w'.cell? ⟨k', 2, none⟩ = some (.int .i64 0) ∧ w'.frozen? ⟨k', 0, none⟩ = false ∧ w'.frozen? ⟨k', 1, none⟩ = false ∧ w'.frozen? ⟨k', 2, none⟩ = false :=
  ⟨h.1.cell 0 (by simp), h.1.cell 1 (by simp), h.1.cell 2 (by simp), h.1.fro 0, h.1.fro 1, h.1.fro 2⟩
theorem SH.set (h : SH w w' f g k l) (z : w.heap.size + 1 < k' ∧ k' ≠ k) (j : Nat) (v : Value) : SH w (w'.setCell ⟨k', j, none⟩ v) f g k l :=
  ⟨h.1.other (by omega), h.2.1.other (by omega), below_set h.2.2.1 (by omega), fun hk => (h.2.2.2 hk).other z.2⟩
theorem SH.set3 (h : SH w w' f g k l) (z : ZB w w' k k') (a b c : Value) : SH w (((w'.setCell ⟨k', 0, none⟩ a).setCell ⟨k', 1, none⟩ b).setCell ⟨k', 2, none⟩ c) f g k l := ((h.set z.2 0 a).set z.2 1 b).set z.2 2 c
theorem ZB.set3 (z : ZB w w' k k') (a b c : Int) : Blk (((w'.setCell ⟨k', 0, none⟩ (.int .i64 a)).setCell ⟨k', 1, none⟩ (.int .i64 b)).setCell ⟨k', 2, none⟩ (.int .i64 c)) k' 30 [a, b, c] := ((z.1.set 0 a).set 1 b).set 2 c
theorem way1 (h : SH w w' f g k l) (a b c : Int) : SH w (w'.alloc (Obj.cells #[.int .i64 a, .int .i64 b, .int .i64 c] 30)) f g k l ∧ Blk (w'.alloc (Obj.cells #[.int .i64 a, .int .i64 b, .int .i64 c] 30)) w'.heap.size 30 [a, b, c] ∧ w.heap.size + 1 < w'.heap.size := ⟨h.alloc _, Blk.made w' 30 [a, b, c], h.2.1.lt⟩
theorem way2 (h : SH w w' f g k l) (z : ZB w w' k k') (a b c : Int) : SH w (((w'.setCell ⟨k', 0, none⟩ (.int .i64 a)).setCell ⟨k', 1, none⟩ (.int .i64 b)).setCell ⟨k', 2, none⟩ (.int .i64 c)) f g k l ∧ Blk (((w'.setCell ⟨k', 0, none⟩ (.int .i64 a)).setCell ⟨k', 1, none⟩ (.int .i64 b)).setCell ⟨k', 2, none⟩ (.int .i64 c)) k' 30 [a, b, c] ∧ w.heap.size + 1 < k' := ⟨h.set3 z _ _ _, z.set3 a b c, z.2.1⟩
theorem SH.turn (h : SH w w' f g k l) {l' : List Int} (hb : Blk w' k' 30 l') : SH w w' f g k' l' := ⟨h.1, h.2.1, h.2.2.1, fun _ => hb⟩
end
set_option maxHeartbeats 4000000 in
theorem lawWalk3 (f0 f1 f2 g0 g1 g2 : Int) (w : World) :
    Calls Try.prog 5 #[.agg #[.int .i64 f0, .int .i64 f1, .int .i64 f2], .agg #[.int .i64 g0, .int .i64 g1, .int .i64 g2]] w fun e w' => e = .returned (.bool true) ∧ Below w.heap.size w w' := by
  have SF : Aside0 (∀ w : World, Calls Try.prog 21 #[.agg #[.int .i64 f0, .int .i64 f1, .int .i64 f2]] w fun e w' => e = .returned (.agg #[.int .i64 f0, .int .i64 f1, .int .i64 f2]) ∧ Below w.heap.size w w') := ⟨toCarryMap_calls [f0, f1, f2] rfl⟩
  have SG : Aside0 (∀ w : World, Calls Try.prog 21 #[.agg #[.int .i64 g0, .int .i64 g1, .int .i64 g2]] w fun e w' => e = .returned (.agg #[.int .i64 g0, .int .i64 g1, .int .i64 g2]) ∧ Below w.heap.size w w') := ⟨toCarryMap_calls [g0, g1, g2] rfl⟩
  have HT := thenL_len [f0, f1, f2] [g0, g1, g2] rfl
  obtain ⟨L, hL⟩ : ∃ L, L = thenL [f0, f1, f2] [g0, g1, g2] := ⟨_, rfl⟩
  have S1 : Aside0 (∀ w : World, Calls Try.prog 20 #[.agg #[.int .i64 f0, .int .i64 f1, .int .i64 f2], .agg #[.int .i64 g0, .int .i64 g1, .int .i64 g2]] w fun e w' => e = .returned (.agg (L.map (Value.int .i64)).toArray) ∧ Below w.heap.size w w') := ⟨by rw [hL]; exact sThenMap [f0, f1, f2] [g0, g1, g2] rfl rfl⟩
  have S2 : Aside0 (∀ w : World, Calls Try.prog 22 #[.agg #[.int .i64 f0, .int .i64 f1, .int .i64 f2], .agg #[.int .i64 g0, .int .i64 g1, .int .i64 g2]] w fun e w' => e = .returned (.agg (L.map (Value.int .i64)).toArray) ∧ Below w.heap.size w w') := ⟨by rw [hL]; exact iThenMap [f0, f1, f2] [g0, g1, g2] rfl rfl⟩
  rw [← hL] at HT
  clear hL
  have e0 : ∃ l0 l1 l2, L = [l0, l1, l2] := by
    match L, HT with
    | [a, b, c], _ => exact ⟨a, b, c, rfl⟩
  obtain ⟨l0, l1, l2, rfl⟩ := e0
  have S3 : Aside0 (∀ w : World, Calls Try.prog 23 #[.agg #[.int .i64 l0, .int .i64 l1, .int .i64 l2], .agg #[.int .i64 l0, .int .i64 l1, .int .i64 l2]] w fun e w' => e = .returned (.bool true) ∧ Below w.heap.size w w') := ⟨fun w => by
    have h := eqCarryMap_calls [l0, l1, l2] [l0, l1, l2] rfl rfl w
    rwa [decide_eq_true (rfl : [l0, l1, l2] = [l0, l1, l2])] at h⟩
  clear HT
  have hSH : SH w ((w.alloc (Obj.cells #[Value.int IntKind.i64 f0, Value.int IntKind.i64 f1, Value.int IntKind.i64 f2] 29)).alloc (Obj.cells #[Value.int IntKind.i64 g0, Value.int IntKind.i64 g1, Value.int IntKind.i64 g2] 29)) [f0, f1, f2] [g0, g1, g2] 0 [l0, l1, l2] := ⟨(Blk.made w 29 [f0, f1, f2]).alloc (Obj.cells (List.map (Value.int IntKind.i64) [g0, g1, g2]).toArray 29), made1 w 29 (Obj.cells (List.map (Value.int IntKind.i64) [f0, f1, f2]).toArray 29) [g0, g1, g2], below_alloc (below_alloc (Below.refl w.heap.size w) (Obj.cells (List.map (Value.int IntKind.i64) [f0, f1, f2]).toArray 29)) (Obj.cells (List.map (Value.int IntKind.i64) [g0, g1, g2]).toArray 29), fun hk => absurd hk (by omega)⟩
  have HSH := Aside0.mk hSH
  obtain ⟨a0, a1, a2, b0, b1, b2, -⟩ := hSH.cells
  clear hSH
  go_enter Try.func5, Try.ntmps5
  go_wp2
  go_cut [5] (fun s5 wx => ∃ g : Nat, s5 = .pointer (some ⟨g, 0, none⟩) ∧ Aside0 (SH w wx [f0, f1, f2] [g0, g1, g2] g [l0, l1, l2]) ∧ Aside0 (w.heap.size + 1 < g))
  case first =>
    go_region_held3 (fun w' => w'.cell? ⟨w.heap.size, 0, none⟩ = some (.int .i64 f0) ∧ w'.cell? ⟨w.heap.size, 1, none⟩ = some (.int .i64 f1) ∧ w'.cell? ⟨w.heap.size, 2, none⟩ = some (.int .i64 f2) ∧ w'.cell? ⟨w.heap.size + 1, 0, none⟩ = some (.int .i64 g0) ∧ w'.cell? ⟨w.heap.size + 1, 1, none⟩ = some (.int .i64 g1) ∧ w'.cell? ⟨w.heap.size + 1, 2, none⟩ = some (.int .i64 g2) ∧ SH w w' [f0, f1, f2] [g0, g1, g2] 0 [l0, l1, l2])
      (((with_reducible refine SH.cells ?_); first | (with_reducible exact SH.drew HSH.out) | ((try go_split_ands); with_reducible exact SH.below (by assumption) hb) | ((try go_split_ands); with_reducible exact SH.alloc (by assumption) _) | ((try go_split_ands); with_reducible exact SH.set3 (by assumption) hz _ _ _) | ((try go_split_ands); with_reducible exact SH.alloc (SH.below (by assumption) hb) _) | (with_reducible exact SH.drew (SH.alloc HSH.out _)) | (trace_state; fail)))
      (first | (go_at_call 21; with_reducible refine (SF.out _).mono ?_; rintro e w1 ⟨rfl, hb2⟩; (try go_split_ands); (try ((first | have hz := ZB.below (k := 0) (by assumption) hb2 | have hz := ZB.below (ZB.made (f := [f0, f1, f2]) (g := [g0, g1, g2]) (l := [l0, l1, l2]) (k := 0) (SH.below (by assumption) hb)) hb2 | (have hz := ZB.below (ZB.drew (ZB.made (f := [f0, f1, f2]) (g := [g0, g1, g2]) (l := [l0, l1, l2]) (k := 0) HSH.out)) hb2; try rw [alloc_size, alloc_size] at hz)); obtain ⟨z0, z1, z2, y0, y1, y2⟩ := hz.cells)); have hb := hb2; clear hb2) | (go_at_call 21; with_reducible refine (SG.out _).mono ?_; rintro e w1 ⟨rfl, hb2⟩; (try go_split_ands); (try ((first | have hz := ZB.below (k := 0) (by assumption) hb2 | have hz := ZB.below (ZB.made (f := [f0, f1, f2]) (g := [g0, g1, g2]) (l := [l0, l1, l2]) (k := 0) (SH.below (by assumption) hb)) hb2 | (have hz := ZB.below (ZB.drew (ZB.made (f := [f0, f1, f2]) (g := [g0, g1, g2]) (l := [l0, l1, l2]) (k := 0) HSH.out)) hb2; try rw [alloc_size, alloc_size] at hz)); obtain ⟨z0, z1, z2, y0, y1, y2⟩ := hz.cells)); have hb := hb2; clear hb2) | (go_at_call 20; with_reducible refine (S1.out _).mono ?_; rintro e w1 ⟨rfl, hb2⟩; (try go_split_ands); (try ((first | have hz := ZB.below (k := 0) (by assumption) hb2 | have hz := ZB.below (ZB.made (f := [f0, f1, f2]) (g := [g0, g1, g2]) (l := [l0, l1, l2]) (k := 0) (SH.below (by assumption) hb)) hb2 | (have hz := ZB.below (ZB.drew (ZB.made (f := [f0, f1, f2]) (g := [g0, g1, g2]) (l := [l0, l1, l2]) (k := 0) HSH.out)) hb2; try rw [alloc_size, alloc_size] at hz)); obtain ⟨z0, z1, z2, y0, y1, y2⟩ := hz.cells)); have hb := hb2; clear hb2))
    all_goals (go_wp2_with fail; go_meet; (try go_split_ands); first | (have q := way1 (f := [f0, f1, f2]) (g := [g0, g1, g2]) (k := 0) (l := [l0, l1, l2]) (SH.below (by assumption) hb) l0 l1 l2; exact ⟨_, rfl, ⟨q.1.turn q.2.1⟩, ⟨q.2.2⟩⟩) | (have q := way2 (f := [f0, f1, f2]) (g := [g0, g1, g2]) (k := 0) (l := [l0, l1, l2]) (SH.below (by assumption) hb) hz l0 l1 l2; exact ⟨_, rfl, ⟨q.1.turn q.2.1⟩, ⟨q.2.2⟩⟩))
  case rest =>
    obtain ⟨k, rfl, HS2, HK⟩ := hcut
    clear HSH a0 a1 a2 b0 b1 b2
    have HSH := HS2
    obtain ⟨a0, a1, a2, b0, b1, b2, -⟩ := HSH.out.cells
    clear HS2
    go_wp2
    go_cut [6] (fun s6 wx => ∃ g : Nat, s6 = .pointer (some ⟨g, 0, none⟩) ∧ Aside0 (SH w wx [f0, f1, f2] [g0, g1, g2] k [l0, l1, l2]) ∧ Aside0 (Blk wx g 30 [l0, l1, l2]))
    case first =>
      go_region_held3 (fun w' => w'.cell? ⟨w.heap.size, 0, none⟩ = some (.int .i64 f0) ∧ w'.cell? ⟨w.heap.size, 1, none⟩ = some (.int .i64 f1) ∧ w'.cell? ⟨w.heap.size, 2, none⟩ = some (.int .i64 f2) ∧ w'.cell? ⟨w.heap.size + 1, 0, none⟩ = some (.int .i64 g0) ∧ w'.cell? ⟨w.heap.size + 1, 1, none⟩ = some (.int .i64 g1) ∧ w'.cell? ⟨w.heap.size + 1, 2, none⟩ = some (.int .i64 g2) ∧ SH w w' [f0, f1, f2] [g0, g1, g2] k [l0, l1, l2])
        (((with_reducible refine SH.cells ?_); first | (with_reducible exact SH.drew HSH.out) | ((try go_split_ands); with_reducible exact SH.below (by assumption) hb) | ((try go_split_ands); with_reducible exact SH.alloc (by assumption) _) | ((try go_split_ands); with_reducible exact SH.set3 (by assumption) hz _ _ _) | ((try go_split_ands); with_reducible exact SH.alloc (SH.below (by assumption) hb) _) | (with_reducible exact SH.drew (SH.alloc HSH.out _)) | (trace_state; fail)))
        (first | (go_at_call 21; with_reducible refine (SF.out _).mono ?_; rintro e w1 ⟨rfl, hb2⟩; (try go_split_ands); (try ((first | have hz := ZB.below (k := k) (by assumption) hb2 | have hz := ZB.below (ZB.made (f := [f0, f1, f2]) (g := [g0, g1, g2]) (l := [l0, l1, l2]) (k := k) (SH.below (by assumption) hb)) hb2 | (have hz := ZB.below (ZB.drew (ZB.made (f := [f0, f1, f2]) (g := [g0, g1, g2]) (l := [l0, l1, l2]) (k := k) HSH.out)) hb2; try rw [alloc_size, alloc_size] at hz)); obtain ⟨z0, z1, z2, y0, y1, y2⟩ := hz.cells)); have hb := hb2; clear hb2) | (go_at_call 21; with_reducible refine (SG.out _).mono ?_; rintro e w1 ⟨rfl, hb2⟩; (try go_split_ands); (try ((first | have hz := ZB.below (k := k) (by assumption) hb2 | have hz := ZB.below (ZB.made (f := [f0, f1, f2]) (g := [g0, g1, g2]) (l := [l0, l1, l2]) (k := k) (SH.below (by assumption) hb)) hb2 | (have hz := ZB.below (ZB.drew (ZB.made (f := [f0, f1, f2]) (g := [g0, g1, g2]) (l := [l0, l1, l2]) (k := k) HSH.out)) hb2; try rw [alloc_size, alloc_size] at hz)); obtain ⟨z0, z1, z2, y0, y1, y2⟩ := hz.cells)); have hb := hb2; clear hb2) | (go_at_call 22; with_reducible refine (S2.out _).mono ?_; rintro e w1 ⟨rfl, hb2⟩; (try go_split_ands); (try ((first | have hz := ZB.below (k := k) (by assumption) hb2 | have hz := ZB.below (ZB.made (f := [f0, f1, f2]) (g := [g0, g1, g2]) (l := [l0, l1, l2]) (k := k) (SH.below (by assumption) hb)) hb2 | (have hz := ZB.below (ZB.drew (ZB.made (f := [f0, f1, f2]) (g := [g0, g1, g2]) (l := [l0, l1, l2]) (k := k) HSH.out)) hb2; try rw [alloc_size, alloc_size] at hz)); obtain ⟨z0, z1, z2, y0, y1, y2⟩ := hz.cells)); have hb := hb2; clear hb2))
      all_goals (go_wp2_with fail; go_meet; (try go_split_ands); first | (have q := way1 (f := [f0, f1, f2]) (g := [g0, g1, g2]) (k := k) (l := [l0, l1, l2]) (SH.below (by assumption) hb) l0 l1 l2; exact ⟨_, rfl, ⟨q.1⟩, ⟨q.2.1⟩⟩) | (have q := way2 (f := [f0, f1, f2]) (g := [g0, g1, g2]) (k := k) (l := [l0, l1, l2]) (SH.below (by assumption) hb) hz l0 l1 l2; exact ⟨_, rfl, ⟨q.1⟩, ⟨q.2.1⟩⟩))
    case rest =>
      obtain ⟨k2, rfl, HS2, HB2⟩ := hcut
      have HB1 := Aside0.mk (HS2.out.2.2.2 HK.out)
      have HB := Aside0.mk HS2.out.2.2.1
      have HI := Aside0.mk (show (Try.prog.info? 30).map (·.size) = some (List.map (Value.int .i64) [l0, l1, l2]).toArray.size from info30)
      clear HSH HS2 a0 a1 a2 b0 b1 b2
      go_wp2_with (first | refine wpList_load_row rfl 30 _ rfl k2 rfl 30 (List.map (Value.int .i64) [l0, l1, l2]).toArray (0, 0) _ HB2.out Try.underlying30 rfl HI.out ?_ | refine wpList_load_row rfl 30 _ rfl k rfl 30 (List.map (Value.int .i64) [l0, l1, l2]).toArray (0, 0) _ HB1.out Try.underlying30 rfl HI.out ?_ | (go_at_call 23; refine (S3.out _).mono ?_; rintro e w3 ⟨rfl, hb⟩; have HB3 := Aside0.mk (below_step HB.out hb); clear hb))
      go_ret
      exact ⟨rfl, HB3.out⟩
theorem lawWalk (f g : List Int) (hf : f.length = 3) (hg : g.length = 3) (w : World) :
    Calls Try.prog 5 #[.agg (f.map (Value.int .i64)).toArray, .agg (g.map (Value.int .i64)).toArray] w fun e w' => e = .returned (.bool true) ∧ Below w.heap.size w w' := by
  match f, hf, g, hg with
  | [f0, f1, f2], _, [g0, g1, g2], _ => exact lawWalk3 f0 f1 f2 g0 g1 g2 w
end Go.Proofs.Ytegknmpphbkgpaa.LThenMap
