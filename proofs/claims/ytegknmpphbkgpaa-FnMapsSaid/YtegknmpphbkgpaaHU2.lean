/- Plain facts of carry maps, and what the law of them keeps of the world. -/
import Derived.Test.YtegknmpphbkgpaaProg
import Derived.Below
import Derived.WalkSpells
import Derived.Deep.Draws
import Derived.Deep.AppendLies
import Derived.Maps.AppendAt
import Derived.OwnWalk
import Derived.Laws.BytesArg
import Derived.Laws.MakeOwn
import Derived.Laws.OwnMore
import Derived.Deep.OwnRows
import Derived.Tactics
import Derived.Lib.ConvBytes
import Derived.Laws.Slices
import Derived.WalkKit
import Derived.KernelRfl
import Derived.RowKit3
import Derived.Deep.LoopGhost
import Derived.Deep.QuietTactic
import Derived.BigQuiet
import Derived.WideLaws
import Derived.Deep.DeepCutAuto
import Derived.Deep.CutBlock
import Derived.Deep.RegionHeld3
import Derived.Laws.Rows
import Derived.Lib.AppendStr
import Derived.ArgAppend
import Derived.Laws.IdiomCopy
import Derived.OrdersHeld
import Derived.Laws.BitsLemmas
import Derived.RowKit
import Derived.Test.YtegknmpphbkgpaaWWords
import Derived.Test.YtegknmpphbkgpaaWLast
import Derived.Test.YtegknmpphbkgpaaWTab
import Derived.Test.YtegknmpphbkgpaaWFour
import Derived.Test.YtegknmpphbkgpaaWQPut
import Derived.Test.YtegknmpphbkgpaaWApart
import Derived.Test.YtegknmpphbkgpaaWArr
import Derived.Test.YtegknmpphbkgpaaWZeros
import Derived.Test.YtegknmpphbkgpaaWFoot
import Derived.Test.YtegknmpphbkgpaaWKept
import Derived.Test.YtegknmpphbkgpaaWShare
import Derived.Test.YtegknmpphbkgpaaWN
import Derived.Test.YtegknmpphbkgpaaWFootNe
import Derived.Test.YtegknmpphbkgpaaWAt
import Derived.Test.YtegknmpphbkgpaaWEqStruct
import Derived.Test.YtegknmpphbkgpaaWRepsOne
import Derived.Test.YtegknmpphbkgpaaWInv
import Derived.Test.YtegknmpphbkgpaaWInvWords
import Derived.Test.YtegknmpphbkgpaaWGuard
import Derived.Test.YtegknmpphbkgpaaWNEv
import Derived.Test.YtegknmpphbkgpaaWMore
import Derived.Test.YtegknmpphbkgpaaHU
import Derived.Test.YtegknmpphbkgpaaHT
import Derived.Test.YtegknmpphbkgpaaHM
set_option linter.unusedVariables false
set_option linter.unusedSimpArgs false
namespace Go.Proofs.Ytegknmpphbkgpaa.HU2
open Go.RowKit Go.Proofs.YtegknmpphbkgpaaW.PrintWords Go.Proofs.YtegknmpphbkgpaaW.PrintLast Go.Proofs.YtegknmpphbkgpaaW.PrintMore Go.Proofs.Ytegknmpphbkgpaa.HA Go.Proofs.Ytegknmpphbkgpaa.HL Go.Proofs.Ytegknmpphbkgpaa.HM Go.Proofs.Ytegknmpphbkgpaa.HT
theorem fa_trit (a b c : Int) : -1 ≤ (fa a b c).2 ∧ (fa a b c).2 ≤ 1 := by
  unfold fa
  split
  · unfold crd
    split
    · simp
    · split <;> simp
  · simp
theorem map_all (a b : Int) : (mapL a b).all isT = true := by
  simp only [mapL, List.all_cons, List.all_nil, Bool.and_true, Bool.and_eq_true]
  exact ⟨isT_iff.mpr (fa_trit a b _), isT_iff.mpr (fa_trit a b _), isT_iff.mpr (fa_trit a b _)⟩
theorem map_at (a b x : Int) (ha : -1 ≤ a ∧ a ≤ 1) (hb : -1 ≤ b ∧ b ≤ 1) (hx : -1 ≤ x ∧ x ≤ 1) : gt (mapL a b) (x + 1).toNat = (HU.crd (a + b + x)).2 := by
  rw [gt_mapL a b _ (by omega), show (((x + 1).toNat : Nat) : Int) - 1 = x by omega]
  unfold fa
  rw [show (isT a && isT b && isT x) = true by rw [isT_iff.mpr ha, isT_iff.mpr hb, isT_iff.mpr hx]; rfl]
  rfl
theorem then_all (f g : List Int) (hg : g.all isT = true) : (thenL f g).all isT = true := by
  unfold thenL
  split
  · rw [List.all_eq_true]
    intro x hx
    obtain ⟨y, _, rfl⟩ := List.mem_map.mp hx
    unfold gt
    rw [List.getD_eq_getElem?_getD]
    cases hk : g[(y + 1).toNat]? with
    | none => rfl
    | some z => exact List.all_eq_true.mp hg z (List.mem_of_getElem? hk)
  · rfl
theorem then_yes (f g : List Int) (hf : f.all isT = true) (hg : g.all isT = true) : thenL f g = f.map (fun x => gt g (x + 1).toNat) := by
  unfold thenL
  rw [hf, hg]
  rfl
theorem then_assoc (f g h : List Int) (hg3 : g.length = 3) (hf : f.all isT = true) (hg : g.all isT = true) (hh : h.all isT = true) : thenL (thenL f g) h = thenL f (thenL g h) := by
  rw [then_yes _ h (then_all f g hg) hh, then_yes f g hf hg, then_yes f _ hf (then_all g h hh), List.map_map]
  apply List.map_congr_left
  intro x hx
  have hx' := isT_iff.mp (List.all_eq_true.mp hf x hx)
  have hk : (x + 1).toNat < g.length := by omega
  rw [then_yes g h hg hh]
  simp [gt, List.getD_eq_getElem?_getD, hk]
/-- What the law of carry maps keeps of the world: what was there at W, and these carry maps. -/
def MS (W w' : World) (L : List (Nat × List Int)) : Prop := Below W.heap.size W w' ∧ ∀ p ∈ L, Blk w' p.1 30 p.2
/-- A fresh block beside them. -/
def MZ (W w' : World) (L : List (Nat × List Int)) (k : Nat) : Prop := Blk w' k 30 [0, 0, 0] ∧ W.heap.size ≤ k ∧ ∀ p ∈ L, p.1 ≠ k
section
variable {W w' w'' : World} {L : List (Nat × List Int)} {k : Nat}
theorem MS.below (h : MS W w' L) (hb : Below w'.heap.size w' w'') : MS W w'' L := ⟨below_step h.1 hb, fun p hp => (h.2 p hp).below hb⟩
theorem MS.alloc (h : MS W w' L) (o : Obj) : MS W (w'.alloc o) L := ⟨below_alloc h.1 o, fun p hp => (h.2 p hp).alloc o⟩
theorem MS.drewN (h : MS W w' L) (m : Nat) : MS W (w'.drewN m) L := ⟨pw_below_drewN h.1 m, fun p hp => (h.2 p hp).drewN m⟩
theorem MS.drew (h : MS W w' L) : MS W w'.drew L := h.drewN 1
theorem MS.set (h : MS W w' L) (hk : W.heap.size ≤ k) (hne : ∀ p ∈ L, p.1 ≠ k) (j : Nat) (v : Value) : MS W (w'.setCell ⟨k, j, none⟩ v) L := ⟨below_set h.1 (by omega), fun p hp => (h.2 p hp).other (Ne.symm (hne p hp))⟩
theorem MS.set3 (h : MS W w' L) (z : MZ W w' L k) (a b c : Value) : MS W (((w'.setCell ⟨k, 0, none⟩ a).setCell ⟨k, 1, none⟩ b).setCell ⟨k, 2, none⟩ c) L := ((h.set z.2.1 z.2.2 0 a).set z.2.1 z.2.2 1 b).set z.2.1 z.2.2 2 c
theorem MZ.below (h : MZ W w' L k) (hb : Below w'.heap.size w' w'') : MZ W w'' L k := ⟨h.1.below hb, h.2⟩
theorem MZ.drew (h : MZ W w' L k) : MZ W w'.drew L k := ⟨h.1.drewN 1, h.2⟩
theorem MZ.made (h : MS W w' L) : MZ W (w'.alloc (Obj.cells #[.int .i64 0, .int .i64 0, .int .i64 0] 30)) L w'.heap.size :=
  ⟨Blk.made w' 30 [0, 0, 0], h.1.size, fun p hp => by have := (h.2 p hp).lt; omega⟩
theorem MZ.cells (h : MZ W w' L k) : w'.cell? ⟨k, 0, none⟩ = some (.int .i64 0) ∧ w'.cell? ⟨k, 1, none⟩ = some (.int .i64 0) ∧ w'.cell? ⟨k, 2, none⟩ = some (.int .i64 0) ∧ w'.frozen? ⟨k, 0, none⟩ = false ∧ w'.frozen? ⟨k, 1, none⟩ = false ∧ w'.frozen? ⟨k, 2, none⟩ = false :=
  ⟨h.1.cell 0 (by simp), h.1.cell 1 (by simp), h.1.cell 2 (by simp), h.1.fro 0, h.1.fro 1, h.1.fro 2⟩
theorem mway1 (h : MS W w' L) (a b c : Int) : MS W (w'.alloc (Obj.cells #[.int .i64 a, .int .i64 b, .int .i64 c] 30)) ((w'.heap.size, [a, b, c]) :: L) :=
  ⟨below_alloc h.1 _, fun p hp => by
    rcases List.mem_cons.1 hp with rfl | hp
    · exact Blk.made w' 30 [a, b, c]
    · exact (h.2 p hp).alloc _⟩
theorem mway2 (h : MS W w' L) (z : MZ W w' L k) (a b c : Int) : MS W (((w'.setCell ⟨k, 0, none⟩ (.int .i64 a)).setCell ⟨k, 1, none⟩ (.int .i64 b)).setCell ⟨k, 2, none⟩ (.int .i64 c)) ((k, [a, b, c]) :: L) :=
  ⟨(h.set3 z _ _ _).1, fun p hp => by
    rcases List.mem_cons.1 hp with rfl | hp
    · exact ((z.1.set 0 a).set 1 b).set 2 c
    · exact (h.set3 z _ _ _).2 p hp⟩
/-- The carry map in the one block that is written again. -/
theorem mway3 {x y z : Int} {W w' : World} {k : Nat} (h : MS W w' [(k, [x, y, z])]) (hk : W.heap.size ≤ k) (a b c : Int) : MS W (((w'.setCell ⟨k, 0, none⟩ (.int .i64 a)).setCell ⟨k, 1, none⟩ (.int .i64 b)).setCell ⟨k, 2, none⟩ (.int .i64 c)) [(k, [a, b, c])] :=
  ⟨below_set (below_set (below_set h.1 (by omega)) (by omega)) (by omega), fun p hp => by
    obtain rfl := List.mem_singleton.1 hp
    exact (((h.2 (k, [x, y, z]) (List.mem_singleton.2 rfl)).set 0 a).set 1 b).set 2 c⟩
theorem MS.blk (h : MS W w' L) (p : Nat × List Int) (hp : p ∈ L) : Blk w' p.1 30 p.2 := h.2 p hp
end
theorem MS.cells1 {W w' : World} {k : Nat} {x y z : Int} (h : MS W w' [(k, [x, y, z])]) : w'.cell? ⟨k, 0, none⟩ = some (.int .i64 x) ∧ w'.cell? ⟨k, 1, none⟩ = some (.int .i64 y) ∧ w'.cell? ⟨k, 2, none⟩ = some (.int .i64 z) ∧ w'.frozen? ⟨k, 0, none⟩ = false ∧ w'.frozen? ⟨k, 1, none⟩ = false ∧ w'.frozen? ⟨k, 2, none⟩ = false := by
  have hB : Blk w' k 30 [x, y, z] := h.2 (k, [x, y, z]) (List.mem_singleton.2 rfl)
  exact ⟨hB.cell 0 (by simp), hB.cell 1 (by simp), hB.cell 2 (by simp), hB.fro 0, hB.fro 1, hB.fro 2⟩
theorem three (l : List Int) (h : l.length = 3) : ∃ x y z, l = [x, y, z] := by
  match l, h with
  | [x, y, z], _ => exact ⟨x, y, z, rfl⟩
end Go.Proofs.Ytegknmpphbkgpaa.HU2
