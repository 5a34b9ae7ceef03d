/- How the cursor over a code is used. -/
import Derived.Test.YtegknmpphbkgpaaProg
import Derived.Below
import Derived.WalkSpells
import Derived.Deep.Draws
import Derived.Deep.AppendLies
import Derived.Maps.AppendAt
import Derived.OwnWalk
import Derived.Laws.BytesArg
import Derived.Laws.MakeOwn
import Derived.Laws.OwnMore
import Derived.Deep.OwnRows
import Derived.Tactics
import Derived.Lib.ConvBytes
import Derived.Laws.Slices
import Derived.WalkKit
import Derived.KernelRfl
import Derived.RowKit3
import Derived.Deep.LoopGhost
import Derived.Deep.QuietTactic
import Derived.BigQuiet
import Derived.WideLaws
import Derived.Deep.DeepCutAuto
import Derived.Deep.CutBlock
import Derived.Deep.RegionHeld3
import Derived.Laws.Rows
import Derived.Lib.AppendStr
import Derived.ArgAppend
import Derived.Laws.IdiomCopy
import Derived.OrdersHeld
import Derived.Laws.BitsLemmas
import Derived.RowKit
import Derived.Test.YtegknmpphbkgpaaWWords
import Derived.Test.YtegknmpphbkgpaaWLast
import Derived.Test.YtegknmpphbkgpaaWTab
import Derived.Test.YtegknmpphbkgpaaWFour
import Derived.Test.YtegknmpphbkgpaaWQPut
import Derived.Test.YtegknmpphbkgpaaWApart
import Derived.Test.YtegknmpphbkgpaaWArr
import Derived.Test.YtegknmpphbkgpaaWZeros
import Derived.Test.YtegknmpphbkgpaaWFoot
import Derived.Test.YtegknmpphbkgpaaWKept
import Derived.Test.YtegknmpphbkgpaaWShare
import Derived.Test.YtegknmpphbkgpaaWN
import Derived.Test.YtegknmpphbkgpaaWFootNe
import Derived.Test.YtegknmpphbkgpaaWAt
import Derived.Test.YtegknmpphbkgpaaWEqStruct
import Derived.Test.YtegknmpphbkgpaaWRepsOne
import Derived.Test.YtegknmpphbkgpaaWInv
import Derived.Test.YtegknmpphbkgpaaWInvWords
import Derived.Test.YtegknmpphbkgpaaWGuard
import Derived.Test.YtegknmpphbkgpaaWNEv
import Derived.Test.YtegknmpphbkgpaaWMore
import Derived.Test.YtegknmpphbkgpaaHX
import Derived.Test.YtegknmpphbkgpaaQFnTablesx2
set_option linter.unusedVariables false
set_option linter.unusedSimpArgs false
namespace Go.Proofs.Ytegknmpphbkgpaa.HG
open Go.RowKit Go.Proofs.YtegknmpphbkgpaaW.PrintWords Go.Proofs.YtegknmpphbkgpaaW.PrintLast Go.Proofs.YtegknmpphbkgpaaW.PrintMore Go.Proofs.Ytegknmpphbkgpaa.HA Go.Proofs.Ytegknmpphbkgpaa.HL Go.Proofs.Ytegknmpphbkgpaa.HM Go.Proofs.Ytegknmpphbkgpaa.HK Go.Proofs.Ytegknmpphbkgpaa.HD Go.Proofs.Ytegknmpphbkgpaa.HW Go.Proofs.Ytegknmpphbkgpaa.HX Go.Proofs.Ytegknmpphbkgpaa.QFnTables
theorem and255 (x : Int) : 0 ≤ Go.bits .and .i64 x 255 ∧ Go.bits .and .i64 x 255 ≤ 255 := by
  have h : Go.bits .and .i64 x 255 = IntKind.i64.wrap (((BitVec.ofInt 64 x &&& BitVec.ofInt 64 255).toNat : Nat) : Int) := rfl
  rw [h, BitVec.toNat_and]
  have e : (BitVec.ofInt 64 255).toNat = 255 := by decide
  rw [e]
  have := Nat.and_le_right (n := (BitVec.ofInt 64 x).toNat) (m := 255)
  generalize (BitVec.ofInt 64 x).toNat &&& 255 = n at *
  rw [IntKind.wrap_i64]; omega
theorem byte_t (b : List Int) (i h : Int) (h0 : 0 ≤ i) (h1 : i ≤ b.length) (hb : b.length ≤ 1000000000000) : ∃ r j g, spec_l01Byte.f b i h = some (r, j, g) ∧ 0 ≤ r ∧ r ≤ 255 ∧ 0 ≤ j ∧ j ≤ b.length := by
  unfold spec_l01Byte.f
  by_cases c : i < b.length
  · rw [if_pos c, if_pos h0, wr (x := i + 1) (by omega) (by omega)]
    refine ⟨_, _, _, rfl, (and255 _).1, (and255 _).2, by omega, by omega⟩
  · rw [if_neg c]
    exact ⟨_, _, _, rfl, (and255 _).1, (and255 _).2, h0, h1⟩
theorem tmod_b (r n : Int) (h : 0 ≤ r) (hn : 0 < n) : 0 ≤ Int.tmod r n ∧ Int.tmod r n < n := by
  rw [Int.tmod_eq_emod_of_nonneg h]; exact ⟨Int.emod_nonneg _ (by omega), Int.emod_lt_of_pos _ hn⟩
theorem below_t (b : List Int) (i h n : Int) (h0 : 0 ≤ i) (h1 : i ≤ b.length) (hb : b.length ≤ 1000000000000) (hn : 1 ≤ n ∧ n ≤ 256) : ∃ r j g, spec_l01Below.f b i h n = some (r, j, g) ∧ 0 ≤ r ∧ r < n ∧ 0 ≤ j ∧ j ≤ b.length := by
  unfold spec_l01Below.f
  obtain ⟨r, j, g, e, a1, a2, a3, a4⟩ := byte_t b i h h0 h1 hb
  rw [if_neg (by omega), if_pos (by omega), e]; simp only [Option.bind_some]
  rw [if_neg (by omega)]
  exact ⟨_, _, _, rfl, (tmod_b r n a1 (by omega)).1, (tmod_b r n a1 (by omega)).2, a3, a4⟩
theorem new_l0 (l : List Int) (hl : l.length ≤ 1000000000000) (d : Nat) : ∀ (k j : Nat) (h : Int), j ≤ 4000 → 4000 - j ≤ d → d < k → ∃ g, spec_l01New.l0 k l h (j : Int) = some (l, 0, g) := by
  induction d with
  | zero =>
    intro k j h hj hd hk
    obtain ⟨k, rfl⟩ : ∃ m, k = m + 1 := ⟨k - 1, by omega⟩
    rw [spec_l01New.l0]
    by_cases c : (j : Int) < l.length
    · rw [if_pos c, if_neg (by omega)]; exact ⟨_, rfl⟩
    · rw [if_neg c]; exact ⟨_, rfl⟩
  | succ d ih =>
    intro k j h hj hd hk
    obtain ⟨k, rfl⟩ : ∃ m, k = m + 1 := ⟨k - 1, by omega⟩
    rw [spec_l01New.l0]
    by_cases c : (j : Int) < l.length
    · rw [if_pos c]
      by_cases c2 : (j : Int) < 4000
      · rw [if_pos c2, if_pos (by omega), wr (x := (j : Int) + 1) (by omega) (by omega)]
        rw [show (j : Int) + 1 = ((j + 1 : Nat) : Int) by omega]
        exact ih k (j + 1) _ (by omega) (by omega) (by omega)
      · rw [if_neg c2]; exact ⟨_, rfl⟩
    · rw [if_neg c]; exact ⟨_, rfl⟩
theorem new_t (k : Nat) (l : List Int) (hl : l.length ≤ 1000000000000) (hk : 4001 < k) : ∃ g, spec_l01New.f k l = some (l, 0, g) := by
  unfold spec_l01New.f
  exact new_l0 l hl 4000 k 0 _ (by omega) (by omega) (by omega)
/-- All trits. -/
def allT (l : List Int) : Prop := ∀ x ∈ l, -1 ≤ x ∧ x ≤ 1
theorem allT_snoc (l : List Int) (x : Int) (h : allT l) (hx : -1 ≤ x ∧ x ≤ 1) : allT (l ++ [x]) := by
  intro y hy; rcases List.mem_append.mp hy with h1 | h1
  · exact h y h1
  · have := List.mem_singleton.mp h1; omega
theorem strs_toC {w : World} {g : Nat} {t : TypeId} {l : List ByteArray} (h : w.heap[g]? = some (.cells (l.map Value.string).toArray t (0, 0))) (hl : l.length ≤ 9223372036854775807) : Kd.C Kd.string w (some ⟨g, 0, none⟩) l.length l := by
  refine ⟨rfl, hl, fun _ => ⟨_, rfl, fun j p hj => ⟨[.string p], rfl, rfl, fun i u hu => ?_⟩⟩⟩
  have hjl := (List.getElem?_eq_some_iff.1 hj).1
  have hi : i = 0 := by
    have := (List.getElem?_eq_some_iff.1 hu).1
    simpa using this
  subst hi
  have hu' : Value.string p = u := by simpa using hu
  subst hu'
  have hadd : (⟨g, 0, none⟩ : Addr).add (j * 1 + 0) = ⟨g, j, none⟩ := by unfold Addr.add; split <;> simp_all
  show w.cell? ((⟨g, 0, none⟩ : Addr).add (j * 1 + 0)) = _
  rw [hadd, cell_of_row w g j _ t (0, 0) h]
  simp [hj]
theorem Blk.keep {w w' : World} {g k : Nat} {t : TypeId} {l : List Int} (h : Blk w k t l) (hk : KeepBut w w' g none) (hne : k ≠ g) : Blk w' k t l := (hk.2 k h.lt hne (by simp)).trans h
theorem once_t (b : List Int) (i h n : Int) (h0 : 0 ≤ i) (h1 : i ≤ b.length) (hb : b.length ≤ 1000000000000) (hn : 1 ≤ n ∧ n ≤ 256) : ∃ r j g, spec_l01Once.f b i h n = some (r, j, g) ∧ 0 ≤ j ∧ j ≤ b.length := by
  obtain ⟨r, j, g, e, _, _, a3, a4⟩ := below_t b i h n h0 h1 hb hn
  unfold spec_l01Once.f
  rw [e]
  exact ⟨_, j, g, rfl, a3, a4⟩
theorem pick_t (b : List Int) (i h : Int) (l : List ByteArray) (h0 : 0 ≤ i) (h1 : i ≤ b.length) (hb : b.length ≤ 1000000000000) (hn : 1 ≤ l.length ∧ l.length ≤ 256) : ∃ r j g, spec_l01Pick.f b i h l = some (r, j, g) ∧ 0 ≤ j ∧ j ≤ b.length := by
  obtain ⟨r, j, g, e, a1, a2, a3, a4⟩ := below_t b i h l.length h0 h1 hb (by omega)
  unfold spec_l01Pick.f
  rw [e]
  simp only [Option.bind_some]
  rw [if_pos a1, if_pos a2]
  exact ⟨_, j, g, rfl, a3, a4⟩
theorem int_t (b : List Int) (i h : Int) (l : List Int) (h0 : 0 ≤ i) (h1 : i ≤ b.length) (hb : b.length ≤ 1000000000000) (hn : 1 ≤ l.length ∧ l.length ≤ 256) : ∃ r j g, spec_l01Int.f b i h l = some (r, j, g) ∧ 0 ≤ j ∧ j ≤ b.length := by
  obtain ⟨r, j, g, e, a1, a2, a3, a4⟩ := below_t b i h l.length h0 h1 hb (by omega)
  unfold spec_l01Int.f
  rw [e]
  simp only [Option.bind_some]
  rw [if_pos a1, if_pos a2]
  exact ⟨_, j, g, rfl, a3, a4⟩
/-- The code's cursor stands somewhere in the code. -/
def Cur (w0 w : World) (g : Nat) (b : List Int) : Prop := ∃ i h, IsS84 w0 w g b i h ∧ 0 ≤ i ∧ i ≤ b.length
section
variable {w0 w w' : World} {g : Nat} {b : List Int}
theorem Cur.alloc (h : Cur w0 w g b) (o : Obj) : Cur w0 (w.alloc o) g b := by
  obtain ⟨i, x, h1, h2⟩ := h
  exact ⟨i, x, h1.alloc o, h2⟩
theorem Cur.below (h : Cur w0 w g b) (hb : Below w.heap.size w w') : Cur w0 w' g b := by
  obtain ⟨i, x, h1, h2⟩ := h
  exact ⟨i, x, h1.below hb, h2⟩
theorem Cur.far (h : Cur w0 w g b) {p : Addr} (hne : g ≠ p.block) (u : Value) : Cur w0 (w.setCell p u) g b := by
  obtain ⟨i, x, h1, h2⟩ := h
  exact ⟨i, x, h1.far hne u, h2⟩
theorem Cur.lt (h : Cur w0 w g b) : g < w.heap.size := by
  obtain ⟨i, x, h1, h2⟩ := h
  exact h1.lt
theorem Cur.row (h : Cur w0 w g b) {k : Nat} (hne : g ≠ k) (cs : Array Value) : Cur w0 (w.setRow k cs) g b := by
  obtain ⟨i, x, ⟨A, c, e, r⟩, h2⟩ := h
  refine ⟨i, x, ⟨A, c, ?_, r⟩, h2⟩
  unfold World.setRow
  simp only [Array.getElem?_modify]
  rw [if_neg (fun q => hne q.symm)]
  exact e
theorem cur_below (h : Cur w0 w g b) (hB : Below w0.heap.size w0 w) (hb : b.length ≤ 1000000000000) (n : Int) (hn : 1 ≤ n ∧ n ≤ 256) : Calls Try.prog 69 #[.pointer (some ⟨g, 0, none⟩), .int .i64 n] w fun e w' => ∃ r : Int, e = .returned (.int .i64 r) ∧ 0 ≤ r ∧ r < n ∧ Cur w0 w' g b ∧ Below w0.heap.size w0 w' ∧ KeepBut w w' g none := by
  obtain ⟨i, x, h1, h2, h3⟩ := h
  obtain ⟨r, j, y, e, a1, a2, a3, a4⟩ := below_t b i x n h2 h3 hb hn
  refine (spec_l01Below.calls g b i x n r j y w0 w h1 hB e).mono ?_
  rintro e w' ⟨rfl, q1, q2, q3⟩
  exact ⟨r, rfl, a1, a2, ⟨j, y, q1, a3, a4⟩, q2, q3⟩
theorem cur_once (h : Cur w0 w g b) (hB : Below w0.heap.size w0 w) (hb : b.length ≤ 1000000000000) (n : Int) (hn : 1 ≤ n ∧ n ≤ 256) : Calls Try.prog 81 #[.pointer (some ⟨g, 0, none⟩), .int .i64 n] w fun e w' => ∃ r : Bool, e = .returned (.bool r) ∧ Cur w0 w' g b ∧ Below w0.heap.size w0 w' ∧ KeepBut w w' g none := by
  obtain ⟨i, x, h1, h2, h3⟩ := h
  obtain ⟨r, j, y, e, a3, a4⟩ := once_t b i x n h2 h3 hb hn
  refine (spec_l01Once.calls g b i x n r j y w0 w h1 hB e).mono ?_
  rintro e w' ⟨rfl, q1, q2, q3⟩
  exact ⟨r, rfl, ⟨j, y, q1, a3, a4⟩, q2, q3⟩
theorem cur_pick (h : Cur w0 w g b) (hB : Below w0.heap.size w0 w) (hb : b.length ≤ 1000000000000) (k : Nat) (t : TypeId) (l : List ByteArray) (hl : l.length = 7) (hrow : w.heap[k]? = some (.cells (l.map Value.string).toArray t (0, 0))) (hne : k ≠ g) : Calls Try.prog 80 #[.pointer (some ⟨g, 0, none⟩), .slice (some ⟨k, 0, none⟩) 7 7] w fun e w' => ∃ r : ByteArray, e = .returned (.string r) ∧ Cur w0 w' g b ∧ Below w0.heap.size w0 w' ∧ KeepBut w w' g none := by
  obtain ⟨i, x, h1, h2, h3⟩ := h
  obtain ⟨r, j, y, e, a3, a4⟩ := pick_t b i x l h2 h3 hb (by omega)
  have := spec_l01Pick.calls g b i x (some ⟨k, 0, none⟩) 7 l r j y w0 w h1 hB (strs_toC hrow (by omega)) (by omega) (fun ad hd _ => by cases hd; exact hne) e
  rw [hl] at this
  refine this.mono ?_
  rintro e w' ⟨rfl, q1, q2, q3⟩
  exact ⟨r, rfl, ⟨j, y, q1, a3, a4⟩, q2, q3⟩
theorem cur_int (h : Cur w0 w g b) (hB : Below w0.heap.size w0 w) (hb : b.length ≤ 1000000000000) (k : Nat) (t : TypeId) (l : List Int) (hl : l.length = 3) (hrow : Blk w k t l) (hne : k ≠ g) : Calls Try.prog 82 #[.pointer (some ⟨g, 0, none⟩), .slice (some ⟨k, 0, none⟩) 3 3] w fun e w' => ∃ r : Int, e = .returned (.int .i64 r) ∧ Cur w0 w' g b ∧ Below w0.heap.size w0 w' ∧ KeepBut w w' g none := by
  obtain ⟨i, x, h1, h2, h3⟩ := h
  obtain ⟨r, j, y, e, a3, a4⟩ := int_t b i x l h2 h3 hb (by omega)
  have := spec_l01Int.calls g b i x (some ⟨k, 0, none⟩) 3 l r j y w0 w h1 hB (hrow.toC (by omega)) (by omega) (fun ad hd _ => by cases hd; exact hne) e
  rw [hl] at this
  refine this.mono ?_
  rintro e w' ⟨rfl, q1, q2, q3⟩
  exact ⟨r, rfl, ⟨j, y, q1, a3, a4⟩, q2, q3⟩
end
end Go.Proofs.Ytegknmpphbkgpaa.HG
