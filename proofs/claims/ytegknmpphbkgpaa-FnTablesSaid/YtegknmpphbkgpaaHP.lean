/- What ParseTable answers. No condition. -/
import Derived.Test.YtegknmpphbkgpaaProg
import Derived.Below
import Derived.WalkSpells
import Derived.Deep.Draws
import Derived.Deep.AppendLies
import Derived.Maps.AppendAt
import Derived.OwnWalk
import Derived.Laws.BytesArg
import Derived.Laws.MakeOwn
import Derived.Laws.OwnMore
import Derived.Deep.OwnRows
import Derived.Tactics
import Derived.Lib.ConvBytes
import Derived.Laws.Slices
import Derived.WalkKit
import Derived.KernelRfl
import Derived.RowKit3
import Derived.Deep.LoopGhost
import Derived.Deep.QuietTactic
import Derived.BigQuiet
import Derived.WideLaws
import Derived.Deep.DeepCutAuto
import Derived.Deep.CutBlock
import Derived.Deep.RegionHeld3
import Derived.Laws.Rows
import Derived.Lib.AppendStr
import Derived.ArgAppend
import Derived.Laws.IdiomCopy
import Derived.OrdersHeld
import Derived.Laws.BitsLemmas
import Derived.RowKit
import Derived.Test.YtegknmpphbkgpaaWWords
import Derived.Test.YtegknmpphbkgpaaWLast
import Derived.Test.YtegknmpphbkgpaaWTab
import Derived.Test.YtegknmpphbkgpaaWFour
import Derived.Test.YtegknmpphbkgpaaWQPut
import Derived.Test.YtegknmpphbkgpaaWApart
import Derived.Test.YtegknmpphbkgpaaWArr
import Derived.Test.YtegknmpphbkgpaaWZeros
import Derived.Test.YtegknmpphbkgpaaWFoot
import Derived.Test.YtegknmpphbkgpaaWKept
import Derived.Test.YtegknmpphbkgpaaWShare
import Derived.Test.YtegknmpphbkgpaaWN
import Derived.Test.YtegknmpphbkgpaaWFootNe
import Derived.Test.YtegknmpphbkgpaaWAt
import Derived.Test.YtegknmpphbkgpaaWEqStruct
import Derived.Test.YtegknmpphbkgpaaWRepsOne
import Derived.Test.YtegknmpphbkgpaaWInv
import Derived.Test.YtegknmpphbkgpaaWInvWords
import Derived.Test.YtegknmpphbkgpaaWGuard
import Derived.Test.YtegknmpphbkgpaaWNEv
import Derived.Test.YtegknmpphbkgpaaWMore
import Derived.Test.YtegknmpphbkgpaaHD
import Derived.Test.YtegknmpphbkgpaaPFnExactParseTablex1
set_option linter.unusedVariables false
set_option linter.unusedSimpArgs false
namespace Go.Proofs.Ytegknmpphbkgpaa.HP
open Go.RowKit Go.Proofs.YtegknmpphbkgpaaW.PrintWords Go.Proofs.YtegknmpphbkgpaaW.PrintLast Go.Proofs.YtegknmpphbkgpaaW.PrintMore Go.Proofs.Ytegknmpphbkgpaa.HA Go.Proofs.Ytegknmpphbkgpaa.HL Go.Proofs.Ytegknmpphbkgpaa.HD Go.Proofs.Ytegknmpphbkgpaa.PFnExactParseTable
/-- The trit of a byte; 2 if there is none. -/
def trB (b : Int) : Int := if b = 45 then -1 else if b = 48 then 0 else if b = 43 then 1 else 2
/-- The trits of a text, in its order. -/
def trs (s : ByteArray) : List Int := (List.range s.size).map fun i => trB (bt s (i : Nat))
theorem trs_len (s : ByteArray) : (trs s).length = s.size := by simp [trs]
theorem trs_get (s : ByteArray) (j : Nat) (h : j < s.size) : (trs s).getD j 0 = trB (bt s j) := by
  simp [trs, List.getD_eq_getElem?_getD, h]
theorem trB_isT (b : Int) : isT (trB b) = true ↔ (b = 45 ∨ b = 48 ∨ b = 43) := by
  unfold trB isT; split
  · simp [*]
  · split
    · simp [*]
    · split <;> simp [*]
theorem impl_tritsOf_l0 (s : ByteArray) (hl : s.size ≤ 1000000000) (d : Nat) : ∀ (k j : Nat), j + d = s.size → d < k → ((trs s).take j).all isT = true →
    impl_tritsOf.l0 k s ((trs s).take j) (s.size : Int) (j : Int) = some (if (trs s).all isT = true then (trs s, true) else ([], false)) := by
  have hT := trs_len s
  induction d with
  | zero =>
    intro k j hj hk ha
    obtain ⟨k, rfl⟩ : ∃ m, k = m + 1 := ⟨k - 1, by omega⟩
    simp only [impl_tritsOf.l0]
    rw [List.take_of_length_le (by omega)] at ha ⊢
    rw [if_neg (by omega), if_pos ha]
  | succ d ih =>
    intro k j hj hk ha
    obtain ⟨k, rfl⟩ : ∃ m, k = m + 1 := ⟨k - 1, by omega⟩
    simp only [impl_tritsOf.l0]
    have hg := trs_get s j (by omega)
    have ht := take_snoc (trs s) j (by omega)
    have e := ih k (j + 1) (by omega) (by omega)
    rw [ht, hg] at e
    rw [if_pos (by omega), if_pos (by omega), if_pos (by omega), wr (x := (j : Int) + 1) (by omega) (by omega)]
    have hlen : ((trs s).take j).length < 17592186044416 := by simp; omega
    by_cases c : isT (trB (bt s j)) = true
    · have e2 := e (by simp [List.all_append, ha, c])
      have c' := (trB_isT _).mp c
      by_cases c1 : bt s j = 45
      · have : trB (bt s j) = -1 := by simp [trB, c1]
        rw [this] at e2
        rw [if_pos c1, if_pos hlen]; exact_mod_cast e2
      · rw [if_neg c1]
        by_cases c2 : bt s j = 48
        · have : trB (bt s j) = 0 := by simp [trB, c2]
          rw [this] at e2
          rw [if_pos c2, if_pos hlen]; exact_mod_cast e2
        · have c3 : bt s j = 43 := by omega
          have : trB (bt s j) = 1 := by simp [trB, c3]
          rw [this] at e2
          rw [if_neg c2, if_pos c3, if_pos hlen]; exact_mod_cast e2
    · have c' : ¬ (bt s j = 45 ∨ bt s j = 48 ∨ bt s j = 43) := fun x => c ((trB_isT _).mpr x)
      rw [if_neg (by omega), if_neg (by omega), if_neg (by omega)]
      rw [if_neg]
      intro hall
      have hm : (trs s).getD j 0 ∈ trs s := by rw [List.getD_eq_getElem?_getD, List.getElem?_eq_getElem (by omega)]; exact List.getElem_mem (by omega)
      rw [hg] at hm
      exact c (List.all_eq_true.mp hall _ hm)
theorem impl_tritsOf_t (k : Nat) (s : ByteArray) (hl : s.size ≤ 1000000000) (hk : s.size < k) : impl_tritsOf.f k s = some (if (trs s).all isT = true then (trs s, true) else ([], false)) := by
  have e := impl_tritsOf_l0 s hl s.size k 0 (by omega) hk (by simp)
  unfold impl_tritsOf.f; simpa using e
/-- What ParseTable answers. -/
def parL (s : ByteArray) : List Int := if s.size = 9 ∧ (trs s).all isT = true then trs s else List.replicate 9 0
def parB (s : ByteArray) : Bool := decide (s.size = 9 ∧ (trs s).all isT = true)
theorem sTrit (s : ByteArray) (j : Nat) (hj : j < s.size) (w : World) : Calls Try.prog 51 #[.int .u8 ((s[j]'hj).toNat : Int)] w fun e w' => e = .returned (.int .i64 (gt (trs s) j)) ∧ Drawn0 w w' := by
  have hbt : bt s j = ((s[j]'hj).toNat : Int) := by simp [bt, hj]
  rw [← hbt]
  refine spec_l1Trit.calls _ _ w ?_
  have hg := trs_get s j hj
  unfold gt
  rw [hg]
  unfold spec_l1Trit.f trB
  split
  · rfl
  · split
    · rfl
    · split <;> rfl
theorem results2 {P : Program} {fn : Func} {p q : Tmp} {ty : TypeId} (h : fn.results = #[.cell p ty, .tmp q]) (tmps : Array Value) (w : World) (g : Nat) (t : TypeId) (cs : Array Value) (fr : Nat × Nat) (d : TypeDesc)
    (hp : tmps.getD p undef = .pointer (some ⟨g, 0, none⟩)) (hg : w.heap[g]? = some (.cells cs t fr))
    (hu : P.underlying ty = some d) (hd : (match d with | .struct _ | .array _ _ => true | _ => false) = true) (hi : (P.info? ty).map (·.size) = some cs.size) :
    (results fn tmps).run P w = .ok (.tuple #[.agg cs, tmps.getD q undef]) w := by
  have hp' : tmps[p]?.getD undef = .pointer (some ⟨g, 0, none⟩) := by simpa using hp
  simp [results, h, hp', asAddr, run_loadVar_row w g t ty cs fr d hg hu hd hi]
set_option maxHeartbeats 2000000 in
theorem sParse (s : ByteArray) (w : World) :
    Calls Try.prog 28 #[.string s] w fun e w' => e = .returned (.tuple #[.agg ((parL s).map (Value.int .i64)).toArray, .bool (parB s)]) ∧ Below w.heap.size w w' := by
  by_cases h9 : s.size = 9
  · have hT := trs_len s
    rw [h9] at hT
    have HT := Aside0.mk hT
    have H9 := Aside0.mk h9
    have b9 : ((s.size : Int) != 9) = false := by simp [h9]
    have b9' : (s.size != 9) = false := by simp [h9]
    have S0 := Aside0.mk (sIsTable (trs s) hT)
    have HPY : Aside0 ((trs s).all isT = true → parL s = trs s ∧ parB s = true) := ⟨fun h => by unfold parL parB; simp [h9, h]⟩
    have HPN : Aside0 ((trs s).all isT = false → parL s = List.replicate 9 0 ∧ parB s = false) := ⟨fun h => by unfold parL parB; simp [h9, h]⟩
    have HST := Aside0.mk (fun (j : Nat) (hj : j < s.size) => sTrit s j hj)
    obtain ⟨T, hTT⟩ : ∃ T, T = trs s := ⟨_, rfl⟩
    rw [← hTT] at HT S0 HPY HPN HST
    have HI := Aside0.mk (show (Try.prog.info? 24).map (·.size) = some (T.map (Value.int .i64)).toArray.size by rw [info24]; simp [HT.out])
    have HIZ := Aside0.mk (show (Try.prog.info? 24).map (·.size) = some ((List.replicate 9 0).map (Value.int .i64)).toArray.size from info24)
    have HS := Aside0.mk (show (T.map (Value.int .i64)).toArray.size = 9 by simp [HT.out])
    have HA := Aside0.mk (all_one T)
    clear hT h9 hTT
    go_enter Try.func28, Try.ntmps28
    go_wp2
    go_loopw [5] (fun v5 w' => ∃ j : Nat, j ≤ 9 ∧ v5 = .int .i64 j ∧ Aside0 (Blk w' w.heap.size 24 (List.replicate 9 0)) ∧ Aside0 (Blk w' (w.heap.size + 1) 24 (T.take j ++ List.replicate (9 - j) 0)) ∧ Aside0 (Below w.heap.size w w')) (fun v5 _ => 9 - (intOf v5).toNat)
    case atStart => exact ⟨0, by omega, rfl, ⟨(Blk.made w 24 (List.replicate 9 0)).alloc _⟩, ⟨made1 w 24 _ (List.replicate 9 0)⟩, ⟨by repeat (first | exact Below.refl _ _ | apply below_alloc)⟩⟩
    case round =>
      obtain ⟨j, hj, rfl, H1, H2, HB⟩ := hrel
      by_cases hlt : j < 9
      · have hx := H2.out.cell j (by simp [HT.out]; omega)
        have hf := H2.out.fro j
        have hsj : j < s.size := by rw [H9.out]; exact hlt
        have S5 := Aside0.mk (HST.out j hsj)
        go_wp2_with (go_at_call 51; refine (S5.out _).mono ?_; rintro e w' ⟨rfl, ⟨m1, rfl⟩⟩; have n1 := Aside0.mk (H1.out.drewN m1); have n2 := Aside0.mk (H2.out.drewN m1); have n3 := Aside0.mk (pw_below_drewN HB.out m1); clear hx hf; have hx := n2.out.cell j (by simp [HT.out]; omega); have hf := n2.out.fro j)
        have R3 := n2.out.set j (gt T j)
        rw [take_put T 9 j HT.out hlt] at R3
        go_roundw
        case rel => exact ⟨j + 1, by omega, by simp, ⟨n1.out.other (by omega)⟩, ⟨R3⟩, ⟨below_set n3.out (by omega)⟩⟩
        case measure => simp [intOf]; omega
      · have hjn : j = 9 := by omega
        subst hjn
        have h3 := H2.out
        rw [List.take_of_length_le (by rw [HT.out]; exact Nat.le_refl _)] at h3
        simp only [Nat.sub_self, List.replicate_zero, List.append_nil] at h3
        have KT := Aside0.mk h3
        clear h3 H2
        by_cases ha : T.all isT = true
        · have HE := Aside0.mk ha
          have HR := Aside0.mk (HPY.out ha)
          clear ha
          go_wp2_with (first | refine wpList_load_row rfl 24 _ rfl (w.heap.size + 1) rfl 24 (T.map (Value.int .i64)).toArray (0, 0) _ KT.out Try.underlying24 rfl HI.out ?_ | (go_at_call 15; refine (S0.out _).mono ?_; rintro e w1 ⟨rfl, hb⟩; have n0 := Aside0.mk (H1.out.below hb); have n1 := Aside0.mk (KT.out.below hb); have n2 := Aside0.mk (below_step HB.out hb); clear H1 KT HB hb; have H1 := n0; have KT := n1; have HB := n2; clear n0 n1 n2; rw [HE.out]) | refine wpList_store_row rfl 24 _ _ rfl w.heap.size (T.map (Value.int .i64)).toArray rfl rfl 24 _ H1.out HI.out (by rw [HS.out]; rfl) HA.out ?_)
          have hr := Blk.setRow H1.out T
          rw [HR.out.1, HR.out.2]
          exact bodyPost_ret (results2 (ty := 24) rfl _ _ w.heap.size 24 _ (0, 0) _ rfl hr Try.underlying24 rfl HI.out) rfl ⟨rfl, belowRow HB.out (by omega) _⟩
        · have ha' : T.all isT = false := by simpa using ha
          have HE := Aside0.mk ha'
          have HR := Aside0.mk (HPN.out ha')
          clear ha ha'
          go_wp2_with (first | refine wpList_load_row rfl 24 _ rfl (w.heap.size + 1) rfl 24 (T.map (Value.int .i64)).toArray (0, 0) _ KT.out Try.underlying24 rfl HI.out ?_ | (go_at_call 15; refine (S0.out _).mono ?_; rintro e w1 ⟨rfl, hb⟩; have n0 := Aside0.mk (H1.out.below hb); have n1 := Aside0.mk (KT.out.below hb); have n2 := Aside0.mk (below_step HB.out hb); clear H1 KT HB hb; have H1 := n0; have KT := n1; have HB := n2; clear n0 n1 n2; rw [HE.out]) | refine wpList_store_row rfl 24 _ _ rfl w.heap.size ((List.replicate 9 0).map (Value.int .i64)).toArray rfl rfl 24 _ H1.out HIZ.out rfl (all_one (List.replicate 9 0)) ?_)
          have hr := Blk.setRow H1.out (List.replicate 9 0)
          rw [HR.out.1, HR.out.2]
          exact bodyPost_ret (results2 (ty := 24) rfl _ _ w.heap.size 24 _ (0, 0) _ rfl hr Try.underlying24 rfl HIZ.out) rfl ⟨rfl, belowRow HB.out (by omega) _⟩
  · have b9 : ((s.size : Int) != 9) = true := by simp; omega
    have b9' : (s.size != 9) = true := by simp [h9]
    have HR : Aside0 (parL s = List.replicate 9 0 ∧ parB s = false) := ⟨by unfold parL parB; simp [h9]⟩
    have HIZ := Aside0.mk (show (Try.prog.info? 24).map (·.size) = some ((List.replicate 9 0).map (Value.int .i64)).toArray.size from info24)
    have H1 := Aside0.mk ((Blk.made w 24 (List.replicate 9 0)).alloc (Obj.cells (List.map (Value.int IntKind.i64) (List.replicate 9 0)).toArray 24))
    have K1 := Aside0.mk (made1 w 24 (Obj.cells (List.map (Value.int IntKind.i64) (List.replicate 9 0)).toArray 24) (List.replicate 9 0))
    clear h9
    go_enter Try.func28, Try.ntmps28
    go_wp2
    rw [HR.out.1, HR.out.2]
    exact bodyPost_ret (results2 (ty := 24) rfl _ _ w.heap.size 24 ((List.replicate 9 0).map (Value.int .i64)).toArray (0, 0) _ rfl H1.out Try.underlying24 rfl HIZ.out) rfl ⟨rfl, by repeat (first | exact Below.refl _ _ | apply below_alloc)⟩
end Go.Proofs.Ytegknmpphbkgpaa.HP
