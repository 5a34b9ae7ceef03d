/- What the program's ParseTable answers. -/
import Derived.Test.YtegknmpphbkgpaaProg
import Derived.Below
import Derived.WalkSpells
import Derived.Deep.Draws
import Derived.Deep.AppendLies
import Derived.Maps.AppendAt
import Derived.OwnWalk
import Derived.Laws.BytesArg
import Derived.Laws.MakeOwn
import Derived.Laws.OwnMore
import Derived.Deep.OwnRows
import Derived.Tactics
import Derived.Lib.ConvBytes
import Derived.Laws.Slices
import Derived.WalkKit
import Derived.KernelRfl
import Derived.RowKit3
import Derived.Deep.LoopGhost
import Derived.Deep.QuietTactic
import Derived.BigQuiet
import Derived.WideLaws
import Derived.Deep.DeepCutAuto
import Derived.Deep.CutBlock
import Derived.Deep.RegionHeld3
import Derived.Laws.Rows
import Derived.Lib.AppendStr
import Derived.ArgAppend
import Derived.Laws.IdiomCopy
import Derived.OrdersHeld
import Derived.Laws.BitsLemmas
import Derived.RowKit
import Derived.Test.YtegknmpphbkgpaaWWords
import Derived.Test.YtegknmpphbkgpaaWLast
import Derived.Test.YtegknmpphbkgpaaWTab
import Derived.Test.YtegknmpphbkgpaaWFour
import Derived.Test.YtegknmpphbkgpaaWQPut
import Derived.Test.YtegknmpphbkgpaaWApart
import Derived.Test.YtegknmpphbkgpaaWArr
import Derived.Test.YtegknmpphbkgpaaWZeros
import Derived.Test.YtegknmpphbkgpaaWFoot
import Derived.Test.YtegknmpphbkgpaaWKept
import Derived.Test.YtegknmpphbkgpaaWShare
import Derived.Test.YtegknmpphbkgpaaWN
import Derived.Test.YtegknmpphbkgpaaWFootNe
import Derived.Test.YtegknmpphbkgpaaWAt
import Derived.Test.YtegknmpphbkgpaaWEqStruct
import Derived.Test.YtegknmpphbkgpaaWRepsOne
import Derived.Test.YtegknmpphbkgpaaWInv
import Derived.Test.YtegknmpphbkgpaaWInvWords
import Derived.Test.YtegknmpphbkgpaaWGuard
import Derived.Test.YtegknmpphbkgpaaWNEv
import Derived.Test.YtegknmpphbkgpaaWMore
import Derived.Test.YtegknmpphbkgpaaHP
set_option linter.unusedVariables false
set_option linter.unusedSimpArgs false
namespace Go.Proofs.Ytegknmpphbkgpaa.HQ
open Go.RowKit Go.Proofs.YtegknmpphbkgpaaW.PrintWords Go.Proofs.YtegknmpphbkgpaaW.PrintLast Go.Proofs.YtegknmpphbkgpaaW.PrintMore Go.Proofs.Ytegknmpphbkgpaa.HA Go.Proofs.Ytegknmpphbkgpaa.HL Go.Proofs.Ytegknmpphbkgpaa.HD Go.Proofs.Ytegknmpphbkgpaa.HP Go.Proofs.Ytegknmpphbkgpaa.PFnExactParseTable
theorem iTritsOf (s : ByteArray) (hs : s.size ≤ 1000000000) (w : World) : Calls Try.prog 52 #[.string s] w fun e w' => ∃ v0 : Value, e = .returned (.tuple #[v0, .bool (if (trs s).all isT = true then (trs s, true) else ([], false)).2]) ∧ Kd.R (Kd.int .i64) 3 w' w.heap.size (fun _ => True) v0 (if (trs s).all isT = true then (trs s, true) else ([], false)).1 ∧ Below w.heap.size w w' := by
  obtain ⟨K, hK⟩ : ∃ K : Nat, K = s.size + 3 := ⟨_, rfl⟩
  exact impl_tritsOf.calls K s _ _ w (impl_tritsOf_t K s hs (by omega))
set_option maxHeartbeats 2000000 in
theorem iParse (s : ByteArray) (hs : s.size ≤ 1000000000) (w : World) :
    Calls Try.prog 29 #[.string s] w fun e w' => e = .returned (.tuple #[.agg ((parL s).map (Value.int .i64)).toArray, .bool (parB s)]) ∧ Below w.heap.size w w' := by
  have HIZ := Aside0.mk (show (Try.prog.info? 24).map (·.size) = some ((List.replicate 9 0).map (Value.int .i64)).toArray.size from info24)
  have H1 := Aside0.mk (Blk.made w 24 (List.replicate 9 0))
  have HB := Aside0.mk (below_alloc (Below.refl w.heap.size w) (Obj.cells (List.map (Value.int IntKind.i64) (List.replicate 9 0)).toArray 24))
  have S0 := Aside0.mk (iTritsOf s hs)
  by_cases ha : (trs s).all isT = true
  · by_cases h9 : s.size = 9
    · have hT := trs_len s
      rw [h9] at hT
      have HT := Aside0.mk hT
      have HPY : Aside0 (parL s = trs s ∧ parB s = true) := ⟨by unfold parL parB; simp [h9, ha]⟩
      rw [if_pos ha] at S0
      obtain ⟨T, hTT⟩ : ∃ T, T = trs s := ⟨_, rfl⟩
      rw [← hTT] at HT S0 HPY
      have hlen := HT.out
      have b9 : ((T.length : Int) != 9) = false := by rw [HT.out]; rfl
      clear hT h9 hTT ha
      go_enter Try.func29, Try.ntmps29
      have hArr : ∀ (go co : Nat) (W : World), (Instr.arrayAt 24 (.slice (some ⟨go, 0, none⟩) 9 co)).run Try.prog W = .ok (.pointer (some ⟨go, 0, none⟩)) W := fun go co W => by
        unfold Instr.arrayAt
        simp [Sem.run_bind, run_underlying Try.underlying24 W]
      have HI := Aside0.mk (show (Try.prog.info? 24).map (·.size) = some (T.map (Value.int .i64)).length by rw [info24]; simp [HT.out])
      have HI2 := Aside0.mk (show (Try.prog.info? 24).map (·.size) = some (T.map (Value.int .i64)).toArray.size by rw [info24]; simp [HT.out])
      have HS := Aside0.mk (show (T.map (Value.int .i64)).toArray.size = 9 by simp [HT.out])
      have HA := Aside0.mk (all_one T)
      have HRG : Aside0 (∀ (W : World) (go co : Nat), Kd.C (Kd.int .i64) W (some ⟨go, 0, none⟩) T.length T → W.rangeAt go 0 (T.map (Value.int .i64))) := ⟨fun W go co hc => by
        intro k v hk
        have hk' : k < T.length := by simpa using (List.getElem?_eq_some_iff.1 hk).1
        obtain ⟨ad, e, hx⟩ := Kd.at_int hc (k : Int) (by omega) (by omega)
        cases e
        rw [Nat.zero_add, ← hk]
        have hadd : (⟨go, 0, none⟩ : Addr).add (k : Int).toNat = ⟨go, k, none⟩ := by unfold Addr.add; split <;> simp_all
        rw [hadd] at hx
        rw [hx]
        simp [rd, List.getD_eq_getElem?_getD, hk']⟩
      go_wp2_with (first | (go_at_call 52; refine (S0.out _).mono ?_; rintro e w1 ⟨v0, rfl, hR, hb⟩; obtain ⟨go, co, eo, gb, gl, cl, HG⟩ := Kd.R_form hR (by rw [hlen]; omega); subst eo; have n0 := Aside0.mk (H1.out.below hb); have n2 := Aside0.mk (below_step HB.out hb); have HR := Aside0.mk (HRG.out w1 go co (Kd.R_reads' hR).2.2); clear H1 HB hb hR gb gl cl HG; have H1 := n0; have HB := n2; clear n0 n2) | refine wpList_load_mid rfl 24 _ rfl go 0 rfl (T.map (Value.int .i64)) _ HR.out Try.underlying24 rfl HI.out ?_ | refine wpList_store_row rfl 24 _ _ rfl w.heap.size (T.map (Value.int .i64)).toArray rfl rfl 24 _ H1.out HI2.out (by rw [HS.out]; rfl) HA.out ?_)
      have hr := Blk.setRow H1.out T
      rw [HPY.out.1, HPY.out.2]
      exact bodyPost_ret (results2 (ty := 24) rfl _ _ w.heap.size 24 _ (0, 0) _ rfl hr Try.underlying24 rfl HI2.out) rfl ⟨rfl, belowRow HB.out (by omega) _⟩
    · have HPN : Aside0 (parL s = List.replicate 9 0 ∧ parB s = false) := ⟨by unfold parL parB; simp [h9]⟩
      have hT := trs_len s
      rw [if_pos ha] at S0
      obtain ⟨T, hTT⟩ : ∃ T, T = trs s := ⟨_, rfl⟩
      rw [← hTT] at hT S0
      have b9 : ((T.length : Int) != 9) = true := by simp; omega
      have b9' : (T.length != 9) = true := by simp; omega
      clear hT h9 hTT ha
      go_enter Try.func29, Try.ntmps29
      go_wp2_with (first | (go_at_call 52; refine (S0.out _).mono ?_; rintro e w1 ⟨v0, rfl, hR, hb⟩; obtain ⟨A, co, eo⟩ := Kd.R_slice hR; subst eo; have n0 := Aside0.mk (H1.out.below hb); have n2 := Aside0.mk (below_step HB.out hb); clear H1 HB hb hR; have H1 := n0; have HB := n2; clear n0 n2) | refine wpList_store_row rfl 24 _ _ rfl w.heap.size ((List.replicate 9 0).map (Value.int .i64)).toArray rfl rfl 24 _ H1.out HIZ.out rfl (all_one (List.replicate 9 0)) ?_)
      have hr := Blk.setRow H1.out (List.replicate 9 0)
      rw [HPN.out.1, HPN.out.2]
      exact bodyPost_ret (results2 (ty := 24) rfl _ _ w.heap.size 24 _ (0, 0) _ rfl hr Try.underlying24 rfl HIZ.out) rfl ⟨rfl, belowRow HB.out (by omega) _⟩
  · have HPN : Aside0 (parL s = List.replicate 9 0 ∧ parB s = false) := ⟨by unfold parL parB; simp [ha]⟩
    rw [if_neg ha] at S0
    clear ha
    go_enter Try.func29, Try.ntmps29
    go_wp2_with (first | (go_at_call 52; refine (S0.out _).mono ?_; rintro e w1 ⟨v0, rfl, hR, hb⟩; obtain ⟨A, co, eo⟩ := Kd.R_slice hR; subst eo; have n0 := Aside0.mk (H1.out.below hb); have n2 := Aside0.mk (below_step HB.out hb); clear H1 HB hb hR; have H1 := n0; have HB := n2; clear n0 n2) | refine wpList_store_row rfl 24 _ _ rfl w.heap.size ((List.replicate 9 0).map (Value.int .i64)).toArray rfl rfl 24 _ H1.out HIZ.out rfl (all_one (List.replicate 9 0)) ?_)
    have hr := Blk.setRow H1.out (List.replicate 9 0)
    rw [HPN.out.1, HPN.out.2]
    exact bodyPost_ret (results2 (ty := 24) rfl _ _ w.heap.size 24 _ (0, 0) _ rfl hr Try.underlying24 rfl HIZ.out) rfl ⟨rfl, belowRow HB.out (by omega) _⟩
end Go.Proofs.Ytegknmpphbkgpaa.HQ
