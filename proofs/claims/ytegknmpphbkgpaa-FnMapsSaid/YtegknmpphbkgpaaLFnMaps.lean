/- The law of carry maps holds, whatever the bytes. -/
import Derived.Test.YtegknmpphbkgpaaProg
import Derived.Below
import Derived.WalkSpells
import Derived.Deep.Draws
import Derived.Deep.AppendLies
import Derived.Maps.AppendAt
import Derived.OwnWalk
import Derived.Laws.BytesArg
import Derived.Laws.MakeOwn
import Derived.Laws.OwnMore
import Derived.Deep.OwnRows
import Derived.Tactics
import Derived.Lib.ConvBytes
import Derived.Laws.Slices
import Derived.WalkKit
import Derived.KernelRfl
import Derived.RowKit3
import Derived.Deep.LoopGhost
import Derived.Deep.QuietTactic
import Derived.BigQuiet
import Derived.WideLaws
import Derived.Deep.DeepCutAuto
import Derived.Deep.CutBlock
import Derived.Deep.RegionHeld3
import Derived.Laws.Rows
import Derived.Lib.AppendStr
import Derived.ArgAppend
import Derived.Laws.IdiomCopy
import Derived.OrdersHeld
import Derived.Laws.BitsLemmas
import Derived.RowKit
import Derived.Test.YtegknmpphbkgpaaWWords
import Derived.Test.YtegknmpphbkgpaaWLast
import Derived.Test.YtegknmpphbkgpaaWTab
import Derived.Test.YtegknmpphbkgpaaWFour
import Derived.Test.YtegknmpphbkgpaaWQPut
import Derived.Test.YtegknmpphbkgpaaWApart
import Derived.Test.YtegknmpphbkgpaaWArr
import Derived.Test.YtegknmpphbkgpaaWZeros
import Derived.Test.YtegknmpphbkgpaaWFoot
import Derived.Test.YtegknmpphbkgpaaWKept
import Derived.Test.YtegknmpphbkgpaaWShare
import Derived.Test.YtegknmpphbkgpaaWN
import Derived.Test.YtegknmpphbkgpaaWFootNe
import Derived.Test.YtegknmpphbkgpaaWAt
import Derived.Test.YtegknmpphbkgpaaWEqStruct
import Derived.Test.YtegknmpphbkgpaaWRepsOne
import Derived.Test.YtegknmpphbkgpaaWInv
import Derived.Test.YtegknmpphbkgpaaWInvWords
import Derived.Test.YtegknmpphbkgpaaWGuard
import Derived.Test.YtegknmpphbkgpaaWNEv
import Derived.Test.YtegknmpphbkgpaaWMore
import Derived.ChangeKeysEq
import Derived.Test.YtegknmpphbkgpaaHU2
import Derived.Test.YtegknmpphbkgpaaHC
set_option linter.unusedVariables false
set_option linter.unusedSimpArgs false
namespace Go.Proofs.Ytegknmpphbkgpaa.LFnMaps
open Go.RowKit Go.Proofs.YtegknmpphbkgpaaW.PrintWords Go.Proofs.YtegknmpphbkgpaaW.PrintLast Go.Proofs.YtegknmpphbkgpaaW.PrintMore Go.Proofs.Ytegknmpphbkgpaa.HA Go.Proofs.Ytegknmpphbkgpaa.HC Go.Proofs.Ytegknmpphbkgpaa.HL Go.Proofs.Ytegknmpphbkgpaa.HM Go.Proofs.Ytegknmpphbkgpaa.HT Go.Proofs.Ytegknmpphbkgpaa.HU2
open Go.BigFrame
section
variable {P : Program} {w : World}
theorem items_same {d : Nat} {e : TypeId} (he : P.underlying e = some (.int .i64)) (l : List Int) : ∀ (is : List Nat), (∀ i ∈ is, i < l.length) → (Op.eqItems (d + 1) e 1 (l.map (Value.int .i64)).toArray (l.map (Value.int .i64)).toArray is).run P w = .ok true w
  | [], _ => by simp [Op.eqItems]
  | i :: is, h => by
    have hi := h i (by simp)
    have hx : (l.map (Value.int .i64)).toArray[i]? = some (.int .i64 (gt l i)) := by simp [gt, List.getD_eq_getElem?_getD, hi]
    have hp : (part e (l.map (Value.int .i64)).toArray i).run P w = .ok (.int .i64 (gt l i)) w := by
      simp only [part, isAgg, Sem.run_bind, run_underlying he, Result.andThen_ok, Sem.run_pure, Bool.false_eq_true, if_false, hx]
    have hq : (Op.equalIn (d + 1) e (.int .i64 (gt l i)) (.int .i64 (gt l i))).run P w = .ok true w := by
      rw [run_equalIn_int w d e .i64 .i64 _ _ he]
      simp
    simp only [Op.eqItems, Sem.run_bind, Nat.mul_one, hp, hq, Result.andThen_ok, Bool.not_true, Bool.false_eq_true, if_false]
    exact items_same he l is fun j hj => h j (by simp [hj])
theorem equal_same {t e : TypeId} {n : Nat} {i : TypeInfo} (hu : P.underlying t = some (.array n e)) (he : P.underlying e = some (.int .i64)) (hi : P.info? e = some i) (hc : P.cellsOf e = 1) (l : List Int) (hl : l.length = n) :
    (Op.equal t (.agg (l.map (Value.int .i64)).toArray) (.agg (l.map (Value.int .i64)).toArray)).run P w = .ok true w := by
  unfold Op.equal
  rw [show Op.maxDepth = 9999 + 1 from rfl, run_equalIn_array w 9999 _ _ hu hi, hc]
  exact items_same he l _ fun j hj => by rw [hl]; exact List.mem_range.mp hj
variable {a : Act} {o : Oper}
theorem quiet_neq_same {ι : Type} {F : ι → World} {K : Act → Prop} (t : TypeId) (x y : Operand) (ty : TypeId) (ho : o.op = .binOp .neq t x y ty) (l : List Int) (hx : a.eval x = .agg (l.map (Value.int .i64)).toArray) (hy : a.eval y = .agg (l.map (Value.int .i64)).toArray)
    (hg : P.eqGuardType P.depth t = false) (he : ∀ w, (Op.equal t (.agg (l.map (Value.int .i64)).toArray) (.agg (l.map (Value.int .i64)).toArray)).run P w = .ok true w) (h : K (a.put o.dst (.bool false))) : o.quiet P a (fun w' => ∃ i, w' = F i) K := by
  refine ⟨_, fun w hw => ?_, h⟩
  unfold Oper.quietAt execOp
  simp only [ho, hx, hy, eqGuard, binOp, Sem.run_bind, run_program, hg, he, Result.andThen_ok, Sem.run_pure, Bool.not_true, Bool.not_false, if_true, Bool.false_eq_true, if_false]
  exact ⟨rfl, rfl⟩
theorem quiet_eql_same {ι : Type} {F : ι → World} {K : Act → Prop} (t : TypeId) (x y : Operand) (ty : TypeId) (ho : o.op = .binOp .eql t x y ty) (l : List Int) (hx : a.eval x = .agg (l.map (Value.int .i64)).toArray) (hy : a.eval y = .agg (l.map (Value.int .i64)).toArray)
    (hg : P.eqGuardType P.depth t = false) (he : ∀ w, (Op.equal t (.agg (l.map (Value.int .i64)).toArray) (.agg (l.map (Value.int .i64)).toArray)).run P w = .ok true w) (h : K (a.put o.dst (.bool true))) : o.quiet P a (fun w' => ∃ i, w' = F i) K := by
  refine ⟨_, fun w hw => ?_, h⟩
  unfold Oper.quietAt execOp
  simp only [ho, hx, hy, eqGuard, binOp, Sem.run_bind, run_program, hg, he, Result.andThen_ok, Sem.run_pure, Bool.not_true, Bool.not_false, if_true, Bool.false_eq_true, if_false]
  exact ⟨rfl, rfl⟩
end
open Go.BigFrame
set_option maxRecDepth 100000 in
set_option maxHeartbeats 8000000 in
theorem lawCore (A0 : Option Addr) (c0 : Nat) (l0 : List Int) (w : World) (hr0 : Kd.C (Kd.int .u8) w A0 l0.length l0) (hc0 : l0.length ≤ c0) (hw0 : ∀ x ∈ l0, (Lit.int .u8 x).wf = true) :
    Calls Try.prog 14 #[.slice A0 l0.length c0] w fun e w' => e = .returned (.bool true) ∧ Below w.heap.size w w' := by
  by_cases hbig : (l0.length : Int) > 1048576
  · have hb0 : decide ((l0.length : Int) > 1048576) = true := decide_eq_true hbig
    go_enter Try.func14, Try.ntmps14
    go_wp2
    go_ret
    exact ⟨rfl, Below.refl _ _⟩
  · have hb0 : decide ((l0.length : Int) > 1048576) = false := decide_eq_false hbig
    have hb1 : ¬ (1048576 : Int) < l0.length := hbig
    have HL := Aside0.mk (show l0.length ≤ 1048576 by omega)
    have HR := Aside0.mk hr0
    have HC := Aside0.mk hc0
    have HY := Aside0.mk (HU.wf8 hw0)
    have HB0 := Aside0.mk (Below.refl w.heap.size w)
    clear hr0 hc0 hbig hw0
    go_enter Try.func14, Try.ntmps14
    go_upto_region 4 with (first
      | (go_at_call 42; refine (HU.at_calls A0 c0 l0 _ HR.out HC.out HL.out HY.out 1 (by omega) (by omega) 25 (by omega)).mono ?_; rintro e w1 ⟨r, rfl, q1, q2, hb⟩; obtain ⟨q, hq⟩ : ∃ q, Int.tmod r 25 = q := ⟨_, rfl⟩; rw [hq] at q1 q2; have HB1 := Aside0.mk (below_step HB0.out hb); clear hb HB0)
      | (go_at_call 41; refine (HU.exact_calls A0 c0 l0 _ (Kd.C_below HR.out HB1.out) HC.out (by have := HL.out; omega) (2 + q) (by omega) (by omega)).mono ?_; rintro e w2 ⟨ga, ca, a, rfl, hn, hwa, hna, ⟨ba, hra⟩, hb⟩; have HN := Aside0.mk hn; have WA := Aside0.mk hwa; have NA := Aside0.mk hna; have RA := Aside0.mk hra; have hn1 : 2 ≤ a.length := (by omega); have hn2 : a.length ≤ 30 := (by omega); have HB2 := Aside0.mk (below_step HB1.out hb); clear hn hwa hna hra hb HB1))
    go_upto_region 5 with (first
      | (go_at_call 43; refine (HU.fresh_calls A0 c0 l0 _ (Kd.C_below HR.out HB2.out) HC.out HL.out).mono ?_; rintro e w3 ⟨Af, cf, lf, rfl, hcf, hlf, hkf, hb⟩; have HCF := Aside0.mk hcf; have HLF := Aside0.mk hlf; have KF := Aside0.mk hkf; have RA3 := Aside0.mk (Kd.R_below RA.out hb); have NA3 := Aside0.mk (NA.out.below hb); have HB3 := Aside0.mk (below_step HB2.out hb); clear hcf hlf hkf hb HB2 RA NA)
      | (go_at_call 41; refine (HU.exact_calls Af cf lf _ KF.out HCF.out (by have := HLF.out; omega) (a.length : Int) (by omega) (by omega)).mono ?_; rintro e w4 ⟨gb, cb, b, rfl, hn, hwb, hnb, ⟨bb, hrb⟩, hb⟩; have HAB := Aside0.mk (show a.length = b.length by omega); have WB := Aside0.mk hwb; have NB := Aside0.mk hnb; have RB := Aside0.mk hrb; have RA := Aside0.mk (Kd.R_below RA3.out hb); have NA := Aside0.mk (NA3.out.below hb); have HB4 := Aside0.mk (below_step HB3.out hb); clear hn hwb hnb hrb hb HB3 RA3 NA3 KF HCF HLF))
    go_upto_region 6 with (go_at_call 42; refine (HU.at_calls A0 c0 l0 _ (Kd.C_below HR.out HB4.out) HC.out HL.out HY.out 2 (by omega) (by omega) 3 (by omega)).mono ?_; rintro e w5 ⟨r2, rfl, p1, p2, hb⟩; obtain ⟨q2, hq2⟩ : ∃ q2, Int.tmod r2 3 = q2 := ⟨_, rfl⟩; rw [hq2] at p1 p2; have RA5 := Aside0.mk (Kd.R_below RA.out hb); have NA5 := Aside0.mk (NA.out.below hb); have RB5 := Aside0.mk (Kd.R_below RB.out hb); have NB5 := Aside0.mk (NB.out.below hb); have HB5 := Aside0.mk (below_step HB4.out hb); clear hb HB4 RA NA RB NB)
    obtain ⟨c, hc⟩ : ∃ c, c = q2 - 1 := ⟨_, rfl⟩
    rw [← hc]
    have hc1 : -1 ≤ c := by omega
    have hc2 : c ≤ 1 := by omega
    have HTC := Aside0.mk (HU.isT_iff.mpr ⟨hc1, hc2⟩)
    clear hc hq2 hq
    go_upto_region 10 with (first
      | (go_at_call 44; refine (HU.carries_calls a b c HTC.out WA.out WB.out HAB.out ga gb ca cb ba bb _ RA5.out RB5.out).mono ?_; rintro e w6 ⟨gc, cc, rfl, hn, hb⟩; have NC := Aside0.mk hn; have RA6 := Aside0.mk (Kd.R_below RA5.out hb); have NA6 := Aside0.mk (NA5.out.below hb); have RB6 := Aside0.mk (Kd.R_below RB5.out hb); have NB6 := Aside0.mk (NB5.out.below hb); have HB6 := Aside0.mk (below_step HB5.out hb); clear hn hb HB5 RA5 NA5 RB5 NB5)
      | (go_at_call 45; refine (HU.addw_calls a b c HTC.out WA.out WB.out HAB.out ga gb ca cb ba bb _ RA6.out RB6.out).mono ?_; rintro e w7 ⟨sv, rfl, hb⟩; have NA := Aside0.mk (NA6.out.below hb); have NB := Aside0.mk (NB6.out.below hb); have NC7 := Aside0.mk (NC.out.below hb); have HB := Aside0.mk (below_step HB6.out hb); have hcell : w7.cell? ⟨gc, 0, none⟩ = some (.int .i64 c) := (by rw [NC7.out.2 0 (by rw [(HU.addL_carry a b c HAB.out).1]; omega), HU.cin_at a b c HAB.out 0 (by omega), HU.cin_zero a b c HAB.out]); clear hb HB6 RA6 NA6 RB6 NB6 NC))
    have hn3 : 2 ≤ b.length := by have := HAB.out; omega
    have hn4 : b.length ≤ 30 := by have := HAB.out; omega
    have TA := Aside0.mk (HU.isW_iff.mp WA.out).2.2
    have TB := Aside0.mk (HU.isW_iff.mp WB.out).2.2
    have HMS : Aside0 (MS w7 w7 []) := ⟨⟨Below.refl _ _, fun p hp => by cases hp⟩⟩
    have hk0 : 0 < a.length := by omega
    have hk1 : 1 < a.length := by omega
    have hk2 : 0 < b.length := by omega
    have hk3 : 1 < b.length := by omega
    have hi0 : (0 : Int) < (a.length : Int) := by omega
    have hi1 : (1 : Int) < (a.length : Int) := by omega
    have hi2 : (0 : Int) < (b.length : Int) := by omega
    have hi3 : (1 : Int) < (b.length : Int) := by omega
    clear HL HR HC HY HN
    have HSC : Aside0 (∀ w', MS w7 w' [] → (w'.cell? ⟨ga, 0, none⟩ = some (.int .i64 (gt a 0)) ∧ w'.cell? ⟨gb, 0, none⟩ = some (.int .i64 (gt b 0)) ∧ MS w7 w' [])) := ⟨fun w' h => ⟨(NA.out.below h.1).2 0 (by omega), (NB.out.below h.1).2 0 (by omega), h⟩⟩
    obtain ⟨x0, x1, hs0⟩ := HSC.out _ HMS.out
    clear hs0
    obtain ⟨m0, m1, m2, hm⟩ : ∃ m0 m1 m2, mapL (gt a 0) (gt b 0) = [m0, m1, m2] := ⟨_, _, _, rfl⟩
    have SM : Aside0 (∀ w : World, Calls Try.prog 32 #[.int .i64 (gt a 0), .int .i64 (gt b 0)] w fun e w' => e = .returned (.agg #[.int .i64 m0, .int .i64 m1, .int .i64 m2]) ∧ Below w.heap.size w w') := ⟨fun w => by have := iMapOf (gt a 0) (gt b 0) w; rw [hm] at this; exact this⟩
    have HM := Aside0.mk hm
    clear hm
    go_wp2
    go_cut [11] (fun s wx => ∃ g : Nat, s = .pointer (some ⟨g, 0, none⟩) ∧ Aside0 (MS w7 wx ((g, mapL (gt a 0) (gt b 0)) :: [])) ∧ Aside0 (w7.heap.size ≤ g))
    case first =>
      go_region_held3 (fun w' => w'.cell? ⟨ga, 0, none⟩ = some (.int .i64 (gt a 0)) ∧ w'.cell? ⟨gb, 0, none⟩ = some (.int .i64 (gt b 0)) ∧ MS w7 w' [])
        (((with_reducible refine HSC.out _ ?_); first | (with_reducible exact MS.drew HMS.out) | ((try go_split_ands); with_reducible exact MS.below (by assumption) hb) | ((try go_split_ands); with_reducible exact MS.alloc (by assumption) _) | ((try go_split_ands); with_reducible exact MS.set3 (by assumption) hz _ _ _) | ((try go_split_ands); with_reducible exact MS.set3 (MS.below (by assumption) hb) hz _ _ _) | ((try go_split_ands); with_reducible exact MS.alloc (MS.below (by assumption) hb) _) | (with_reducible exact MS.drew (MS.alloc HMS.out _))))
        (first | (go_at_call 32; with_reducible refine (SM.out _).mono ?_; rintro e w8 ⟨rfl, hb⟩; (try go_split_ands); (try (have hz := MZ.below (MZ.drew (MZ.made HMS.out)) hb; obtain ⟨z0, z1, z2, y0, y1, y2⟩ := hz.cells))))
      all_goals (go_wp2_with fail; go_meet; (try go_split_ands); first | (have q := mway1 (MS.below (L := []) (by assumption) hb) m0 m1 m2; exact ⟨_, rfl, ⟨by rw [HM.out]; exact q⟩, ⟨(MS.below (L := []) (by assumption) hb).1.size⟩⟩) | (have q := mway2 (MS.below (L := []) (by assumption) hb) hz m0 m1 m2; exact ⟨_, rfl, ⟨by rw [HM.out]; exact q⟩, ⟨hz.2.1⟩⟩))
    case rest =>
      obtain ⟨g1, rfl, HMS2, HK⟩ := hcut
      clear HMS x0 x1
      have HMS := HMS2
      clear HMS2
      have hwc : IntKind.i64.wrap (c + 1) = c + 1 := IntWalk.i64_in _ (by omega)
      have hc3 : 0 ≤ c + 1 := by omega
      have hc4 : c + 1 < 3 := by omega
      have HC1 : Aside0 (gt (mapL (gt a 0) (gt b 0)) (c + 1).toNat = HU.cin a b c 1) := ⟨by
        have ha := TA.out _ (HU.mem_getD1 a 0 (by omega))
        have hb := TB.out _ (HU.mem_getD1 b 0 (by omega))
        rw [HU.cin_step a b c HAB.out 0 (by omega), HU.cin_zero a b c HAB.out]
        exact map_at _ _ _ ha hb ⟨hc1, hc2⟩⟩
      go_wp2
      go_loopw [12] (fun v12 w' => ∃ j : Nat, ∃ l0 l1 l2 : Int, 1 ≤ j ∧ j ≤ a.length ∧ v12 = .int .i64 j ∧ Aside0 ([l0, l1, l2].all isT = true) ∧ Aside0 (gt [l0, l1, l2] (c + 1).toNat = HU.cin a b c j) ∧ Aside0 (MS w7 w' [(g1, [l0, l1, l2])])) (fun v12 _ => a.length - (intOf v12).toNat)
      case atStart => exact ⟨1, m0, m1, m2, by omega, by omega, rfl, ⟨by rw [← HM.out]; exact map_all _ _⟩, ⟨by rw [← HM.out]; exact HC1.out⟩, ⟨by rw [← HM.out]; exact HMS.out⟩⟩
      case round =>
        clear HMS HC1 HM SM HSC m0 m1 m2
        obtain ⟨j, l0, l1, l2, hj1, hj2, rfl, HA, HG, HMS⟩ := hrel
        by_cases hlt : j < a.length
        · have hlb : j < b.length := by have := HAB.out; omega
          have hji1 : (j : Int) < (a.length : Int) := by omega
          have hji2 : (j : Int) < (b.length : Int) := by omega
          have hcc : wr.cell? ⟨gc, j, none⟩ = some (.int .i64 (HU.cin a b c j)) := by
            rw [(NC7.out.below HMS.out.1).2 j (by rw [(HU.addL_carry a b c HAB.out).1]; exact hlt), HU.cin_at a b c HAB.out j hlt]
          have hca : wr.cell? ⟨g1, (c + 1).toNat, none⟩ = some (.int .i64 (HU.cin a b c j)) := by
            have := (HMS.out.blk (g1, [l0, l1, l2]) (List.mem_singleton.2 rfl)).cell (c + 1).toNat (by simp only [List.length_cons, List.length_nil]; omega)
            rwa [HG.out] at this
          have hfa := TA.out _ (HU.mem_getD1 a j (by omega))
          have hfb := TB.out _ (HU.mem_getD1 b j (by omega))
          have hct := HU.cin_trit a b c HAB.out TA.out TB.out ⟨hc1, hc2⟩ j (by omega)
          have HS1 := Aside0.mk (map_at (gt a j) (gt b j) (HU.cin a b c j) hfa hfb hct)
          clear hfa hfb hct
          obtain ⟨m0, m1, m2, hm⟩ : ∃ m0 m1 m2, mapL (gt a j) (gt b j) = [m0, m1, m2] := ⟨_, _, _, rfl⟩
          obtain ⟨t0, t1, t2, ht⟩ := three (thenL [l0, l1, l2] [m0, m1, m2]) (thenL_len _ _ rfl)
          have SM : Aside0 (∀ w : World, Calls Try.prog 32 #[.int .i64 (gt a j), .int .i64 (gt b j)] w fun e w' => e = .returned (.agg #[.int .i64 m0, .int .i64 m1, .int .i64 m2]) ∧ Below w.heap.size w w') := ⟨fun w => by have := iMapOf (gt a j) (gt b j) w; rw [hm] at this; exact this⟩
          have ST : Aside0 (∀ w : World, Calls Try.prog 22 #[.agg #[.int .i64 l0, .int .i64 l1, .int .i64 l2], .agg #[.int .i64 m0, .int .i64 m1, .int .i64 m2]] w fun e w' => e = .returned (.agg #[.int .i64 t0, .int .i64 t1, .int .i64 t2]) ∧ Below w.heap.size w w') := ⟨fun w => by have := iThenMap [l0, l1, l2] [m0, m1, m2] rfl rfl w; rw [ht] at this; exact this⟩
          have HMA := Aside0.mk (show [m0, m1, m2].all isT = true by rw [← hm]; exact map_all _ _)
          have HTA : Aside0 ([t0, t1, t2].all isT = true) := ⟨by rw [← ht]; exact then_all _ _ HMA.out⟩
          have HTG : Aside0 (gt [t0, t1, t2] (c + 1).toNat = HU.cin a b c (j + 1)) := ⟨by
            rw [← ht, gt_thenL _ _ _ rfl (by omega) HA.out HMA.out, HG.out, ← hm, HS1.out, HU.cin_step a b c HAB.out j hlt]
            rfl⟩
          clear hm ht HS1
          go_wp2
          go_quiet (fail)
          go_wp2
          have HMQ := Aside0.mk (HMS.out.drewN nq)
          clear hcc hca
          generalize hwq : wr.drewN nq = wq at HMQ ⊢
          clear hwq
          have xa : wq.cell? ⟨ga, j, none⟩ = some (.int .i64 (gt a j)) := (NA.out.below HMQ.out.1).2 j hlt
          have yb : wq.cell? ⟨gb, j, none⟩ = some (.int .i64 (gt b j)) := (NB.out.below HMQ.out.1).2 j hlb
          obtain ⟨a0, a1, a2, f0, f1, f2⟩ := HMQ.out.cells1
          go_region_with (first
            | (go_at_call 32; with_reducible refine (SM.out _).mono ?_; rintro e w8 ⟨rfl, hb⟩; have H8 := Aside0.mk (MS.below (MS.drew HMQ.out) hb); obtain ⟨z0, z1, z2, y0, y1, y2⟩ := H8.out.cells1; clear hb)
            | (go_at_call 22; with_reducible refine (ST.out _).mono ?_; rintro e w9 ⟨rfl, hb⟩; have H9 := Aside0.mk (MS.below H8.out hb); obtain ⟨v0, v1, v2, r0, r1, r2⟩ := H9.out.cells1; clear hb))
          all_goals go_wp2
          all_goals go_roundw
          all_goals first
            | exact ⟨j + 1, t0, t1, t2, by omega, by omega, by go_num, HTA, HTG, ⟨mway3 H9.out HK.out t0 t1 t2⟩⟩
            | (simp [intOf]; omega)
        · have hjn : j = a.length := by omega
          subst hjn
          have HF0 := Aside0.mk (HG.out)
          have hca2 := Aside0.mk (HG.out)
          clear hwc hc3 hc4 hj1 hj2 hlt
          obtain ⟨L, hL⟩ : ∃ L, L = [l0, l1, l2] := ⟨_, rfl⟩
          rw [← hL] at HMS HA HG
          have HL3 := Aside0.mk (show L.length = 3 by rw [hL]; rfl)
          clear hL
          clear HF0 hca2
          have HSC : Aside0 (∀ w', MS w7 w' [(g1, L)] → (w'.cell? ⟨ga, 0, none⟩ = some (.int .i64 (gt a 0)) ∧ w'.cell? ⟨gb, 0, none⟩ = some (.int .i64 (gt b 0)) ∧ MS w7 w' [(g1, L)])) := ⟨fun w' h => ⟨(NA.out.below h.1).2 0 (by omega), (NB.out.below h.1).2 0 (by omega), h⟩⟩
          obtain ⟨x0, x1, hs0⟩ := HSC.out _ HMS.out
          clear hs0
          obtain ⟨m0, m1, m2, hm⟩ : ∃ m0 m1 m2, mapL (gt a 0) (gt b 0) = [m0, m1, m2] := ⟨_, _, _, rfl⟩
          have SM : Aside0 (∀ w : World, Calls Try.prog 32 #[.int .i64 (gt a 0), .int .i64 (gt b 0)] w fun e w' => e = .returned (.agg #[.int .i64 m0, .int .i64 m1, .int .i64 m2]) ∧ Below w.heap.size w w') := ⟨fun w => by have := iMapOf (gt a 0) (gt b 0) w; rw [hm] at this; exact this⟩
          have HM := Aside0.mk hm
          clear hm
          go_wp2
          go_cut [13] (fun s wx => ∃ g : Nat, s = .pointer (some ⟨g, 0, none⟩) ∧ Aside0 (MS w7 wx ((g, mapL (gt a 0) (gt b 0)) :: [(g1, L)])) ∧ Aside0 (w7.heap.size ≤ g))
          case first =>
            go_region_held3 (fun w' => w'.cell? ⟨ga, 0, none⟩ = some (.int .i64 (gt a 0)) ∧ w'.cell? ⟨gb, 0, none⟩ = some (.int .i64 (gt b 0)) ∧ MS w7 w' [(g1, L)])
              (((with_reducible refine HSC.out _ ?_); first | (with_reducible exact MS.drew HMS.out) | ((try go_split_ands); with_reducible exact MS.below (by assumption) hb) | ((try go_split_ands); with_reducible exact MS.alloc (by assumption) _) | ((try go_split_ands); with_reducible exact MS.set3 (by assumption) hz _ _ _) | ((try go_split_ands); with_reducible exact MS.set3 (MS.below (by assumption) hb) hz _ _ _) | ((try go_split_ands); with_reducible exact MS.alloc (MS.below (by assumption) hb) _) | (with_reducible exact MS.drew (MS.alloc HMS.out _))))
              (first | (go_at_call 32; with_reducible refine (SM.out _).mono ?_; rintro e w8 ⟨rfl, hb⟩; (try go_split_ands); (try (have hz := MZ.below (MZ.drew (MZ.made HMS.out)) hb; obtain ⟨z0, z1, z2, y0, y1, y2⟩ := hz.cells))))
            all_goals (go_wp2_with fail; go_meet; (try go_split_ands); first | (have q := mway1 (MS.below (L := [(g1, L)]) (by assumption) hb) m0 m1 m2; exact ⟨_, rfl, ⟨by rw [HM.out]; exact q⟩, ⟨(MS.below (L := [(g1, L)]) (by assumption) hb).1.size⟩⟩) | (have q := mway2 (MS.below (L := [(g1, L)]) (by assumption) hb) hz m0 m1 m2; exact ⟨_, rfl, ⟨by rw [HM.out]; exact q⟩, ⟨hz.2.1⟩⟩))
          case rest =>
            obtain ⟨g3, rfl, HMS2, HK3⟩ := hcut
            clear HMS x0 x1 HSC SM HM m0 m1 m2
            have HMS := HMS2
            clear HMS2
            obtain ⟨f, hf⟩ : ∃ f, f = mapL (gt a 0) (gt b 0) := ⟨_, rfl⟩
            rw [← hf] at HMS
            have FA := Aside0.mk (show f.all isT = true by rw [hf]; exact map_all _ _)
            have F3 := Aside0.mk (show f.length = 3 by rw [hf]; rfl)
            clear hf
            have HSC : Aside0 (∀ w', MS w7 w' [(g3, f), (g1, L)] → (w'.cell? ⟨ga, 1, none⟩ = some (.int .i64 (gt a 1)) ∧ w'.cell? ⟨gb, 1, none⟩ = some (.int .i64 (gt b 1)) ∧ MS w7 w' [(g3, f), (g1, L)])) := ⟨fun w' h => ⟨(NA.out.below h.1).2 1 (by omega), (NB.out.below h.1).2 1 (by omega), h⟩⟩
            obtain ⟨x0, x1, hs0⟩ := HSC.out _ HMS.out
            clear hs0
            obtain ⟨m0, m1, m2, hm⟩ : ∃ m0 m1 m2, mapL (gt a 1) (gt b 1) = [m0, m1, m2] := ⟨_, _, _, rfl⟩
            have SM : Aside0 (∀ w : World, Calls Try.prog 32 #[.int .i64 (gt a 1), .int .i64 (gt b 1)] w fun e w' => e = .returned (.agg #[.int .i64 m0, .int .i64 m1, .int .i64 m2]) ∧ Below w.heap.size w w') := ⟨fun w => by have := iMapOf (gt a 1) (gt b 1) w; rw [hm] at this; exact this⟩
            have HM := Aside0.mk hm
            clear hm
            go_wp2
            go_cut [14] (fun s wx => ∃ g : Nat, s = .pointer (some ⟨g, 0, none⟩) ∧ Aside0 (MS w7 wx ((g, mapL (gt a 1) (gt b 1)) :: [(g3, f), (g1, L)])) ∧ Aside0 (w7.heap.size ≤ g))
            case first =>
              go_region_held3 (fun w' => w'.cell? ⟨ga, 1, none⟩ = some (.int .i64 (gt a 1)) ∧ w'.cell? ⟨gb, 1, none⟩ = some (.int .i64 (gt b 1)) ∧ MS w7 w' [(g3, f), (g1, L)])
                (((with_reducible refine HSC.out _ ?_); first | (with_reducible exact MS.drew HMS.out) | ((try go_split_ands); with_reducible exact MS.below (by assumption) hb) | ((try go_split_ands); with_reducible exact MS.alloc (by assumption) _) | ((try go_split_ands); with_reducible exact MS.set3 (by assumption) hz _ _ _) | ((try go_split_ands); with_reducible exact MS.set3 (MS.below (by assumption) hb) hz _ _ _) | ((try go_split_ands); with_reducible exact MS.alloc (MS.below (by assumption) hb) _) | (with_reducible exact MS.drew (MS.alloc HMS.out _))))
                (first | (go_at_call 32; with_reducible refine (SM.out _).mono ?_; rintro e w8 ⟨rfl, hb⟩; (try go_split_ands); (try (have hz := MZ.below (MZ.drew (MZ.made HMS.out)) hb; obtain ⟨z0, z1, z2, y0, y1, y2⟩ := hz.cells))))
              all_goals (go_wp2_with fail; go_meet; (try go_split_ands); first | (have q := mway1 (MS.below (L := [(g3, f), (g1, L)]) (by assumption) hb) m0 m1 m2; exact ⟨_, rfl, ⟨by rw [HM.out]; exact q⟩, ⟨(MS.below (L := [(g3, f), (g1, L)]) (by assumption) hb).1.size⟩⟩) | (have q := mway2 (MS.below (L := [(g3, f), (g1, L)]) (by assumption) hb) hz m0 m1 m2; exact ⟨_, rfl, ⟨by rw [HM.out]; exact q⟩, ⟨hz.2.1⟩⟩))
            case rest =>
              obtain ⟨g4, rfl, HMS2, HK4⟩ := hcut
              clear HMS x0 x1 HSC SM HM m0 m1 m2
              have HMS := HMS2
              clear HMS2
              obtain ⟨gl, hg⟩ : ∃ gl, gl = mapL (gt a 1) (gt b 1) := ⟨_, rfl⟩
              rw [← hg] at HMS
              have GA := Aside0.mk (show gl.all isT = true by rw [hg]; exact map_all _ _)
              have G3 := Aside0.mk (show gl.length = 3 by rw [hg]; rfl)
              clear hg
              obtain ⟨n, hlen⟩ : ∃ n, a.length = n + 1 := ⟨a.length - 1, by omega⟩
              have hlenb : b.length = n + 1 := by rw [← HAB.out]; exact hlen
              rw [hlen, hlenb]
              have hl1 : n ≤ 30 := by omega
              have hl2 : (0 : Int) ≤ (n : Int) := by omega
              have HSC : Aside0 (∀ w', MS w7 w' [(g4, gl), (g3, f), (g1, L)] → (w'.cell? ⟨ga, n, none⟩ = some (.int .i64 (gt a n)) ∧ w'.cell? ⟨gb, n, none⟩ = some (.int .i64 (gt b n)) ∧ MS w7 w' [(g4, gl), (g3, f), (g1, L)])) := ⟨fun w' h => ⟨(NA.out.below h.1).2 n (by omega), (NB.out.below h.1).2 n (by omega), h⟩⟩
              obtain ⟨x0, x1, hs0⟩ := HSC.out _ HMS.out
              clear hs0
              obtain ⟨m0, m1, m2, hm⟩ : ∃ m0 m1 m2, mapL (gt a n) (gt b n) = [m0, m1, m2] := ⟨_, _, _, rfl⟩
              have SM : Aside0 (∀ w : World, Calls Try.prog 32 #[.int .i64 (gt a n), .int .i64 (gt b n)] w fun e w' => e = .returned (.agg #[.int .i64 m0, .int .i64 m1, .int .i64 m2]) ∧ Below w.heap.size w w') := ⟨fun w => by have := iMapOf (gt a n) (gt b n) w; rw [hm] at this; exact this⟩
              have HM := Aside0.mk hm
              clear hm
              have HLN := Aside0.mk hlen
              have HLB := Aside0.mk hlenb
              clear hlen hlenb
              have hl0 : IntKind.i64.wrap (n : Int) = (n : Int) := IntWalk.i64_in _ (by omega)
              have hb5 : (n : Int) < ((n + 1 : Nat) : Int) := by omega
              have hb6 : (n : Int) < (n : Int) + 1 := by omega
              have hb7 : n < n + 1 := by omega
              go_wp2
              go_cut [15] (fun s wx => ∃ g : Nat, s = .pointer (some ⟨g, 0, none⟩) ∧ Aside0 (MS w7 wx ((g, mapL (gt a n) (gt b n)) :: [(g4, gl), (g3, f), (g1, L)])) ∧ Aside0 (w7.heap.size ≤ g))
              case first =>
                go_region_held3 (fun w' => w'.cell? ⟨ga, n, none⟩ = some (.int .i64 (gt a n)) ∧ w'.cell? ⟨gb, n, none⟩ = some (.int .i64 (gt b n)) ∧ MS w7 w' [(g4, gl), (g3, f), (g1, L)])
                  (((with_reducible refine HSC.out _ ?_); first | (with_reducible exact MS.drew HMS.out) | ((try go_split_ands); with_reducible exact MS.below (by assumption) hb) | ((try go_split_ands); with_reducible exact MS.alloc (by assumption) _) | ((try go_split_ands); with_reducible exact MS.set3 (by assumption) hz _ _ _) | ((try go_split_ands); with_reducible exact MS.set3 (MS.below (by assumption) hb) hz _ _ _) | ((try go_split_ands); with_reducible exact MS.alloc (MS.below (by assumption) hb) _) | (with_reducible exact MS.drew (MS.alloc HMS.out _))))
                  (first | (go_at_call 32; with_reducible refine (SM.out _).mono ?_; rintro e w8 ⟨rfl, hb⟩; (try go_split_ands); (try (have hz := MZ.below (MZ.drew (MZ.made HMS.out)) hb; obtain ⟨z0, z1, z2, y0, y1, y2⟩ := hz.cells))))
                all_goals (go_wp2_with fail; go_meet; (try go_split_ands); first | (have q := mway1 (MS.below (L := [(g4, gl), (g3, f), (g1, L)]) (by assumption) hb) m0 m1 m2; exact ⟨_, rfl, ⟨by rw [HM.out]; exact q⟩, ⟨(MS.below (L := [(g4, gl), (g3, f), (g1, L)]) (by assumption) hb).1.size⟩⟩) | (have q := mway2 (MS.below (L := [(g4, gl), (g3, f), (g1, L)]) (by assumption) hb) hz m0 m1 m2; exact ⟨_, rfl, ⟨by rw [HM.out]; exact q⟩, ⟨hz.2.1⟩⟩))
              case rest =>
                obtain ⟨g5, rfl, HMS2, HK5⟩ := hcut
                clear HMS x0 x1 HSC SM HM m0 m1 m2 hb5 hb6 hb7 hl0 hl1 hl2
                have HMS := HMS2
                clear HMS2
                obtain ⟨hl, hhl⟩ : ∃ hl, hl = mapL (gt a n) (gt b n) := ⟨_, rfl⟩
                rw [← hhl] at HMS
                have HHA := Aside0.mk (show hl.all isT = true by rw [hhl]; exact map_all _ _)
                have HH3 := Aside0.mk (show hl.length = 3 by rw [hhl]; rfl)
                clear hhl
                obtain ⟨fg, hfg⟩ : ∃ fg, fg = thenL f gl := ⟨_, rfl⟩
                obtain ⟨gh, hgh⟩ : ∃ gh, gh = thenL gl hl := ⟨_, rfl⟩
                obtain ⟨p, hp⟩ : ∃ p, p = thenL fg hl := ⟨_, rfl⟩
                have hp2 : p = thenL f gh := by rw [hp, hfg, hgh]; exact then_assoc f gl hl G3.out FA.out GA.out HHA.out
                have hfg3 : fg.length = 3 := by rw [hfg]; exact thenL_len f gl F3.out
                have hgh3 : gh.length = 3 := by rw [hgh]; exact thenL_len gl hl G3.out
                have hp3 : p.length = 3 := by rw [hp]; exact thenL_len fg hl hfg3
                have T1 : Aside0 (∀ w : World, Calls Try.prog 22 #[.agg (f.map (Value.int .i64)).toArray, .agg (gl.map (Value.int .i64)).toArray] w fun e w' => e = .returned (.agg (fg.map (Value.int .i64)).toArray) ∧ Below w.heap.size w w') := ⟨by rw [hfg]; exact iThenMap f gl F3.out G3.out⟩
                have T2 : Aside0 (∀ w : World, Calls Try.prog 22 #[.agg (fg.map (Value.int .i64)).toArray, .agg (hl.map (Value.int .i64)).toArray] w fun e w' => e = .returned (.agg (p.map (Value.int .i64)).toArray) ∧ Below w.heap.size w w') := ⟨by rw [hp]; exact iThenMap fg hl hfg3 HH3.out⟩
                have T3 : Aside0 (∀ w : World, Calls Try.prog 22 #[.agg (gl.map (Value.int .i64)).toArray, .agg (hl.map (Value.int .i64)).toArray] w fun e w' => e = .returned (.agg (gh.map (Value.int .i64)).toArray) ∧ Below w.heap.size w w') := ⟨by rw [hgh]; exact iThenMap gl hl G3.out HH3.out⟩
                have T4 : Aside0 (∀ w : World, Calls Try.prog 22 #[.agg (f.map (Value.int .i64)).toArray, .agg (gh.map (Value.int .i64)).toArray] w fun e w' => e = .returned (.agg (p.map (Value.int .i64)).toArray) ∧ Below w.heap.size w w') := ⟨by rw [hp2]; exact iThenMap f gh F3.out hgh3⟩
                have HGD := Aside0.mk (show Try.prog.eqGuardType Try.prog.depth 30 = false by kernel_rfl)
                have HQ : Aside0 (∀ w, (Op.equal 30 (.agg (p.map (Value.int .i64)).toArray) (.agg (p.map (Value.int .i64)).toArray)).run Try.prog w = .ok true w) := ⟨fun w => equal_same Try.underlying30 Try.underlying3 rfl (by kernel_rfl) p hp3⟩
                have I1 := Aside0.mk (show (Try.prog.info? 30).map (·.size) = some (f.map (Value.int .i64)).toArray.size by rw [info30]; simp [F3.out])
                have I2 := Aside0.mk (show (Try.prog.info? 30).map (·.size) = some (gl.map (Value.int .i64)).toArray.size by rw [info30]; simp [G3.out])
                have I3 := Aside0.mk (show (Try.prog.info? 30).map (·.size) = some (hl.map (Value.int .i64)).toArray.size by rw [info30]; simp [HH3.out])
                clear hfg hgh hp hp2 hfg3 hgh3 hp3
                obtain ⟨ι, hne, F, hF, hcl⟩ := classOf (fun w' => MS w7 w' [(g5, hl), (g4, gl), (g3, f), (g1, L)]) wc HMS.out
                have HF5 : Aside0 (∀ i, Blk (F i) g5 30 hl) := ⟨fun i => (hF i).2 (g5, hl) (by simp)⟩
                have HF4 : Aside0 (∀ i, Blk (F i) g4 30 gl) := ⟨fun i => (hF i).2 (g4, gl) (by simp)⟩
                have HF3 : Aside0 (∀ i, Blk (F i) g3 30 f) := ⟨fun i => (hF i).2 (g3, f) (by simp)⟩
                have HFB := Aside0.mk (fun i => below_step HB.out (hF i).1)
                have hce : ∀ i, (F i).cell? ⟨g1, (c + 1).toNat, none⟩ = some (.int .i64 (HU.cin a b c (n + 1))) := fun i => by
                  have := Blk.cell ((hF i).2 (g1, L) (by simp)) (c + 1).toNat (by simp only; rw [HL3.out]; omega)
                  simp only at this
                  rwa [HG.out, HLN.out] at this
                have HC : Aside0 (∀ i w', Below (F i).heap.size (F i) w' → ∃ k, w' = F k) := ⟨fun i w' hb => hcl w' ((hF i).below hb)⟩
                have HS : Aside0 (∃ i, wc.drew = F i) := ⟨hcl _ HMS.out.drew⟩
                clear hF hcl
                have hcp : 0 ≤ c + 1 := by omega
                have hcq : c + 1 < 3 := by omega
                have hwc : IntKind.i64.wrap (c + 1) = c + 1 := IntWalk.i64_in _ (by omega)
                go_wp2
                refine wp_region_class F (by kernel_rfl) (by kernel_rfl) HS.out ?_
                repeat (first | go_big_quiet_skip | (go_big_quiet_want; first | (refine quiet_load_row 30 _ rfl g3 rfl 30 f _ HF3.out Try.underlying30 rfl I1.out ?_; simp only [Act.put, List.setIfInBounds_toArray, List.set_cons_zero, List.set_cons_succ]; go_big_quiet_on) | (refine quiet_load_row 30 _ rfl g4 rfl 30 gl _ HF4.out Try.underlying30 rfl I2.out ?_; simp only [Act.put, List.setIfInBounds_toArray, List.set_cons_zero, List.set_cons_succ]; go_big_quiet_on) | (refine quiet_load_row 30 _ rfl g5 rfl 30 hl _ HF5.out Try.underlying30 rfl I3.out ?_; simp only [Act.put, List.setIfInBounds_toArray, List.set_cons_zero, List.set_cons_succ]; go_big_quiet_on) | (refine quiet_eql_same 30 _ _ _ rfl p rfl rfl HGD.out HQ.out ?_; simp only [Act.put, List.setIfInBounds_toArray, List.set_cons_zero, List.set_cons_succ]; go_big_quiet_on) | (go_big_quiet_op; first | go_big_quiet_on | go_big_quiet_call ((first | (go_at_call 22; with_reducible refine (T1.out _).mono ?_; rintro e w4 ⟨rfl, hb⟩; exact ⟨rfl, HC.out _ _ hb⟩) | (go_at_call 22; with_reducible refine (T2.out _).mono ?_; rintro e w4 ⟨rfl, hb⟩; exact ⟨rfl, HC.out _ _ hb⟩) | (go_at_call 22; with_reducible refine (T3.out _).mono ?_; rintro e w4 ⟨rfl, hb⟩; exact ⟨rfl, HC.out _ _ hb⟩) | (go_at_call 22; with_reducible refine (T4.out _).mono ?_; rintro e w4 ⟨rfl, hb⟩; exact ⟨rfl, HC.out _ _ hb⟩))))))
                refine wpQuiet_nil ?_
                rintro _ ⟨k, rfl⟩
                go_wp2
                go_ret
                exact ⟨rfl, HFB.out k⟩
theorem lawWalk (a0 : Option Addr) (len0 cap0 : Nat) (z0 : List Int) (w : World) (w0 : (a0 = none ∧ len0 = 0 ∧ cap0 = 0 ∧ z0 = []) ∨ ∃ x, a0 = some x ∧ len0 ≤ cap0 ∧ cap0 ≤ maxLen ∧ z0.length = cap0 ∧ (∀ i, i < z0.length → w.cell? (x.add i) = some (.int .u8 (z0.getD i 0))) ∧ ∀ n ∈ z0, (Lit.int .u8 n).wf = true) :
    Calls Try.prog 14 #[.slice a0 len0 cap0] w fun e w' => e = .returned (.bool true) ∧ Below w.heap.size w w' := by
  obtain ⟨l0, rfl, hr0, hm0, hw0, hc0⟩ := ReadsInt.ofRowC w0
  exact lawCore _ _ l0 w (Kd.C_of_reads (d := (0 : Int)) (h1 := fun _ => rfl) hr0) hc0 hw0
end Go.Proofs.Ytegknmpphbkgpaa.LFnMaps
