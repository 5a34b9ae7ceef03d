/- What the reference's IsMonotone answers. Nine numbers. -/
import Derived.Test.YtegknmpphbkgpaaProg
import Derived.Below
import Derived.WalkSpells
import Derived.Deep.Draws
import Derived.Deep.AppendLies
import Derived.Maps.AppendAt
import Derived.OwnWalk
import Derived.Laws.BytesArg
import Derived.Laws.MakeOwn
import Derived.Laws.OwnMore
import Derived.Deep.OwnRows
import Derived.Tactics
import Derived.Lib.ConvBytes
import Derived.Laws.Slices
import Derived.WalkKit
import Derived.KernelRfl
import Derived.RowKit3
import Derived.Deep.LoopGhost
import Derived.Deep.QuietTactic
import Derived.BigQuiet
import Derived.WideLaws
import Derived.Deep.DeepCutAuto
import Derived.Deep.CutBlock
import Derived.Deep.RegionHeld3
import Derived.Laws.Rows
import Derived.Lib.AppendStr
import Derived.ArgAppend
import Derived.Laws.IdiomCopy
import Derived.OrdersHeld
import Derived.Laws.BitsLemmas
import Derived.RowKit
import Derived.Test.YtegknmpphbkgpaaWWords
import Derived.Test.YtegknmpphbkgpaaWLast
import Derived.Test.YtegknmpphbkgpaaWTab
import Derived.Test.YtegknmpphbkgpaaWFour
import Derived.Test.YtegknmpphbkgpaaWQPut
import Derived.Test.YtegknmpphbkgpaaWApart
import Derived.Test.YtegknmpphbkgpaaWArr
import Derived.Test.YtegknmpphbkgpaaWZeros
import Derived.Test.YtegknmpphbkgpaaWFoot
import Derived.Test.YtegknmpphbkgpaaWKept
import Derived.Test.YtegknmpphbkgpaaWShare
import Derived.Test.YtegknmpphbkgpaaWN
import Derived.Test.YtegknmpphbkgpaaWFootNe
import Derived.Test.YtegknmpphbkgpaaWAt
import Derived.Test.YtegknmpphbkgpaaWEqStruct
import Derived.Test.YtegknmpphbkgpaaWRepsOne
import Derived.Test.YtegknmpphbkgpaaWInv
import Derived.Test.YtegknmpphbkgpaaWInvWords
import Derived.Test.YtegknmpphbkgpaaWGuard
import Derived.Test.YtegknmpphbkgpaaWNEv
import Derived.Test.YtegknmpphbkgpaaWMore
import Derived.Test.YtegknmpphbkgpaaHD
import Derived.Test.YtegknmpphbkgpaaHC
set_option linter.unusedVariables false
set_option linter.unusedSimpArgs false
namespace Go.Proofs.Ytegknmpphbkgpaa.HO
open Go.RowKit Go.Proofs.YtegknmpphbkgpaaW.PrintWords Go.Proofs.YtegknmpphbkgpaaW.PrintLast Go.Proofs.YtegknmpphbkgpaaW.PrintMore Go.Proofs.Ytegknmpphbkgpaa.HA Go.Proofs.Ytegknmpphbkgpaa.HC Go.Proofs.Ytegknmpphbkgpaa.HL Go.Proofs.Ytegknmpphbkgpaa.HK Go.Proofs.Ytegknmpphbkgpaa.HD Go.Proofs.Ytegknmpphbkgpaa.PFnExactMapOf
/-- A check of the reference. -/
def okI (l : List Int) (a b : Int) : Bool := !decide (lookL l a (b + 1) < lookL l a b) && !decide (lookL l (b + 1) a < lookL l b a)
/-- The checks of the reference, counted. -/
def okAt (l : List Int) (c : Nat) : Bool := okI l ((c : Int) / 2 - 1) ((c : Int) % 2 - 1)
/-- The checks of the program at the place k. -/
def goodAt (l : List Int) (k : Nat) : Bool := !(decide (3 ≤ k) && decide (gt l k < gt l (k - 3))) && !(decide (0 < k % 3) && decide (gt l k < gt l (k - 1)))
/-- What IsMonotone answers. -/
def monoL (l : List Int) : Bool := l.all isT && (List.range 9).all (goodAt l)
theorem okAt_all (l : List Int) (h : l.all isT = true) : (List.range 6).all (okAt l) = (List.range 9).all (goodAt l) := by
  have e : ∀ (a b : Int) (k : Nat), (isT a && isT b) = true → (3 * (a + 1) + b + 1).toNat = k → lookL l a b = gt l k := fun a b k h1 h2 => by
    unfold lookL
    rw [h, h1, h2]
    rfl
  have e00 : lookL l (-1) (-1) = gt l 0 := e (-1) (-1) 0 rfl rfl
  have e01 : lookL l (-1) (0) = gt l 1 := e (-1) (0) 1 rfl rfl
  have e02 : lookL l (-1) (1) = gt l 2 := e (-1) (1) 2 rfl rfl
  have e10 : lookL l (0) (-1) = gt l 3 := e (0) (-1) 3 rfl rfl
  have e11 : lookL l (0) (0) = gt l 4 := e (0) (0) 4 rfl rfl
  have e12 : lookL l (0) (1) = gt l 5 := e (0) (1) 5 rfl rfl
  have e20 : lookL l (1) (-1) = gt l 6 := e (1) (-1) 6 rfl rfl
  have e21 : lookL l (1) (0) = gt l 7 := e (1) (0) 7 rfl rfl
  have e22 : lookL l (1) (1) = gt l 8 := e (1) (1) 8 rfl rfl
  have o0 : okAt l 0 = (!decide (gt l 1 < gt l 0) && !decide (gt l 3 < gt l 0)) := by
    show okI l (-1) (-1) = _
    show (!decide (lookL l (-1) (0) < lookL l (-1) (-1)) && !decide (lookL l (0) (-1) < lookL l (-1) (-1))) = _
    simp only [e01, e00, e10, e00]
  have o1 : okAt l 1 = (!decide (gt l 2 < gt l 1) && !decide (gt l 6 < gt l 3)) := by
    show okI l (-1) (0) = _
    show (!decide (lookL l (-1) (1) < lookL l (-1) (0)) && !decide (lookL l (1) (-1) < lookL l (0) (-1))) = _
    simp only [e02, e01, e20, e10]
  have o2 : okAt l 2 = (!decide (gt l 4 < gt l 3) && !decide (gt l 4 < gt l 1)) := by
    show okI l (0) (-1) = _
    show (!decide (lookL l (0) (0) < lookL l (0) (-1)) && !decide (lookL l (0) (0) < lookL l (-1) (0))) = _
    simp only [e11, e10, e11, e01]
  have o3 : okAt l 3 = (!decide (gt l 5 < gt l 4) && !decide (gt l 7 < gt l 4)) := by
    show okI l (0) (0) = _
    show (!decide (lookL l (0) (1) < lookL l (0) (0)) && !decide (lookL l (1) (0) < lookL l (0) (0))) = _
    simp only [e12, e11, e21, e11]
  have o4 : okAt l 4 = (!decide (gt l 7 < gt l 6) && !decide (gt l 5 < gt l 2)) := by
    show okI l (1) (-1) = _
    show (!decide (lookL l (1) (0) < lookL l (1) (-1)) && !decide (lookL l (0) (1) < lookL l (-1) (1))) = _
    simp only [e21, e20, e12, e02]
  have o5 : okAt l 5 = (!decide (gt l 8 < gt l 7) && !decide (gt l 8 < gt l 5)) := by
    show okI l (1) (0) = _
    show (!decide (lookL l (1) (1) < lookL l (1) (0)) && !decide (lookL l (1) (1) < lookL l (0) (1))) = _
    simp only [e22, e21, e22, e12]
  show (okAt l 0 && (okAt l 1 && (okAt l 2 && (okAt l 3 && (okAt l 4 && (okAt l 5 && true)))))) = (goodAt l 0 && (goodAt l 1 && (goodAt l 2 && (goodAt l 3 && (goodAt l 4 && (goodAt l 5 && (goodAt l 6 && (goodAt l 7 && (goodAt l 8 && true)))))))))
  rw [o0, o1, o2, o3, o4, o5]
  clear o0 o1 o2 o3 o4 o5 e e00 e01 e02 e10 e11 e12 e20 e21 e22 h
  simp only [goodAt, Nat.reduceLeDiff, decide_true, decide_false, Nat.reduceMod, Nat.reduceSub, Nat.lt_irrefl, Nat.reduceLT, Nat.zero_mod, Bool.false_and, Bool.true_and, Bool.not_false, Bool.and_true]
  generalize gt l 0 = x0
  generalize gt l 1 = x1
  generalize gt l 2 = x2
  generalize gt l 3 = x3
  generalize gt l 4 = x4
  generalize gt l 5 = x5
  generalize gt l 6 = x6
  generalize gt l 7 = x7
  generalize gt l 8 = x8
  rw [Bool.eq_iff_iff]
  simp only [Bool.and_eq_true, Bool.not_eq_true', decide_eq_false_iff_not, decide_eq_true_eq]
  omega
theorem mono_no (l : List Int) (c : Nat) (hc : c < 6) (h : okAt l c = false) : monoL l = false := by
  unfold monoL
  cases ha : l.all isT with
  | false => rfl
  | true =>
    rw [← okAt_all l ha, Bool.true_and]
    exact Bool.eq_false_iff.mpr fun h2 => by
      have := List.all_eq_true.mp h2 c (List.mem_range.mpr hc)
      rw [h] at this
      cases this
theorem mono_yes (l : List Int) (h : ∀ c, c < 6 → okAt l c = true) : monoL l = l.all isT := by
  unfold monoL
  cases ha : l.all isT with
  | false => rfl
  | true =>
    rw [← okAt_all l ha, Bool.true_and]
    exact List.all_eq_true.mpr fun c hc => h c (List.mem_range.mp hc)
theorem good_no (l : List Int) (k : Nat) (hk : k < 9) (h : goodAt l k = false) : monoL l = false := by
  unfold monoL
  rw [Bool.and_eq_false_iff]
  right
  exact Bool.eq_false_iff.mpr fun h2 => by
    have := List.all_eq_true.mp h2 k (List.mem_range.mpr hk)
    rw [h] at this
    cases this
theorem good_yes (l : List Int) (ha : l.all isT = true) (h : ∀ k, k < 9 → goodAt l k = true) : monoL l = true := by
  unfold monoL
  rw [ha, Bool.true_and]
  exact List.all_eq_true.mpr fun c hc => h c (List.mem_range.mp hc)
theorem upto (p : Nat → Prop) (n : Nat) (h : ∀ c, c < n → p c) (hn : p n) : ∀ c, c < n + 1 → p c := fun c hc => by
  rcases Nat.lt_succ_iff_lt_or_eq.mp hc with h1 | rfl
  · exact h c h1
  · exact hn
set_option maxHeartbeats 2000000 in
theorem sMono (l : List Int) (hl : l.length = 9) (w : World) :
    Calls Try.prog 26 #[.agg (l.map (Value.int .i64)).toArray] w fun e w' => e = .returned (.bool (monoL l)) ∧ Below w.heap.size w w' := by
  have S1 := Aside0.mk (sLookUp l hl)
  have S0 := Aside0.mk (sIsTable l hl)
  have HIL := Aside0.mk (show (Try.prog.info? 24).map (·.size) = some (l.map (Value.int .i64)).toArray.size by rw [info24]; simp [hl])
  have HMN := Aside0.mk (mono_no l)
  have HMY := Aside0.mk (mono_yes l)
  obtain ⟨M, hM⟩ : ∃ M, M = monoL l := ⟨_, rfl⟩
  rw [← hM] at HMN HMY
  rw [← hM]
  clear hl hM
  go_enter Try.func26, Try.ntmps26
  go_wp2
  go_loopw [3, 4] (fun v3 v4 w' => ∃ j : Nat, j ≤ 3 ∧ v3 = .int .i64 ((j : Int) - 1) ∧ Aside0 (Blk w' w.heap.size 24 l) ∧ Aside0 (∀ c, c < 2 * j → okAt l c = true) ∧ Aside0 (Below w.heap.size w w')) (fun v3 _ _ => 3 - (intOf v3 + 1).toNat)
  case atStart => exact ⟨0, by omega, rfl, ⟨Blk.made w 24 l⟩, ⟨fun c hc => absurd hc (by omega)⟩, ⟨below_alloc (Below.refl _ _) _⟩⟩
  case round =>
    obtain ⟨j, hj, rfl, H1, HO, HB⟩ := hrel
    by_cases hlt : j < 3
    · go_wp2
      obtain ⟨wo, hwo⟩ : ∃ wo : World, wo = wr := ⟨_, rfl⟩
      go_loopw [4] (fun v4 w' => ∃ i : Nat, i ≤ 2 ∧ v4 = .int .i64 ((i : Int) - 1) ∧ Aside0 (Blk w' w.heap.size 24 l) ∧ Aside0 (∀ c, c < 2 * j + i → okAt l c = true) ∧ Aside0 (Below w.heap.size w w')) (fun v4 _ => 2 - (intOf v4 + 1).toNat)
      case atStart => exact ⟨0, by omega, rfl, H1, HO, HB⟩
      case round =>
        clear H1 HO HB hwo
        obtain ⟨i, hi, rfl, H1, HO, HB⟩ := hrel
        by_cases hit : i < 2
        · obtain ⟨ι, hne, F, hF, hcl⟩ := classOf (fun w' => Blk w' w.heap.size 24 l ∧ Below w.heap.size w w') wr ⟨H1.out, HB.out⟩
          have HF := Aside0.mk (fun i => (hF i).1)
          have HG := Aside0.mk (fun i => (hF i).2)
          have HC : Aside0 (∀ i w', Below (F i).heap.size (F i) w' → ∃ k, w' = F k) := ⟨fun i w' hb => hcl w' ⟨(hF i).1.below hb, below_step (hF i).2 hb⟩⟩
          have HS : Aside0 (∃ i, wr.drew = F i) := ⟨hcl _ ⟨H1.out.drewN 1, pw_below_drewN HB.out 1⟩⟩
          clear hF hcl
          rcases (show (j = 0 ∨ j = 1 ∨ j = 2) ∧ (i = 0 ∨ i = 1) by omega) with ⟨rfl | rfl | rfl, rfl | rfl⟩
          · by_cases c1 : lookL l (-1) (0) < lookL l (-1) (-1)
            · have HK : Aside0 (M = false) := ⟨HMN.out 0 (by omega) (by show (!decide (lookL l (-1) (0) < lookL l (-1) (-1)) && !decide (lookL l (0) (-1) < lookL l (-1) (-1))) = false; rw [decide_eq_true c1]; rfl)⟩
              clear HMN HMY
              go_wp2
              refine wp_region_class F (by kernel_rfl) (by kernel_rfl) HS.out ?_
              repeat (first | go_big_quiet_skip | (go_big_quiet_want; first | (refine quiet_load_row 24 _ rfl w.heap.size rfl 24 l _ HF.out Try.underlying24 rfl HIL.out ?_; simp only [Act.put, List.setIfInBounds_toArray, List.set_cons_zero, List.set_cons_succ]; go_big_quiet_on) | (go_big_quiet_op; first | go_big_quiet_on | go_big_quiet_call ((go_at_call 18; refine (S1.out _ _ _).mono ?_; rintro e w4 ⟨rfl, hb⟩; exact ⟨rfl, HC.out _ _ hb⟩)))))
              refine wpQuiet_nil ?_
              rintro _ ⟨k, rfl⟩
              go_wp2
              go_ret
              exact ⟨by rw [HK.out]; rfl, HG.out k⟩
            · have d1 : decide (lookL l (-1) (0) < lookL l (-1) (-1)) = false := decide_eq_false c1
              by_cases c2 : lookL l (0) (-1) < lookL l (-1) (-1)
              · have HK : Aside0 (M = false) := ⟨HMN.out 0 (by omega) (by show (!decide (lookL l (-1) (0) < lookL l (-1) (-1)) && !decide (lookL l (0) (-1) < lookL l (-1) (-1))) = false; rw [decide_eq_false c1, decide_eq_true c2]; rfl)⟩
                clear HMN HMY
                go_wp2
                refine wp_region_class F (by kernel_rfl) (by kernel_rfl) HS.out ?_
                repeat (first | go_big_quiet_skip | (go_big_quiet_want; first | (refine quiet_load_row 24 _ rfl w.heap.size rfl 24 l _ HF.out Try.underlying24 rfl HIL.out ?_; simp only [Act.put, List.setIfInBounds_toArray, List.set_cons_zero, List.set_cons_succ]; go_big_quiet_on) | (go_big_quiet_op; first | go_big_quiet_on | go_big_quiet_call ((go_at_call 18; refine (S1.out _ _ _).mono ?_; rintro e w4 ⟨rfl, hb⟩; exact ⟨rfl, HC.out _ _ hb⟩)))))
                refine wpQuiet_nil ?_
                rintro _ ⟨k, rfl⟩
                go_wp2
                go_ret
                exact ⟨by rw [HK.out]; rfl, HG.out k⟩
              · have d2 : decide (lookL l (0) (-1) < lookL l (-1) (-1)) = false := decide_eq_false c2
                have HK : Aside0 (okAt l 0 = true) := ⟨by show (!decide (lookL l (-1) (0) < lookL l (-1) (-1)) && !decide (lookL l (0) (-1) < lookL l (-1) (-1))) = true; rw [decide_eq_false c1, decide_eq_false c2]; rfl⟩
                clear HMN HMY
                go_wp2
                refine wp_region_class F (by kernel_rfl) (by kernel_rfl) HS.out ?_
                repeat (first | go_big_quiet_skip | (go_big_quiet_want; first | (refine quiet_load_row 24 _ rfl w.heap.size rfl 24 l _ HF.out Try.underlying24 rfl HIL.out ?_; simp only [Act.put, List.setIfInBounds_toArray, List.set_cons_zero, List.set_cons_succ]; go_big_quiet_on) | (go_big_quiet_op; first | go_big_quiet_on | go_big_quiet_call ((go_at_call 18; refine (S1.out _ _ _).mono ?_; rintro e w4 ⟨rfl, hb⟩; exact ⟨rfl, HC.out _ _ hb⟩)))))
                refine wpQuiet_nil ?_
                rintro _ ⟨k, rfl⟩
                go_wp2
                go_roundw
                case rel =>
                  (repeat apply Exists.intro)
                  exact ⟨⟨1, by omega, by go_num, ⟨HF.out k⟩, ⟨upto _ 0 HO.out HK.out⟩, ⟨HG.out k⟩⟩, rfl⟩
                case measure => simp [intOf]
          · by_cases c1 : lookL l (-1) (1) < lookL l (-1) (0)
            · have HK : Aside0 (M = false) := ⟨HMN.out 1 (by omega) (by show (!decide (lookL l (-1) (1) < lookL l (-1) (0)) && !decide (lookL l (1) (-1) < lookL l (0) (-1))) = false; rw [decide_eq_true c1]; rfl)⟩
              clear HMN HMY
              go_wp2
              refine wp_region_class F (by kernel_rfl) (by kernel_rfl) HS.out ?_
              repeat (first | go_big_quiet_skip | (go_big_quiet_want; first | (refine quiet_load_row 24 _ rfl w.heap.size rfl 24 l _ HF.out Try.underlying24 rfl HIL.out ?_; simp only [Act.put, List.setIfInBounds_toArray, List.set_cons_zero, List.set_cons_succ]; go_big_quiet_on) | (go_big_quiet_op; first | go_big_quiet_on | go_big_quiet_call ((go_at_call 18; refine (S1.out _ _ _).mono ?_; rintro e w4 ⟨rfl, hb⟩; exact ⟨rfl, HC.out _ _ hb⟩)))))
              refine wpQuiet_nil ?_
              rintro _ ⟨k, rfl⟩
              go_wp2
              go_ret
              exact ⟨by rw [HK.out]; rfl, HG.out k⟩
            · have d1 : decide (lookL l (-1) (1) < lookL l (-1) (0)) = false := decide_eq_false c1
              by_cases c2 : lookL l (1) (-1) < lookL l (0) (-1)
              · have HK : Aside0 (M = false) := ⟨HMN.out 1 (by omega) (by show (!decide (lookL l (-1) (1) < lookL l (-1) (0)) && !decide (lookL l (1) (-1) < lookL l (0) (-1))) = false; rw [decide_eq_false c1, decide_eq_true c2]; rfl)⟩
                clear HMN HMY
                go_wp2
                refine wp_region_class F (by kernel_rfl) (by kernel_rfl) HS.out ?_
                repeat (first | go_big_quiet_skip | (go_big_quiet_want; first | (refine quiet_load_row 24 _ rfl w.heap.size rfl 24 l _ HF.out Try.underlying24 rfl HIL.out ?_; simp only [Act.put, List.setIfInBounds_toArray, List.set_cons_zero, List.set_cons_succ]; go_big_quiet_on) | (go_big_quiet_op; first | go_big_quiet_on | go_big_quiet_call ((go_at_call 18; refine (S1.out _ _ _).mono ?_; rintro e w4 ⟨rfl, hb⟩; exact ⟨rfl, HC.out _ _ hb⟩)))))
                refine wpQuiet_nil ?_
                rintro _ ⟨k, rfl⟩
                go_wp2
                go_ret
                exact ⟨by rw [HK.out]; rfl, HG.out k⟩
              · have d2 : decide (lookL l (1) (-1) < lookL l (0) (-1)) = false := decide_eq_false c2
                have HK : Aside0 (okAt l 1 = true) := ⟨by show (!decide (lookL l (-1) (1) < lookL l (-1) (0)) && !decide (lookL l (1) (-1) < lookL l (0) (-1))) = true; rw [decide_eq_false c1, decide_eq_false c2]; rfl⟩
                clear HMN HMY
                go_wp2
                refine wp_region_class F (by kernel_rfl) (by kernel_rfl) HS.out ?_
                repeat (first | go_big_quiet_skip | (go_big_quiet_want; first | (refine quiet_load_row 24 _ rfl w.heap.size rfl 24 l _ HF.out Try.underlying24 rfl HIL.out ?_; simp only [Act.put, List.setIfInBounds_toArray, List.set_cons_zero, List.set_cons_succ]; go_big_quiet_on) | (go_big_quiet_op; first | go_big_quiet_on | go_big_quiet_call ((go_at_call 18; refine (S1.out _ _ _).mono ?_; rintro e w4 ⟨rfl, hb⟩; exact ⟨rfl, HC.out _ _ hb⟩)))))
                refine wpQuiet_nil ?_
                rintro _ ⟨k, rfl⟩
                go_wp2
                go_roundw
                case rel =>
                  (repeat apply Exists.intro)
                  exact ⟨⟨2, by omega, by go_num, ⟨HF.out k⟩, ⟨upto _ 1 HO.out HK.out⟩, ⟨HG.out k⟩⟩, rfl⟩
                case measure => simp [intOf]
          · by_cases c1 : lookL l (0) (0) < lookL l (0) (-1)
            · have HK : Aside0 (M = false) := ⟨HMN.out 2 (by omega) (by show (!decide (lookL l (0) (0) < lookL l (0) (-1)) && !decide (lookL l (0) (0) < lookL l (-1) (0))) = false; rw [decide_eq_true c1]; rfl)⟩
              clear HMN HMY
              go_wp2
              refine wp_region_class F (by kernel_rfl) (by kernel_rfl) HS.out ?_
              repeat (first | go_big_quiet_skip | (go_big_quiet_want; first | (refine quiet_load_row 24 _ rfl w.heap.size rfl 24 l _ HF.out Try.underlying24 rfl HIL.out ?_; simp only [Act.put, List.setIfInBounds_toArray, List.set_cons_zero, List.set_cons_succ]; go_big_quiet_on) | (go_big_quiet_op; first | go_big_quiet_on | go_big_quiet_call ((go_at_call 18; refine (S1.out _ _ _).mono ?_; rintro e w4 ⟨rfl, hb⟩; exact ⟨rfl, HC.out _ _ hb⟩)))))
              refine wpQuiet_nil ?_
              rintro _ ⟨k, rfl⟩
              go_wp2
              go_ret
              exact ⟨by rw [HK.out]; rfl, HG.out k⟩
            · have d1 : decide (lookL l (0) (0) < lookL l (0) (-1)) = false := decide_eq_false c1
              by_cases c2 : lookL l (0) (0) < lookL l (-1) (0)
              · have HK : Aside0 (M = false) := ⟨HMN.out 2 (by omega) (by show (!decide (lookL l (0) (0) < lookL l (0) (-1)) && !decide (lookL l (0) (0) < lookL l (-1) (0))) = false; rw [decide_eq_false c1, decide_eq_true c2]; rfl)⟩
                clear HMN HMY
                go_wp2
                refine wp_region_class F (by kernel_rfl) (by kernel_rfl) HS.out ?_
                repeat (first | go_big_quiet_skip | (go_big_quiet_want; first | (refine quiet_load_row 24 _ rfl w.heap.size rfl 24 l _ HF.out Try.underlying24 rfl HIL.out ?_; simp only [Act.put, List.setIfInBounds_toArray, List.set_cons_zero, List.set_cons_succ]; go_big_quiet_on) | (go_big_quiet_op; first | go_big_quiet_on | go_big_quiet_call ((go_at_call 18; refine (S1.out _ _ _).mono ?_; rintro e w4 ⟨rfl, hb⟩; exact ⟨rfl, HC.out _ _ hb⟩)))))
                refine wpQuiet_nil ?_
                rintro _ ⟨k, rfl⟩
                go_wp2
                go_ret
                exact ⟨by rw [HK.out]; rfl, HG.out k⟩
              · have d2 : decide (lookL l (0) (0) < lookL l (-1) (0)) = false := decide_eq_false c2
                have HK : Aside0 (okAt l 2 = true) := ⟨by show (!decide (lookL l (0) (0) < lookL l (0) (-1)) && !decide (lookL l (0) (0) < lookL l (-1) (0))) = true; rw [decide_eq_false c1, decide_eq_false c2]; rfl⟩
                clear HMN HMY
                go_wp2
                refine wp_region_class F (by kernel_rfl) (by kernel_rfl) HS.out ?_
                repeat (first | go_big_quiet_skip | (go_big_quiet_want; first | (refine quiet_load_row 24 _ rfl w.heap.size rfl 24 l _ HF.out Try.underlying24 rfl HIL.out ?_; simp only [Act.put, List.setIfInBounds_toArray, List.set_cons_zero, List.set_cons_succ]; go_big_quiet_on) | (go_big_quiet_op; first | go_big_quiet_on | go_big_quiet_call ((go_at_call 18; refine (S1.out _ _ _).mono ?_; rintro e w4 ⟨rfl, hb⟩; exact ⟨rfl, HC.out _ _ hb⟩)))))
                refine wpQuiet_nil ?_
                rintro _ ⟨k, rfl⟩
                go_wp2
                go_roundw
                case rel =>
                  (repeat apply Exists.intro)
                  exact ⟨⟨1, by omega, by go_num, ⟨HF.out k⟩, ⟨upto _ 2 HO.out HK.out⟩, ⟨HG.out k⟩⟩, rfl⟩
                case measure => simp [intOf]
          · by_cases c1 : lookL l (0) (1) < lookL l (0) (0)
            · have HK : Aside0 (M = false) := ⟨HMN.out 3 (by omega) (by show (!decide (lookL l (0) (1) < lookL l (0) (0)) && !decide (lookL l (1) (0) < lookL l (0) (0))) = false; rw [decide_eq_true c1]; rfl)⟩
              clear HMN HMY
              go_wp2
              refine wp_region_class F (by kernel_rfl) (by kernel_rfl) HS.out ?_
              repeat (first | go_big_quiet_skip | (go_big_quiet_want; first | (refine quiet_load_row 24 _ rfl w.heap.size rfl 24 l _ HF.out Try.underlying24 rfl HIL.out ?_; simp only [Act.put, List.setIfInBounds_toArray, List.set_cons_zero, List.set_cons_succ]; go_big_quiet_on) | (go_big_quiet_op; first | go_big_quiet_on | go_big_quiet_call ((go_at_call 18; refine (S1.out _ _ _).mono ?_; rintro e w4 ⟨rfl, hb⟩; exact ⟨rfl, HC.out _ _ hb⟩)))))
              refine wpQuiet_nil ?_
              rintro _ ⟨k, rfl⟩
              go_wp2
              go_ret
              exact ⟨by rw [HK.out]; rfl, HG.out k⟩
            · have d1 : decide (lookL l (0) (1) < lookL l (0) (0)) = false := decide_eq_false c1
              by_cases c2 : lookL l (1) (0) < lookL l (0) (0)
              · have HK : Aside0 (M = false) := ⟨HMN.out 3 (by omega) (by show (!decide (lookL l (0) (1) < lookL l (0) (0)) && !decide (lookL l (1) (0) < lookL l (0) (0))) = false; rw [decide_eq_false c1, decide_eq_true c2]; rfl)⟩
                clear HMN HMY
                go_wp2
                refine wp_region_class F (by kernel_rfl) (by kernel_rfl) HS.out ?_
                repeat (first | go_big_quiet_skip | (go_big_quiet_want; first | (refine quiet_load_row 24 _ rfl w.heap.size rfl 24 l _ HF.out Try.underlying24 rfl HIL.out ?_; simp only [Act.put, List.setIfInBounds_toArray, List.set_cons_zero, List.set_cons_succ]; go_big_quiet_on) | (go_big_quiet_op; first | go_big_quiet_on | go_big_quiet_call ((go_at_call 18; refine (S1.out _ _ _).mono ?_; rintro e w4 ⟨rfl, hb⟩; exact ⟨rfl, HC.out _ _ hb⟩)))))
                refine wpQuiet_nil ?_
                rintro _ ⟨k, rfl⟩
                go_wp2
                go_ret
                exact ⟨by rw [HK.out]; rfl, HG.out k⟩
              · have d2 : decide (lookL l (1) (0) < lookL l (0) (0)) = false := decide_eq_false c2
                have HK : Aside0 (okAt l 3 = true) := ⟨by show (!decide (lookL l (0) (1) < lookL l (0) (0)) && !decide (lookL l (1) (0) < lookL l (0) (0))) = true; rw [decide_eq_false c1, decide_eq_false c2]; rfl⟩
                clear HMN HMY
                go_wp2
                refine wp_region_class F (by kernel_rfl) (by kernel_rfl) HS.out ?_
                repeat (first | go_big_quiet_skip | (go_big_quiet_want; first | (refine quiet_load_row 24 _ rfl w.heap.size rfl 24 l _ HF.out Try.underlying24 rfl HIL.out ?_; simp only [Act.put, List.setIfInBounds_toArray, List.set_cons_zero, List.set_cons_succ]; go_big_quiet_on) | (go_big_quiet_op; first | go_big_quiet_on | go_big_quiet_call ((go_at_call 18; refine (S1.out _ _ _).mono ?_; rintro e w4 ⟨rfl, hb⟩; exact ⟨rfl, HC.out _ _ hb⟩)))))
                refine wpQuiet_nil ?_
                rintro _ ⟨k, rfl⟩
                go_wp2
                go_roundw
                case rel =>
                  (repeat apply Exists.intro)
                  exact ⟨⟨2, by omega, by go_num, ⟨HF.out k⟩, ⟨upto _ 3 HO.out HK.out⟩, ⟨HG.out k⟩⟩, rfl⟩
                case measure => simp [intOf]
          · by_cases c1 : lookL l (1) (0) < lookL l (1) (-1)
            · have HK : Aside0 (M = false) := ⟨HMN.out 4 (by omega) (by show (!decide (lookL l (1) (0) < lookL l (1) (-1)) && !decide (lookL l (0) (1) < lookL l (-1) (1))) = false; rw [decide_eq_true c1]; rfl)⟩
              clear HMN HMY
              go_wp2
              refine wp_region_class F (by kernel_rfl) (by kernel_rfl) HS.out ?_
              repeat (first | go_big_quiet_skip | (go_big_quiet_want; first | (refine quiet_load_row 24 _ rfl w.heap.size rfl 24 l _ HF.out Try.underlying24 rfl HIL.out ?_; simp only [Act.put, List.setIfInBounds_toArray, List.set_cons_zero, List.set_cons_succ]; go_big_quiet_on) | (go_big_quiet_op; first | go_big_quiet_on | go_big_quiet_call ((go_at_call 18; refine (S1.out _ _ _).mono ?_; rintro e w4 ⟨rfl, hb⟩; exact ⟨rfl, HC.out _ _ hb⟩)))))
              refine wpQuiet_nil ?_
              rintro _ ⟨k, rfl⟩
              go_wp2
              go_ret
              exact ⟨by rw [HK.out]; rfl, HG.out k⟩
            · have d1 : decide (lookL l (1) (0) < lookL l (1) (-1)) = false := decide_eq_false c1
              by_cases c2 : lookL l (0) (1) < lookL l (-1) (1)
              · have HK : Aside0 (M = false) := ⟨HMN.out 4 (by omega) (by show (!decide (lookL l (1) (0) < lookL l (1) (-1)) && !decide (lookL l (0) (1) < lookL l (-1) (1))) = false; rw [decide_eq_false c1, decide_eq_true c2]; rfl)⟩
                clear HMN HMY
                go_wp2
                refine wp_region_class F (by kernel_rfl) (by kernel_rfl) HS.out ?_
                repeat (first | go_big_quiet_skip | (go_big_quiet_want; first | (refine quiet_load_row 24 _ rfl w.heap.size rfl 24 l _ HF.out Try.underlying24 rfl HIL.out ?_; simp only [Act.put, List.setIfInBounds_toArray, List.set_cons_zero, List.set_cons_succ]; go_big_quiet_on) | (go_big_quiet_op; first | go_big_quiet_on | go_big_quiet_call ((go_at_call 18; refine (S1.out _ _ _).mono ?_; rintro e w4 ⟨rfl, hb⟩; exact ⟨rfl, HC.out _ _ hb⟩)))))
                refine wpQuiet_nil ?_
                rintro _ ⟨k, rfl⟩
                go_wp2
                go_ret
                exact ⟨by rw [HK.out]; rfl, HG.out k⟩
              · have d2 : decide (lookL l (0) (1) < lookL l (-1) (1)) = false := decide_eq_false c2
                have HK : Aside0 (okAt l 4 = true) := ⟨by show (!decide (lookL l (1) (0) < lookL l (1) (-1)) && !decide (lookL l (0) (1) < lookL l (-1) (1))) = true; rw [decide_eq_false c1, decide_eq_false c2]; rfl⟩
                clear HMN HMY
                go_wp2
                refine wp_region_class F (by kernel_rfl) (by kernel_rfl) HS.out ?_
                repeat (first | go_big_quiet_skip | (go_big_quiet_want; first | (refine quiet_load_row 24 _ rfl w.heap.size rfl 24 l _ HF.out Try.underlying24 rfl HIL.out ?_; simp only [Act.put, List.setIfInBounds_toArray, List.set_cons_zero, List.set_cons_succ]; go_big_quiet_on) | (go_big_quiet_op; first | go_big_quiet_on | go_big_quiet_call ((go_at_call 18; refine (S1.out _ _ _).mono ?_; rintro e w4 ⟨rfl, hb⟩; exact ⟨rfl, HC.out _ _ hb⟩)))))
                refine wpQuiet_nil ?_
                rintro _ ⟨k, rfl⟩
                go_wp2
                go_roundw
                case rel =>
                  (repeat apply Exists.intro)
                  exact ⟨⟨1, by omega, by go_num, ⟨HF.out k⟩, ⟨upto _ 4 HO.out HK.out⟩, ⟨HG.out k⟩⟩, rfl⟩
                case measure => simp [intOf]
          · by_cases c1 : lookL l (1) (1) < lookL l (1) (0)
            · have HK : Aside0 (M = false) := ⟨HMN.out 5 (by omega) (by show (!decide (lookL l (1) (1) < lookL l (1) (0)) && !decide (lookL l (1) (1) < lookL l (0) (1))) = false; rw [decide_eq_true c1]; rfl)⟩
              clear HMN HMY
              go_wp2
              refine wp_region_class F (by kernel_rfl) (by kernel_rfl) HS.out ?_
              repeat (first | go_big_quiet_skip | (go_big_quiet_want; first | (refine quiet_load_row 24 _ rfl w.heap.size rfl 24 l _ HF.out Try.underlying24 rfl HIL.out ?_; simp only [Act.put, List.setIfInBounds_toArray, List.set_cons_zero, List.set_cons_succ]; go_big_quiet_on) | (go_big_quiet_op; first | go_big_quiet_on | go_big_quiet_call ((go_at_call 18; refine (S1.out _ _ _).mono ?_; rintro e w4 ⟨rfl, hb⟩; exact ⟨rfl, HC.out _ _ hb⟩)))))
              refine wpQuiet_nil ?_
              rintro _ ⟨k, rfl⟩
              go_wp2
              go_ret
              exact ⟨by rw [HK.out]; rfl, HG.out k⟩
            · have d1 : decide (lookL l (1) (1) < lookL l (1) (0)) = false := decide_eq_false c1
              by_cases c2 : lookL l (1) (1) < lookL l (0) (1)
              · have HK : Aside0 (M = false) := ⟨HMN.out 5 (by omega) (by show (!decide (lookL l (1) (1) < lookL l (1) (0)) && !decide (lookL l (1) (1) < lookL l (0) (1))) = false; rw [decide_eq_false c1, decide_eq_true c2]; rfl)⟩
                clear HMN HMY
                go_wp2
                refine wp_region_class F (by kernel_rfl) (by kernel_rfl) HS.out ?_
                repeat (first | go_big_quiet_skip | (go_big_quiet_want; first | (refine quiet_load_row 24 _ rfl w.heap.size rfl 24 l _ HF.out Try.underlying24 rfl HIL.out ?_; simp only [Act.put, List.setIfInBounds_toArray, List.set_cons_zero, List.set_cons_succ]; go_big_quiet_on) | (go_big_quiet_op; first | go_big_quiet_on | go_big_quiet_call ((go_at_call 18; refine (S1.out _ _ _).mono ?_; rintro e w4 ⟨rfl, hb⟩; exact ⟨rfl, HC.out _ _ hb⟩)))))
                refine wpQuiet_nil ?_
                rintro _ ⟨k, rfl⟩
                go_wp2
                go_ret
                exact ⟨by rw [HK.out]; rfl, HG.out k⟩
              · have d2 : decide (lookL l (1) (1) < lookL l (0) (1)) = false := decide_eq_false c2
                have HK : Aside0 (okAt l 5 = true) := ⟨by show (!decide (lookL l (1) (1) < lookL l (1) (0)) && !decide (lookL l (1) (1) < lookL l (0) (1))) = true; rw [decide_eq_false c1, decide_eq_false c2]; rfl⟩
                clear HMN HMY
                go_wp2
                refine wp_region_class F (by kernel_rfl) (by kernel_rfl) HS.out ?_
                repeat (first | go_big_quiet_skip | (go_big_quiet_want; first | (refine quiet_load_row 24 _ rfl w.heap.size rfl 24 l _ HF.out Try.underlying24 rfl HIL.out ?_; simp only [Act.put, List.setIfInBounds_toArray, List.set_cons_zero, List.set_cons_succ]; go_big_quiet_on) | (go_big_quiet_op; first | go_big_quiet_on | go_big_quiet_call ((go_at_call 18; refine (S1.out _ _ _).mono ?_; rintro e w4 ⟨rfl, hb⟩; exact ⟨rfl, HC.out _ _ hb⟩)))))
                refine wpQuiet_nil ?_
                rintro _ ⟨k, rfl⟩
                go_wp2
                go_roundw
                case rel =>
                  (repeat apply Exists.intro)
                  exact ⟨⟨2, by omega, by go_num, ⟨HF.out k⟩, ⟨upto _ 5 HO.out HK.out⟩, ⟨HG.out k⟩⟩, rfl⟩
                case measure => simp [intOf]
        · have hi3 : i = 2 := by omega
          subst hi3
          go_wp2
          go_roundw
          case rel => exact ⟨j + 1, by omega, by go_num, ⟨H1.out⟩, ⟨HO.out⟩, ⟨HB.out⟩⟩
          case measure => simp [intOf]; omega
    · have hjn : j = 3 := by omega
      subst hjn
      have HK := Aside0.mk (HMY.out HO.out)
      clear HMN HMY HO
      go_wp2_with (first | refine wpList_load_row rfl 24 _ rfl w.heap.size rfl 24 (l.map (Value.int .i64)).toArray (0, 0) _ H1.out Try.underlying24 rfl HIL.out ?_ | (go_at_call 15; refine (S0.out _).mono ?_; rintro e w4 ⟨rfl, hb⟩; have n4 := Aside0.mk (below_step HB.out hb); clear hb))
      go_ret
      exact ⟨by rw [HK.out]; rfl, n4.out⟩
end Go.Proofs.Ytegknmpphbkgpaa.HO
