-- Written by a program of this session (wip/patch_print.py, wip/hand_fns.py).
import Derived.Test.YtaieeaniadgjiaaQFnTritsx0
import Derived.Test.YtaieeaniadgjiaaQFnTritsx1
namespace Go.Proofs.Ytaieeaniadgjiaa.QFnTrits
open Go.RowKit Go.Proofs.YtaieeaniadgjiaaW.PrintWords Go.Proofs.YtaieeaniadgjiaaW.PrintLast Go.Proofs.YtaieeaniadgjiaaW.PrintMore
attribute [local go_sem] max2_int min2_int max_two min_two max_three min_three max_four min_four   -- for this text's walks alone
set_option linter.unusedVariables false
set_option linter.unusedSimpArgs false

/-! ### laws_FnTrits: function 3 -/
mutual
def laws_FnTrits.l0 : Nat → List Int → List Int → Int → Int → Option (Bool)
  | 0, _, _, _, _ => none
  | k + 1, x0, x18, x19, x20 => if x20 < x19 then (if 0 ≤ x20 then (if x20 < (x18.length : Int) then ((impl_NotTrit.f (rd x18 x20)).bind fun t147 => ((impl_NotTrit.f t147).bind fun t148 => (if t148 = (rd x18 x20) then ((impl_TurnTrit.f (rd x18 x20)).bind fun t149 => ((impl_TurnTrit.f t149).bind fun t150 => ((impl_TurnTrit.f t150).bind fun t151 => (if t151 = (rd x18 x20) then ((impl_TurnTrit.f (rd x18 x20)).bind fun t152 => (laws_FnTrits.j1 k x0 (rd x18 x20) x18 x19 x20 (t152 == (rd x18 x20)))) else (laws_FnTrits.j1 k x0 (rd x18 x20) x18 x19 x20 true))))) else (laws_FnTrits.j1 k x0 (rd x18 x20) x18 x19 x20 true)))) else (none)) else (none)) else (some (decide ((x0.length : Int) ≥ 0)))
def laws_FnTrits.j1 : Nat → List Int → Int → List Int → Int → Int → Bool → Option (Bool)
  | 0, _, _, _, _, _, _ => none
  | k + 1, x0, x4, x18, x19, x20, x42 => if x42 = true then (some false) else ((laws_trits.f).bind fun t153 => (laws_FnTrits.l1 k x0 x4 x18 x19 x20 t153 (t153.length : Int) 0))
def laws_FnTrits.l1 : Nat → List Int → Int → List Int → Int → Int → List Int → Int → Int → Option (Bool)
  | 0, _, _, _, _, _, _, _, _ => none
  | k + 1, x0, x4, x18, x19, x20, x43, x44, x45 => if x45 < x44 then (if 0 ≤ x45 then (if x45 < (x43.length : Int) then ((impl_HalfAdd.f k x4 (rd x43 x45)).bind fun bt157 => ((impl_MinTrits.f k x4 (rd x43 x45)).bind fun t159 => ((impl_NotTrit.f t159).bind fun t160 => ((impl_NotTrit.f x4).bind fun t161 => ((impl_NotTrit.f (rd x43 x45)).bind fun t162 => ((impl_MaxTrits.f k t161 t162).bind fun t163 => (if t160 = t163 then (if (wrap64 (bt157.1 + (wrap64 (3 * bt157.2)))) = (wrap64 (x4 + (rd x43 x45))) then ((impl_AgreeTrits.f k x4 (rd x43 x45)).bind fun t164 => ((impl_AgreeTrits.f k (wrap64 (-x4)) (wrap64 (-(rd x43 x45)))).bind fun t165 => ((impl_NotTrit.f t165).bind fun t166 => (if t164 = t166 then ((impl_AnyTrits.f k x4 (rd x43 x45)).bind fun t167 => ((impl_SignOf.f (wrap64 (x4 + (rd x43 x45)))).bind fun t168 => (if t167 = t168 then ((impl_TimesTrits.f k x4 (rd x43 x45)).bind fun t169 => (laws_FnTrits.j3 k x0 x4 (rd x43 x45) x18 x19 x20 x43 x44 x45 (t169 != (wrap64 (x4 * (rd x43 x45)))))) else (laws_FnTrits.j3 k x0 x4 (rd x43 x45) x18 x19 x20 x43 x44 x45 true)))) else (laws_FnTrits.j3 k x0 x4 (rd x43 x45) x18 x19 x20 x43 x44 x45 true))))) else (laws_FnTrits.j3 k x0 x4 (rd x43 x45) x18 x19 x20 x43 x44 x45 true)) else (laws_FnTrits.j3 k x0 x4 (rd x43 x45) x18 x19 x20 x43 x44 x45 true)))))))) else (none)) else (none)) else (laws_FnTrits.l0 k x0 x18 x19 (wrap64 (x20 + 1)))
def laws_FnTrits.j3 : Nat → List Int → Int → Int → List Int → Int → Int → List Int → Int → Int → Bool → Option (Bool)
  | 0, _, _, _, _, _, _, _, _, _, _ => none
  | k + 1, x0, x4, x6, x18, x19, x20, x43, x44, x45, x105 => if x105 = true then (some false) else ((laws_trits.f).bind fun t170 => (laws_FnTrits.l2 k x0 x4 x6 x18 x19 x20 x43 x44 x45 t170 (t170.length : Int) 0))
def laws_FnTrits.l2 : Nat → List Int → Int → Int → List Int → Int → Int → List Int → Int → Int → List Int → Int → Int → Option (Bool)
  | 0, _, _, _, _, _, _, _, _, _, _, _, _ => none
  | k + 1, x0, x4, x6, x18, x19, x20, x43, x44, x45, x106, x107, x108 => if x108 < x107 then (if 0 ≤ x108 then (if x108 < (x106.length : Int) then ((impl_FullAdd.f k x4 x6 (rd x106 x108)).bind fun bt174 => ((impl_FullAdd.f k (rd x106 x108) x4 x6).bind fun bt176 => (if (wrap64 (bt174.1 + (wrap64 (3 * bt174.2)))) = (wrap64 ((wrap64 (x4 + x6)) + (rd x106 x108))) then ((impl_IsTrit.f bt174.1).bind fun t178 => (if t178 = true then ((impl_IsTrit.f bt174.2).bind fun t179 => (if t179 = true then (if bt176.1 = bt174.1 then (if bt176.2 = bt174.2 then ((impl_MaxTrits.f k x6 (rd x106 x108)).bind fun t180 => ((impl_MinTrits.f k x4 t180).bind fun t181 => ((impl_MinTrits.f k x4 x6).bind fun t182 => ((impl_MinTrits.f k x4 (rd x106 x108)).bind fun t183 => ((impl_MaxTrits.f k t182 t183).bind fun t184 => (if t181 = t184 then (laws_FnTrits.l2 k x0 x4 x6 x18 x19 x20 x43 x44 x45 x106 x107 (wrap64 (x108 + 1))) else (some false))))))) else (some false)) else (some false)) else (some false))) else (some false))) else (some false)))) else (none)) else (none)) else (laws_FnTrits.l1 k x0 x4 x18 x19 x20 x43 x44 (wrap64 (x45 + 1)))
end
def laws_FnTrits.f (k : Nat) (l0 : List Int) : Option (Bool) := if (l0.length : Int) > 1048576 then (some true) else ((laws_trits.f).bind fun t143 => (laws_FnTrits.l0 k l0 t143 (t143.length : Int) 0))
theorem laws_FnTrits.mono_l : ∀ k, (∀ y0 y1 y2 y3, LeO (laws_FnTrits.l0 k y0 y1 y2 y3) (laws_FnTrits.l0 (k + 1) y0 y1 y2 y3)) ∧ (∀ y0 y1 y2 y3 y4 y5, LeO (laws_FnTrits.j1 k y0 y1 y2 y3 y4 y5) (laws_FnTrits.j1 (k + 1) y0 y1 y2 y3 y4 y5)) ∧ (∀ y0 y1 y2 y3 y4 y5 y6 y7, LeO (laws_FnTrits.l1 k y0 y1 y2 y3 y4 y5 y6 y7) (laws_FnTrits.l1 (k + 1) y0 y1 y2 y3 y4 y5 y6 y7)) ∧ (∀ y0 y1 y2 y3 y4 y5 y6 y7 y8 y9, LeO (laws_FnTrits.j3 k y0 y1 y2 y3 y4 y5 y6 y7 y8 y9) (laws_FnTrits.j3 (k + 1) y0 y1 y2 y3 y4 y5 y6 y7 y8 y9)) ∧ (∀ y0 y1 y2 y3 y4 y5 y6 y7 y8 y9 y10 y11, LeO (laws_FnTrits.l2 k y0 y1 y2 y3 y4 y5 y6 y7 y8 y9 y10 y11) (laws_FnTrits.l2 (k + 1) y0 y1 y2 y3 y4 y5 y6 y7 y8 y9 y10 y11))
  | 0 => ⟨fun _ _ _ _ r h => by simp [laws_FnTrits.l0] at h, fun _ _ _ _ _ _ r h => by simp [laws_FnTrits.j1] at h, fun _ _ _ _ _ _ _ _ r h => by simp [laws_FnTrits.l1] at h, fun _ _ _ _ _ _ _ _ _ _ r h => by simp [laws_FnTrits.j3] at h, fun _ _ _ _ _ _ _ _ _ _ _ _ r h => by simp [laws_FnTrits.l2] at h⟩
  | k + 1 => by
    obtain ⟨ih0, ih1, ih2, ih3, ih4⟩ := laws_FnTrits.mono_l k
    refine ⟨?_, ?_, ?_, ?_, ?_⟩
    · intro y0 y1 y2 y3
      unfold laws_FnTrits.l0
      repeat' first
      | (with_reducible exact ih0 _ _ _ _)
      | (with_reducible exact ih1 _ _ _ _ _ _)
      | (with_reducible exact ih2 _ _ _ _ _ _ _ _)
      | (with_reducible exact ih3 _ _ _ _ _ _ _ _ _ _)
      | (with_reducible exact ih4 _ _ _ _ _ _ _ _ _ _ _ _)
      | (with_reducible exact impl_AgreeTrits.mono _ _ _)
      | (with_reducible exact impl_AnyTrits.mono _ _ _)
      | (with_reducible exact impl_FullAdd.mono _ _ _ _)
      | (with_reducible exact impl_HalfAdd.mono _ _ _)
      | (with_reducible exact impl_MaxTrits.mono _ _ _)
      | (with_reducible exact impl_MinTrits.mono _ _ _)
      | (with_reducible exact impl_TimesTrits.mono _ _ _)
      | (with_reducible exact LeO.refl _)
      | (with_reducible exact LeO.none _)
      | (with_reducible refine LeO.ite ?_ ?_)
      | (with_reducible refine LeO.bind ?_ (fun _ => ?_))
      | exact ih0 _ _ _ _
      | exact ih1 _ _ _ _ _ _
      | exact ih2 _ _ _ _ _ _ _ _
      | exact ih3 _ _ _ _ _ _ _ _ _ _
      | exact ih4 _ _ _ _ _ _ _ _ _ _ _ _
      | exact impl_AgreeTrits.mono _ _ _
      | exact impl_AnyTrits.mono _ _ _
      | exact impl_FullAdd.mono _ _ _ _
      | exact impl_HalfAdd.mono _ _ _
      | exact impl_MaxTrits.mono _ _ _
      | exact impl_MinTrits.mono _ _ _
      | exact impl_TimesTrits.mono _ _ _
      | exact LeO.none _
      | refine LeO.ite ?_ ?_
      | refine LeO.bind ?_ (fun _ => ?_)
    · intro y0 y1 y2 y3 y4 y5
      unfold laws_FnTrits.j1
      repeat' first
      | (with_reducible exact ih0 _ _ _ _)
      | (with_reducible exact ih1 _ _ _ _ _ _)
      | (with_reducible exact ih2 _ _ _ _ _ _ _ _)
      | (with_reducible exact ih3 _ _ _ _ _ _ _ _ _ _)
      | (with_reducible exact ih4 _ _ _ _ _ _ _ _ _ _ _ _)
      | (with_reducible exact impl_AgreeTrits.mono _ _ _)
      | (with_reducible exact impl_AnyTrits.mono _ _ _)
      | (with_reducible exact impl_FullAdd.mono _ _ _ _)
      | (with_reducible exact impl_HalfAdd.mono _ _ _)
      | (with_reducible exact impl_MaxTrits.mono _ _ _)
      | (with_reducible exact impl_MinTrits.mono _ _ _)
      | (with_reducible exact impl_TimesTrits.mono _ _ _)
      | (with_reducible exact LeO.refl _)
      | (with_reducible exact LeO.none _)
      | (with_reducible refine LeO.ite ?_ ?_)
      | (with_reducible refine LeO.bind ?_ (fun _ => ?_))
      | exact ih0 _ _ _ _
      | exact ih1 _ _ _ _ _ _
      | exact ih2 _ _ _ _ _ _ _ _
      | exact ih3 _ _ _ _ _ _ _ _ _ _
      | exact ih4 _ _ _ _ _ _ _ _ _ _ _ _
      | exact impl_AgreeTrits.mono _ _ _
      | exact impl_AnyTrits.mono _ _ _
      | exact impl_FullAdd.mono _ _ _ _
      | exact impl_HalfAdd.mono _ _ _
      | exact impl_MaxTrits.mono _ _ _
      | exact impl_MinTrits.mono _ _ _
      | exact impl_TimesTrits.mono _ _ _
      | exact LeO.none _
      | refine LeO.ite ?_ ?_
      | refine LeO.bind ?_ (fun _ => ?_)
    · intro y0 y1 y2 y3 y4 y5 y6 y7
      unfold laws_FnTrits.l1
      repeat' first
      | (with_reducible exact ih0 _ _ _ _)
      | (with_reducible exact ih1 _ _ _ _ _ _)
      | (with_reducible exact ih2 _ _ _ _ _ _ _ _)
      | (with_reducible exact ih3 _ _ _ _ _ _ _ _ _ _)
      | (with_reducible exact ih4 _ _ _ _ _ _ _ _ _ _ _ _)
      | (with_reducible exact impl_AgreeTrits.mono _ _ _)
      | (with_reducible exact impl_AnyTrits.mono _ _ _)
      | (with_reducible exact impl_FullAdd.mono _ _ _ _)
      | (with_reducible exact impl_HalfAdd.mono _ _ _)
      | (with_reducible exact impl_MaxTrits.mono _ _ _)
      | (with_reducible exact impl_MinTrits.mono _ _ _)
      | (with_reducible exact impl_TimesTrits.mono _ _ _)
      | (with_reducible exact LeO.refl _)
      | (with_reducible exact LeO.none _)
      | (with_reducible refine LeO.ite ?_ ?_)
      | (with_reducible refine LeO.bind ?_ (fun _ => ?_))
      | exact ih0 _ _ _ _
      | exact ih1 _ _ _ _ _ _
      | exact ih2 _ _ _ _ _ _ _ _
      | exact ih3 _ _ _ _ _ _ _ _ _ _
      | exact ih4 _ _ _ _ _ _ _ _ _ _ _ _
      | exact impl_AgreeTrits.mono _ _ _
      | exact impl_AnyTrits.mono _ _ _
      | exact impl_FullAdd.mono _ _ _ _
      | exact impl_HalfAdd.mono _ _ _
      | exact impl_MaxTrits.mono _ _ _
      | exact impl_MinTrits.mono _ _ _
      | exact impl_TimesTrits.mono _ _ _
      | exact LeO.none _
      | refine LeO.ite ?_ ?_
      | refine LeO.bind ?_ (fun _ => ?_)
    · intro y0 y1 y2 y3 y4 y5 y6 y7 y8 y9
      unfold laws_FnTrits.j3
      repeat' first
      | (with_reducible exact ih0 _ _ _ _)
      | (with_reducible exact ih1 _ _ _ _ _ _)
      | (with_reducible exact ih2 _ _ _ _ _ _ _ _)
      | (with_reducible exact ih3 _ _ _ _ _ _ _ _ _ _)
      | (with_reducible exact ih4 _ _ _ _ _ _ _ _ _ _ _ _)
      | (with_reducible exact impl_AgreeTrits.mono _ _ _)
      | (with_reducible exact impl_AnyTrits.mono _ _ _)
      | (with_reducible exact impl_FullAdd.mono _ _ _ _)
      | (with_reducible exact impl_HalfAdd.mono _ _ _)
      | (with_reducible exact impl_MaxTrits.mono _ _ _)
      | (with_reducible exact impl_MinTrits.mono _ _ _)
      | (with_reducible exact impl_TimesTrits.mono _ _ _)
      | (with_reducible exact LeO.refl _)
      | (with_reducible exact LeO.none _)
      | (with_reducible refine LeO.ite ?_ ?_)
      | (with_reducible refine LeO.bind ?_ (fun _ => ?_))
      | exact ih0 _ _ _ _
      | exact ih1 _ _ _ _ _ _
      | exact ih2 _ _ _ _ _ _ _ _
      | exact ih3 _ _ _ _ _ _ _ _ _ _
      | exact ih4 _ _ _ _ _ _ _ _ _ _ _ _
      | exact impl_AgreeTrits.mono _ _ _
      | exact impl_AnyTrits.mono _ _ _
      | exact impl_FullAdd.mono _ _ _ _
      | exact impl_HalfAdd.mono _ _ _
      | exact impl_MaxTrits.mono _ _ _
      | exact impl_MinTrits.mono _ _ _
      | exact impl_TimesTrits.mono _ _ _
      | exact LeO.none _
      | refine LeO.ite ?_ ?_
      | refine LeO.bind ?_ (fun _ => ?_)
    · intro y0 y1 y2 y3 y4 y5 y6 y7 y8 y9 y10 y11
      unfold laws_FnTrits.l2
      repeat' first
      | (with_reducible exact ih0 _ _ _ _)
      | (with_reducible exact ih1 _ _ _ _ _ _)
      | (with_reducible exact ih2 _ _ _ _ _ _ _ _)
      | (with_reducible exact ih3 _ _ _ _ _ _ _ _ _ _)
      | (with_reducible exact ih4 _ _ _ _ _ _ _ _ _ _ _ _)
      | (with_reducible exact impl_AgreeTrits.mono _ _ _)
      | (with_reducible exact impl_AnyTrits.mono _ _ _)
      | (with_reducible exact impl_FullAdd.mono _ _ _ _)
      | (with_reducible exact impl_HalfAdd.mono _ _ _)
      | (with_reducible exact impl_MaxTrits.mono _ _ _)
      | (with_reducible exact impl_MinTrits.mono _ _ _)
      | (with_reducible exact impl_TimesTrits.mono _ _ _)
      | (with_reducible exact LeO.refl _)
      | (with_reducible exact LeO.none _)
      | (with_reducible refine LeO.ite ?_ ?_)
      | (with_reducible refine LeO.bind ?_ (fun _ => ?_))
      | exact ih0 _ _ _ _
      | exact ih1 _ _ _ _ _ _
      | exact ih2 _ _ _ _ _ _ _ _
      | exact ih3 _ _ _ _ _ _ _ _ _ _
      | exact ih4 _ _ _ _ _ _ _ _ _ _ _ _
      | exact impl_AgreeTrits.mono _ _ _
      | exact impl_AnyTrits.mono _ _ _
      | exact impl_FullAdd.mono _ _ _ _
      | exact impl_HalfAdd.mono _ _ _
      | exact impl_MaxTrits.mono _ _ _
      | exact impl_MinTrits.mono _ _ _
      | exact impl_TimesTrits.mono _ _ _
      | exact LeO.none _
      | refine LeO.ite ?_ ?_
      | refine LeO.bind ?_ (fun _ => ?_)
theorem laws_FnTrits.mono : ∀ a0 k, LeO (laws_FnTrits.f k a0) (laws_FnTrits.f (k + 1) a0) := by
  intro a0 k
  obtain ⟨ih0, ih1, ih2, ih3, ih4⟩ := laws_FnTrits.mono_l k
  unfold laws_FnTrits.f
  repeat' first
      | (with_reducible exact ih0 _ _ _ _)
      | (with_reducible exact ih1 _ _ _ _ _ _)
      | (with_reducible exact ih2 _ _ _ _ _ _ _ _)
      | (with_reducible exact ih3 _ _ _ _ _ _ _ _ _ _)
      | (with_reducible exact ih4 _ _ _ _ _ _ _ _ _ _ _ _)
      | (with_reducible exact impl_AgreeTrits.mono _ _ _)
      | (with_reducible exact impl_AnyTrits.mono _ _ _)
      | (with_reducible exact impl_FullAdd.mono _ _ _ _)
      | (with_reducible exact impl_HalfAdd.mono _ _ _)
      | (with_reducible exact impl_MaxTrits.mono _ _ _)
      | (with_reducible exact impl_MinTrits.mono _ _ _)
      | (with_reducible exact impl_TimesTrits.mono _ _ _)
      | (with_reducible exact LeO.refl _)
      | (with_reducible exact LeO.none _)
      | (with_reducible refine LeO.ite ?_ ?_)
      | (with_reducible refine LeO.bind ?_ (fun _ => ?_))
      | exact ih0 _ _ _ _
      | exact ih1 _ _ _ _ _ _
      | exact ih2 _ _ _ _ _ _ _ _
      | exact ih3 _ _ _ _ _ _ _ _ _ _
      | exact ih4 _ _ _ _ _ _ _ _ _ _ _ _
      | exact impl_AgreeTrits.mono _ _ _
      | exact impl_AnyTrits.mono _ _ _
      | exact impl_FullAdd.mono _ _ _ _
      | exact impl_HalfAdd.mono _ _ _
      | exact impl_MaxTrits.mono _ _ _
      | exact impl_MinTrits.mono _ _ _
      | exact impl_TimesTrits.mono _ _ _
      | exact LeO.none _
      | refine LeO.ite ?_ ?_
      | refine LeO.bind ?_ (fun _ => ?_)
set_option maxHeartbeats 8000000 in
set_option maxRecDepth 100000 in
theorem laws_FnTrits.calls (k : Nat) (A0 : Option Addr) (c0 : Nat) (l0 : List Int) (r : Bool) (w : World) (hr0 : Kd.C (Kd.int .u8) w A0 l0.length l0) (hc0 : l0.length ≤ c0) (h : laws_FnTrits.f k l0 = some r) :
    Calls Try.prog 3 #[.slice A0 l0.length c0] w fun e w' => e = .returned (.bool r) ∧ Below w.heap.size w w' := by
  have HR0 := Aside0.mk hr0
  have HC0 := Aside0.mk hc0
  clear hr0 hc0
  have HB := Aside0.mk (Below.refl w.heap.size w)
  have H : (if (l0.length : Int) > 1048576 then (some true) else ((laws_trits.f).bind fun t143 => (laws_FnTrits.l0 k l0 t143 (t143.length : Int) 0))) = some r := h
  clear h
  by_cases c2 : (l0.length : Int) > 1048576
  · rw [if_pos c2] at H
    have c2b0 : decide (1048576 < (l0.length : Int)) = true := decide_eq_true c2
    have c2b1 : decide (1048576 < l0.length) = true := decide_eq_true (by omega)
    clear c2
    obtain rfl := Option.some.inj H
    go_enter Try.func3, Try.ntmps3
    go_wp2
    go_ret
    exact ⟨by first | rfl | (simp [errW_none, errW_some] <;> rfl) | (simp [*, errW_none, errW_some] <;> rfl), by repeat (first | (with_reducible first | exact HB.out | apply below_alloc | apply pw_below_drewN | apply below_drew1) | exact HB.out)⟩
  · rw [if_neg c2] at H
    have c2b0 : decide (1048576 < (l0.length : Int)) = false := decide_eq_false c2
    have c2b1 : decide (1048576 < l0.length) = false := decide_eq_false (by omega)
    clear c2
    replace H := Option.bind_eq_some_iff.mp H
    obtain ⟨t143, A30, H⟩ := H
    replace H : (laws_FnTrits.l0 k l0 t143 (t143.length : Int) 0) = some r := H
    have A3 := Aside0.mk A30
    clear A30
    have H' := Aside0.mk H
    clear H
    go_enter Try.func3, Try.ntmps3
    go_wp2_with (first | ((with_reducible refine gate_callee (f := 8) rfl ?_); refine goesL_ (some 18) rfl rfl Try.func8 (by kernel_rfl) rfl #[] rfl (by (try simp only [List.map_toArray, List.map_cons, List.map_nil]); first | done | rfl | (simp only [List.length_drop, List.length_take]; rfl)) ?_; (with_reducible refine (laws_trits.calls  t143 _ A3.out).mono ?_); rintro e w4 ⟨v144, rfl, ho0, hb⟩; refine ⟨_, rfl, ?_⟩; have n0_ := Aside0.mk (Kd.R_lower ho0 (below_size (by repeat (first | (with_reducible first | exact HB.out | apply below_alloc | apply pw_below_drewN | apply below_drew1) | exact HB.out)))); have n1_ := Aside0.mk (below_step (by repeat (first | (with_reducible first | exact HB.out | apply below_alloc | apply pw_below_drewN | apply below_drew1) | exact HB.out)) hb); clear HB; have HO145 := n0_; have HB := n1_; clear n0_ n1_; (try clear hb); (try clear hb2); (try clear hk); (try clear hi); (try clear ho0); obtain ⟨Ao5, co5, eo5⟩ := Kd.R_slice HO145.out; subst eo5))
    go_loopg [20] k (fun kq v20 w' => ∃ (x20_1 : Int), v20 = .int .i64 x20_1 ∧ Aside0 (laws_FnTrits.l0 kq l0 t143 (t143.length : Int) x20_1 = some r) ∧ Aside0 (kq ≤ k) ∧ Aside0 (Kd.R (Kd.int .i64) 3 w' w.heap.size (fun _ => True) (.slice Ao5 t143.length co5) t143) ∧ Aside0 (Below w.heap.size w w'))
    case atStart => exact ⟨(0), (by first | rfl | (simp; done) | (simp [*]; done)), H', ⟨Nat.le_refl _⟩, ⟨by (with_reducible repeat (first | apply Kd.R_alloc | apply Kd.R_drewN | apply Kd.R_drew)); exact HO145.out⟩, ⟨by repeat (first | (with_reducible first | exact HB.out | apply below_alloc | apply pw_below_drewN | apply below_drew1) | exact HB.out)⟩⟩
    case round =>
      clear H'
      try clear c2
      try clear c2b0
      try clear c2b1
      try clear p2
      try clear c3
      obtain ⟨x20_1, rfl, HA, HK1, HO_18, HB⟩ := hrel
      cases gk with
      | zero => exact absurd HA.out (by simp [laws_FnTrits.l0])
      | succ k1 =>
        have H := HA.out
        clear HA
        simp only [laws_FnTrits.l0] at H
        by_cases c6 : x20_1 < (t143.length : Int)
        · rw [if_pos c6] at H
          have c6b0 : decide (x20_1 < (t143.length : Int)) = true := decide_eq_true c6
          clear c6
          by_cases c7 : 0 ≤ x20_1
          · rw [if_pos c7] at H
            have c7b0 : decide (0 ≤ x20_1) = true := decide_eq_true c7
            clear c7
            by_cases c8 : x20_1 < (t143.length : Int)
            · rw [if_pos c8] at H
              have c8b0 : decide (x20_1 < (t143.length : Int)) = true := decide_eq_true c8
              clear c8
              have HC9 := Aside0.mk H
              clear H
              have p146 : 0 ≤ (x20_1 : Int) := of_decide_eq_true (by first | (with_reducible assumption) | assumption)
              have q146 : x20_1 < (t143.length : Int) := of_decide_eq_true (by first | (with_reducible assumption) | assumption)
              obtain ⟨ad146, e146, hx146_0⟩ := Kd.at_int (Kd.R_reads' HO_18.out).2.2 x20_1 p146 q146
              cases e146
              replace p146 := eq_true p146
              replace q146 := eq_true q146
              go_upto_region 6 with (fail)
              go_cut [42] (fun v42 wc => ∃ (kq : Nat) (x42_8 : Bool), v42 = .bool x42_8 ∧ Aside0 (laws_FnTrits.j1 kq l0 (rd t143 x20_1) t143 (t143.length : Int) x20_1 x42_8 = some r) ∧ Aside0 (kq ≤ k1) ∧ Aside0 (Kd.R (Kd.int .i64) 3 wc w.heap.size (fun _ => True) (.slice (some ad146) t143.length co5) t143) ∧ Aside0 (Below w.heap.size w wc))
              case first =>
                have H := HC9.out
                clear HC9
                replace H := Option.bind_eq_some_iff.mp H
                obtain ⟨t147, A100, H⟩ := H
                replace H : ((impl_NotTrit.f t147).bind fun t148 => (if t148 = (rd t143 x20_1) then ((impl_TurnTrit.f (rd t143 x20_1)).bind fun t149 => ((impl_TurnTrit.f t149).bind fun t150 => ((impl_TurnTrit.f t150).bind fun t151 => (if t151 = (rd t143 x20_1) then ((impl_TurnTrit.f (rd t143 x20_1)).bind fun t152 => (laws_FnTrits.j1 k1 l0 (rd t143 x20_1) t143 (t143.length : Int) x20_1 (t152 == (rd t143 x20_1)))) else (laws_FnTrits.j1 k1 l0 (rd t143 x20_1) t143 (t143.length : Int) x20_1 true))))) else (laws_FnTrits.j1 k1 l0 (rd t143 x20_1) t143 (t143.length : Int) x20_1 true))) = some r := H
                have A10 := Aside0.mk A100
                clear A100
                replace H := Option.bind_eq_some_iff.mp H
                obtain ⟨t148, A110, H⟩ := H
                replace H : (if t148 = (rd t143 x20_1) then ((impl_TurnTrit.f (rd t143 x20_1)).bind fun t149 => ((impl_TurnTrit.f t149).bind fun t150 => ((impl_TurnTrit.f t150).bind fun t151 => (if t151 = (rd t143 x20_1) then ((impl_TurnTrit.f (rd t143 x20_1)).bind fun t152 => (laws_FnTrits.j1 k1 l0 (rd t143 x20_1) t143 (t143.length : Int) x20_1 (t152 == (rd t143 x20_1)))) else (laws_FnTrits.j1 k1 l0 (rd t143 x20_1) t143 (t143.length : Int) x20_1 true))))) else (laws_FnTrits.j1 k1 l0 (rd t143 x20_1) t143 (t143.length : Int) x20_1 true)) = some r := H
                have A11 := Aside0.mk A110
                clear A110
                by_cases c12 : t148 = (rd t143 x20_1)
                · rw [if_pos c12] at H
                  have c12b0 : (t148 == (rd t143 x20_1)) = true := beq_iff_eq.mpr c12
                  have c12b1 : (t148 != (rd t143 x20_1)) = false := bne_eq_false_iff_eq.mpr c12
                  clear c12
                  (first | rw [c12b0] | (simp only [i64_w, i32_w]; rw [c12b0]) | skip)
                  replace H := Option.bind_eq_some_iff.mp H
                  obtain ⟨t149, A130, H⟩ := H
                  replace H : ((impl_TurnTrit.f t149).bind fun t150 => ((impl_TurnTrit.f t150).bind fun t151 => (if t151 = (rd t143 x20_1) then ((impl_TurnTrit.f (rd t143 x20_1)).bind fun t152 => (laws_FnTrits.j1 k1 l0 (rd t143 x20_1) t143 (t143.length : Int) x20_1 (t152 == (rd t143 x20_1)))) else (laws_FnTrits.j1 k1 l0 (rd t143 x20_1) t143 (t143.length : Int) x20_1 true)))) = some r := H
                  have A13 := Aside0.mk A130
                  clear A130
                  replace H := Option.bind_eq_some_iff.mp H
                  obtain ⟨t150, A140, H⟩ := H
                  replace H : ((impl_TurnTrit.f t150).bind fun t151 => (if t151 = (rd t143 x20_1) then ((impl_TurnTrit.f (rd t143 x20_1)).bind fun t152 => (laws_FnTrits.j1 k1 l0 (rd t143 x20_1) t143 (t143.length : Int) x20_1 (t152 == (rd t143 x20_1)))) else (laws_FnTrits.j1 k1 l0 (rd t143 x20_1) t143 (t143.length : Int) x20_1 true))) = some r := H
                  have A14 := Aside0.mk A140
                  clear A140
                  replace H := Option.bind_eq_some_iff.mp H
                  obtain ⟨t151, A150, H⟩ := H
                  replace H : (if t151 = (rd t143 x20_1) then ((impl_TurnTrit.f (rd t143 x20_1)).bind fun t152 => (laws_FnTrits.j1 k1 l0 (rd t143 x20_1) t143 (t143.length : Int) x20_1 (t152 == (rd t143 x20_1)))) else (laws_FnTrits.j1 k1 l0 (rd t143 x20_1) t143 (t143.length : Int) x20_1 true)) = some r := H
                  have A15 := Aside0.mk A150
                  clear A150
                  by_cases c16 : t151 = (rd t143 x20_1)
                  · rw [if_pos c16] at H
                    have c16b0 : (t151 == (rd t143 x20_1)) = true := beq_iff_eq.mpr c16
                    have c16b1 : (t151 != (rd t143 x20_1)) = false := bne_eq_false_iff_eq.mpr c16
                    clear c16
                    replace H := Option.bind_eq_some_iff.mp H
                    obtain ⟨t152, A170, H⟩ := H
                    replace H : (laws_FnTrits.j1 k1 l0 (rd t143 x20_1) t143 (t143.length : Int) x20_1 (t152 == (rd t143 x20_1))) = some r := H
                    have A17 := Aside0.mk A170
                    clear A170
                    have H' := Aside0.mk H
                    clear H
                    go_wp2_with (first | ((with_reducible refine gate_callee (f := 9) rfl ?_); refine goesL_ (some 25) rfl rfl Try.func9 (by kernel_rfl) rfl #[.int .i64 (rd t143 x20_1)] rfl (by (try simp only [List.map_toArray, List.map_cons, List.map_nil]); first | done | rfl | (simp only [List.length_drop, List.length_take]; rfl)) ?_; (with_reducible refine (impl_NotTrit.calls (rd t143 x20_1) t147 _ A10.out).mono ?_); rintro e w' ⟨rfl, ⟨nd, rfl⟩⟩; refine ⟨_, rfl, ?_⟩; (try clear A10)) | ((with_reducible refine gate_callee (f := 9) rfl ?_); refine goesL_ (some 26) rfl rfl Try.func9 (by kernel_rfl) rfl #[.int .i64 t147] rfl (by (try simp only [List.map_toArray, List.map_cons, List.map_nil]); first | done | rfl | (simp only [List.length_drop, List.length_take]; rfl)) ?_; (with_reducible refine (impl_NotTrit.calls t147 t148 _ A11.out).mono ?_); rintro e w' ⟨rfl, ⟨nd, rfl⟩⟩; refine ⟨_, rfl, ?_⟩; (try clear A11)) | (go_at_call 10; (with_reducible refine (impl_TurnTrit.calls (rd t143 x20_1) t149 _ A13.out).mono ?_); rintro e w' ⟨rfl, ⟨nd, rfl⟩⟩; (try clear A13)) | (go_at_call 10; (with_reducible refine (impl_TurnTrit.calls t149 t150 _ A14.out).mono ?_); rintro e w' ⟨rfl, ⟨nd, rfl⟩⟩; (try clear A14)) | (go_at_call 10; (with_reducible refine (impl_TurnTrit.calls t150 t151 _ A15.out).mono ?_); rintro e w' ⟨rfl, ⟨nd, rfl⟩⟩; (try clear A15)) | (go_at_call 10; (with_reducible refine (impl_TurnTrit.calls (rd t143 x20_1) t152 _ A17.out).mono ?_); rintro e w' ⟨rfl, ⟨nd, rfl⟩⟩; (try clear A17)))
                    go_meet
                    case rel => exact ⟨_, ((t152 == (rd t143 x20_1))), (by first | rfl | (simp; done) | (simp [*]; done)), H', ⟨by have := HK1.out; first | omega | exact Nat.le_refl _⟩, ⟨by (with_reducible repeat (first | apply Kd.R_alloc | apply Kd.R_drewN | apply Kd.R_drew)); exact HO_18.out⟩, ⟨by repeat (first | (with_reducible first | exact HB.out | apply below_alloc | apply pw_below_drewN | apply below_drew1) | exact HB.out)⟩⟩
                  · rw [if_neg c16] at H
                    have c16b0 : (t151 == (rd t143 x20_1)) = false := beq_eq_false_iff_ne.mpr c16
                    have c16b1 : (t151 != (rd t143 x20_1)) = true := bne_iff_ne.mpr c16
                    have H' := Aside0.mk H
                    clear H
                    go_wp2_with (first | ((with_reducible refine gate_callee (f := 9) rfl ?_); refine goesL_ (some 25) rfl rfl Try.func9 (by kernel_rfl) rfl #[.int .i64 (rd t143 x20_1)] rfl (by (try simp only [List.map_toArray, List.map_cons, List.map_nil]); first | done | rfl | (simp only [List.length_drop, List.length_take]; rfl)) ?_; (with_reducible refine (impl_NotTrit.calls (rd t143 x20_1) t147 _ A10.out).mono ?_); rintro e w' ⟨rfl, ⟨nd, rfl⟩⟩; refine ⟨_, rfl, ?_⟩; (try clear A10)) | ((with_reducible refine gate_callee (f := 9) rfl ?_); refine goesL_ (some 26) rfl rfl Try.func9 (by kernel_rfl) rfl #[.int .i64 t147] rfl (by (try simp only [List.map_toArray, List.map_cons, List.map_nil]); first | done | rfl | (simp only [List.length_drop, List.length_take]; rfl)) ?_; (with_reducible refine (impl_NotTrit.calls t147 t148 _ A11.out).mono ?_); rintro e w' ⟨rfl, ⟨nd, rfl⟩⟩; refine ⟨_, rfl, ?_⟩; (try clear A11)) | (go_at_call 10; (with_reducible refine (impl_TurnTrit.calls (rd t143 x20_1) t149 _ A13.out).mono ?_); rintro e w' ⟨rfl, ⟨nd, rfl⟩⟩; (try clear A13)) | (go_at_call 10; (with_reducible refine (impl_TurnTrit.calls t149 t150 _ A14.out).mono ?_); rintro e w' ⟨rfl, ⟨nd, rfl⟩⟩; (try clear A14)) | (go_at_call 10; (with_reducible refine (impl_TurnTrit.calls t150 t151 _ A15.out).mono ?_); rintro e w' ⟨rfl, ⟨nd, rfl⟩⟩; (try clear A15)))
                    go_meet
                    case rel => exact ⟨_, (true), (by first | rfl | (simp; done) | (simp [*]; done)), H', ⟨by have := HK1.out; first | omega | exact Nat.le_refl _⟩, ⟨by (with_reducible repeat (first | apply Kd.R_alloc | apply Kd.R_drewN | apply Kd.R_drew)); exact HO_18.out⟩, ⟨by repeat (first | (with_reducible first | exact HB.out | apply below_alloc | apply pw_below_drewN | apply below_drew1) | exact HB.out)⟩⟩
                · rw [if_neg c12] at H
                  have c12b0 : (t148 == (rd t143 x20_1)) = false := beq_eq_false_iff_ne.mpr c12
                  have c12b1 : (t148 != (rd t143 x20_1)) = true := bne_iff_ne.mpr c12
                  (first | rw [c12b0] | (simp only [i64_w, i32_w]; rw [c12b0]) | skip)
                  have H' := Aside0.mk H
                  clear H
                  go_wp2_with (first | ((with_reducible refine gate_callee (f := 9) rfl ?_); refine goesL_ (some 25) rfl rfl Try.func9 (by kernel_rfl) rfl #[.int .i64 (rd t143 x20_1)] rfl (by (try simp only [List.map_toArray, List.map_cons, List.map_nil]); first | done | rfl | (simp only [List.length_drop, List.length_take]; rfl)) ?_; (with_reducible refine (impl_NotTrit.calls (rd t143 x20_1) t147 _ A10.out).mono ?_); rintro e w' ⟨rfl, ⟨nd, rfl⟩⟩; refine ⟨_, rfl, ?_⟩; (try clear A10)) | ((with_reducible refine gate_callee (f := 9) rfl ?_); refine goesL_ (some 26) rfl rfl Try.func9 (by kernel_rfl) rfl #[.int .i64 t147] rfl (by (try simp only [List.map_toArray, List.map_cons, List.map_nil]); first | done | rfl | (simp only [List.length_drop, List.length_take]; rfl)) ?_; (with_reducible refine (impl_NotTrit.calls t147 t148 _ A11.out).mono ?_); rintro e w' ⟨rfl, ⟨nd, rfl⟩⟩; refine ⟨_, rfl, ?_⟩; (try clear A11)))
                  go_meet
                  case rel => exact ⟨_, (true), (by first | rfl | (simp; done) | (simp [*]; done)), H', ⟨by have := HK1.out; first | omega | exact Nat.le_refl _⟩, ⟨by (with_reducible repeat (first | apply Kd.R_alloc | apply Kd.R_drewN | apply Kd.R_drew)); exact HO_18.out⟩, ⟨by repeat (first | (with_reducible first | exact HB.out | apply below_alloc | apply pw_below_drewN | apply below_drew1) | exact HB.out)⟩⟩
              case rest =>
                clear HC9
                try clear c1
                try clear p1
                try clear q1
                try clear hx1
                try clear c2
                try clear c2b0
                try clear c2b1
                try clear p2
                try clear c3
                try clear c6
                try clear c6b0
                try clear c7
                try clear c7b0
                try clear c8
                try clear c8b0
                try clear c9
                try clear c12
                try clear c12b0
                try clear c12b1
                try clear p14
                try clear q14
                try clear hx14
                try clear c16
                try clear c16b0
                try clear c16b1
                try clear hx146_0
                try clear p146
                try clear p2
                try clear q146
                obtain ⟨kq, x42_8, rfl, HA, HJ8, HO_18, HB⟩ := hcut
                cases kq with
                | zero => exact absurd HA.out (by simp [laws_FnTrits.j1])
                | succ kj8 =>
                  have H := HA.out
                  clear HA
                  simp only [laws_FnTrits.j1] at H
                  by_cases c18 : x42_8 = true
                  · subst c18
                    have H1 : (some false) = some r := by rw [if_pos rfl] at H; exact H
                    clear H
                    have H := H1
                    clear H1
                    obtain rfl := Option.some.inj H
                    go_wp2
                    go_ret
                    exact ⟨by first | rfl | (simp [errW_none, errW_some] <;> rfl) | (simp [*, errW_none, errW_some] <;> rfl), by repeat (first | (with_reducible first | exact HB.out | apply below_alloc | apply pw_below_drewN | apply below_drew1) | exact HB.out)⟩
                  · replace c18 := Bool.eq_false_iff.mpr c18
                    subst c18
                    have H1 : ((laws_trits.f).bind fun t153 => (laws_FnTrits.l1 kj8 l0 (rd t143 x20_1) t143 (t143.length : Int) x20_1 t153 (t153.length : Int) 0)) = some r := by rw [if_neg (show ¬ (false = true) by decide)] at H; exact H
                    clear H
                    have H := H1
                    clear H1
                    replace H := Option.bind_eq_some_iff.mp H
                    obtain ⟨t153, A190, H⟩ := H
                    replace H : (laws_FnTrits.l1 kj8 l0 (rd t143 x20_1) t143 (t143.length : Int) x20_1 t153 (t153.length : Int) 0) = some r := H
                    have A19 := Aside0.mk A190
                    clear A190
                    have H' := Aside0.mk H
                    clear H
                    go_wp2_with (first | ((with_reducible refine gate_callee (f := 8) rfl ?_); refine goesL_ (some 43) rfl rfl Try.func8 (by kernel_rfl) rfl #[] rfl (by (try simp only [List.map_toArray, List.map_cons, List.map_nil]); first | done | rfl | (simp only [List.length_drop, List.length_take]; rfl)) ?_; (with_reducible refine (laws_trits.calls  t153 _ A19.out).mono ?_); rintro e w20 ⟨v154, rfl, ho0, hb⟩; refine ⟨_, rfl, ?_⟩; have n0_ := Aside0.mk (Kd.R_elder' (by (with_reducible repeat (first | apply Kd.R_alloc | apply Kd.R_drewN | apply Kd.R_drew)); exact HO_18.out) (Kd.R_base ho0) hb); have n1_ := Aside0.mk (Kd.R_lower (Kd.R_new' ho0 (Kd.R_lt (by (with_reducible repeat (first | apply Kd.R_alloc | apply Kd.R_drewN | apply Kd.R_drew)); exact HO_18.out))) (below_size (by repeat (first | (with_reducible first | exact HB.out | apply below_alloc | apply pw_below_drewN | apply below_drew1) | exact HB.out)))); have n2_ := Aside0.mk (below_step (by repeat (first | (with_reducible first | exact HB.out | apply below_alloc | apply pw_below_drewN | apply below_drew1) | exact HB.out)) hb); clear HO_18; clear HB; have HO_18 := n0_; have HO155 := n1_; have HB := n2_; clear n0_ n1_ n2_; (try clear hb); (try clear hb2); (try clear hk); (try clear hi); (try clear ho0); obtain ⟨Ao21, co21, eo21⟩ := Kd.R_slice HO155.out; subst eo21))
                    go_loopg [45] kj8 (fun kq v45 w' => ∃ (x45_3 : Int), v45 = .int .i64 x45_3 ∧ Aside0 (laws_FnTrits.l1 kq l0 (rd t143 x20_1) t143 (t143.length : Int) x20_1 t153 (t153.length : Int) x45_3 = some r) ∧ Aside0 (kq ≤ kj8) ∧ Aside0 (Kd.R (Kd.int .i64) 3 w' w.heap.size (fun k_ => some k_ ≠ ((.slice Ao21 t153.length co21) : Value).ownBlock) (.slice (some ad146) t143.length co5) t143) ∧ Aside0 (Kd.R (Kd.int .i64) 3 w' w.heap.size (fun k_ => some k_ ≠ ((.slice (some ad146) t143.length co5) : Value).ownBlock) (.slice Ao21 t153.length co21) t153) ∧ Aside0 (Below w.heap.size w w'))
                    case atStart => exact ⟨(0), (by first | rfl | (simp; done) | (simp [*]; done)), H', ⟨Nat.le_refl _⟩, ⟨by (with_reducible repeat (first | apply Kd.R_alloc | apply Kd.R_drewN | apply Kd.R_drew)); exact Kd.R_mono HO_18.out (fun _ hk => hk.2)⟩, ⟨by (with_reducible repeat (first | apply Kd.R_alloc | apply Kd.R_drewN | apply Kd.R_drew)); exact Kd.R_mono HO155.out (fun _ hk => hk.2)⟩, ⟨by repeat (first | (with_reducible first | exact HB.out | apply below_alloc | apply pw_below_drewN | apply below_drew1) | exact HB.out)⟩⟩
                    case round =>
                      clear H'
                      try clear c1
                      try clear p1
                      try clear q1
                      try clear hx1
                      try clear c2
                      try clear c2b0
                      try clear c2b1
                      try clear p2
                      try clear c3
                      try clear c6
                      try clear c6b0
                      try clear c7
                      try clear c7b0
                      try clear c8
                      try clear c8b0
                      try clear c9
                      try clear c12
                      try clear c12b0
                      try clear c12b1
                      try clear p14
                      try clear q14
                      try clear hx14
                      try clear c16
                      try clear c16b0
                      try clear c16b1
                      try clear c18
                      try clear hx146_0
                      try clear p1
                      try clear p14
                      try clear p146
                      try clear p2
                      try clear q1
                      try clear q14
                      try clear q146
                      obtain ⟨x45_3, rfl, HA, HK3, HO_18, HO_43, HB⟩ := hrel
                      cases gk with
                      | zero => exact absurd HA.out (by simp [laws_FnTrits.l1])
                      | succ k3 =>
                        have H := HA.out
                        clear HA
                        simp only [laws_FnTrits.l1] at H
                        by_cases c22 : x45_3 < (t153.length : Int)
                        · rw [if_pos c22] at H
                          have c22b0 : decide (x45_3 < (t153.length : Int)) = true := decide_eq_true c22
                          clear c22
                          by_cases c23 : 0 ≤ x45_3
                          · rw [if_pos c23] at H
                            have c23b0 : decide (0 ≤ x45_3) = true := decide_eq_true c23
                            clear c23
                            by_cases c24 : x45_3 < (t153.length : Int)
                            · rw [if_pos c24] at H
                              have c24b0 : decide (x45_3 < (t153.length : Int)) = true := decide_eq_true c24
                              clear c24
                              replace H := Option.bind_eq_some_iff.mp H
                              obtain ⟨⟨t157, t158⟩, A250, H⟩ := H
                              replace H : ((impl_MinTrits.f k3 (rd t143 x20_1) (rd t153 x45_3)).bind fun t159 => ((impl_NotTrit.f t159).bind fun t160 => ((impl_NotTrit.f (rd t143 x20_1)).bind fun t161 => ((impl_NotTrit.f (rd t153 x45_3)).bind fun t162 => ((impl_MaxTrits.f k3 t161 t162).bind fun t163 => (if t160 = t163 then (if (wrap64 (t157 + (wrap64 (3 * t158)))) = (wrap64 ((rd t143 x20_1) + (rd t153 x45_3))) then ((impl_AgreeTrits.f k3 (rd t143 x20_1) (rd t153 x45_3)).bind fun t164 => ((impl_AgreeTrits.f k3 (wrap64 (-(rd t143 x20_1))) (wrap64 (-(rd t153 x45_3)))).bind fun t165 => ((impl_NotTrit.f t165).bind fun t166 => (if t164 = t166 then ((impl_AnyTrits.f k3 (rd t143 x20_1) (rd t153 x45_3)).bind fun t167 => ((impl_SignOf.f (wrap64 ((rd t143 x20_1) + (rd t153 x45_3)))).bind fun t168 => (if t167 = t168 then ((impl_TimesTrits.f k3 (rd t143 x20_1) (rd t153 x45_3)).bind fun t169 => (laws_FnTrits.j3 k3 l0 (rd t143 x20_1) (rd t153 x45_3) t143 (t143.length : Int) x20_1 t153 (t153.length : Int) x45_3 (t169 != (wrap64 ((rd t143 x20_1) * (rd t153 x45_3)))))) else (laws_FnTrits.j3 k3 l0 (rd t143 x20_1) (rd t153 x45_3) t143 (t143.length : Int) x20_1 t153 (t153.length : Int) x45_3 true)))) else (laws_FnTrits.j3 k3 l0 (rd t143 x20_1) (rd t153 x45_3) t143 (t143.length : Int) x20_1 t153 (t153.length : Int) x45_3 true))))) else (laws_FnTrits.j3 k3 l0 (rd t143 x20_1) (rd t153 x45_3) t143 (t143.length : Int) x20_1 t153 (t153.length : Int) x45_3 true)) else (laws_FnTrits.j3 k3 l0 (rd t143 x20_1) (rd t153 x45_3) t143 (t143.length : Int) x20_1 t153 (t153.length : Int) x45_3 true))))))) = some r := H
                              have A25 := Aside0.mk A250
                              clear A250
                              have HC26 := Aside0.mk H
                              clear H
                              have p156 : 0 ≤ (x45_3 : Int) := of_decide_eq_true (by first | (with_reducible assumption) | assumption)
                              have q156 : x45_3 < (t153.length : Int) := of_decide_eq_true (by first | (with_reducible assumption) | assumption)
                              obtain ⟨ad156, e156, hx156_0⟩ := Kd.at_int (Kd.R_reads' HO_43.out).2.2 x45_3 p156 q156
                              cases e156
                              replace p156 := eq_true p156
                              replace q156 := eq_true q156
                              go_upto_region 12 with (first | ((with_reducible refine gate_callee (f := 11) rfl ?_); refine goesL_ (some 52) rfl rfl Try.func11 (by kernel_rfl) rfl #[.int .i64 (rd t143 x20_1), .int .i64 (rd t153 x45_3)] rfl (by (try simp only [List.map_toArray, List.map_cons, List.map_nil]); first | done | rfl | (simp only [List.length_drop, List.length_take]; rfl)) ?_; (with_reducible refine (impl_HalfAdd.calls k3 (rd t143 x20_1) (rd t153 x45_3) t157 t158 _ A25.out).mono ?_); rintro e w27 ⟨rfl, hb⟩; refine ⟨_, rfl, ?_⟩; have n0_ := Aside0.mk (Kd.R_below (by (with_reducible repeat (first | apply Kd.R_alloc | apply Kd.R_drewN | apply Kd.R_drew)); exact HO_18.out) hb); have n1_ := Aside0.mk (Kd.R_below (by (with_reducible repeat (first | apply Kd.R_alloc | apply Kd.R_drewN | apply Kd.R_drew)); exact HO_43.out) hb); have n2_ := Aside0.mk (below_step (by repeat (first | (with_reducible first | exact HB.out | apply below_alloc | apply pw_below_drewN | apply below_drew1) | exact HB.out)) hb); clear HO_18; clear HO_43; clear HB; have HO_18 := n0_; have HO_43 := n1_; have HB := n2_; clear n0_ n1_ n2_; (try clear hb); (try clear hb2); (try clear hk); (try clear hi)))
                              (try simp only [Act.put, List.setIfInBounds_toArray, List.set_cons_zero, List.set_cons_succ])
                              go_cut [105] (fun v105 wc => ∃ (kq : Nat) (x105_25 : Bool), v105 = .bool x105_25 ∧ Aside0 (laws_FnTrits.j3 kq l0 (rd t143 x20_1) (rd t153 x45_3) t143 (t143.length : Int) x20_1 t153 (t153.length : Int) x45_3 x105_25 = some r) ∧ Aside0 (kq ≤ k3) ∧ Aside0 (Kd.R (Kd.int .i64) 3 wc w.heap.size (fun k_ => some k_ ≠ ((.slice (some ad156) t153.length co21) : Value).ownBlock) (.slice (some ad146) t143.length co5) t143) ∧ Aside0 (Kd.R (Kd.int .i64) 3 wc w.heap.size (fun k_ => some k_ ≠ ((.slice (some ad146) t143.length co5) : Value).ownBlock) (.slice (some ad156) t153.length co21) t153) ∧ Aside0 (Below w.heap.size w wc))
                              case first =>
                                have H := HC26.out
                                clear HC26
                                replace H := Option.bind_eq_some_iff.mp H
                                obtain ⟨t159, A280, H⟩ := H
                                replace H : ((impl_NotTrit.f t159).bind fun t160 => ((impl_NotTrit.f (rd t143 x20_1)).bind fun t161 => ((impl_NotTrit.f (rd t153 x45_3)).bind fun t162 => ((impl_MaxTrits.f k3 t161 t162).bind fun t163 => (if t160 = t163 then (if (wrap64 (t157 + (wrap64 (3 * t158)))) = (wrap64 ((rd t143 x20_1) + (rd t153 x45_3))) then ((impl_AgreeTrits.f k3 (rd t143 x20_1) (rd t153 x45_3)).bind fun t164 => ((impl_AgreeTrits.f k3 (wrap64 (-(rd t143 x20_1))) (wrap64 (-(rd t153 x45_3)))).bind fun t165 => ((impl_NotTrit.f t165).bind fun t166 => (if t164 = t166 then ((impl_AnyTrits.f k3 (rd t143 x20_1) (rd t153 x45_3)).bind fun t167 => ((impl_SignOf.f (wrap64 ((rd t143 x20_1) + (rd t153 x45_3)))).bind fun t168 => (if t167 = t168 then ((impl_TimesTrits.f k3 (rd t143 x20_1) (rd t153 x45_3)).bind fun t169 => (laws_FnTrits.j3 k3 l0 (rd t143 x20_1) (rd t153 x45_3) t143 (t143.length : Int) x20_1 t153 (t153.length : Int) x45_3 (t169 != (wrap64 ((rd t143 x20_1) * (rd t153 x45_3)))))) else (laws_FnTrits.j3 k3 l0 (rd t143 x20_1) (rd t153 x45_3) t143 (t143.length : Int) x20_1 t153 (t153.length : Int) x45_3 true)))) else (laws_FnTrits.j3 k3 l0 (rd t143 x20_1) (rd t153 x45_3) t143 (t143.length : Int) x20_1 t153 (t153.length : Int) x45_3 true))))) else (laws_FnTrits.j3 k3 l0 (rd t143 x20_1) (rd t153 x45_3) t143 (t143.length : Int) x20_1 t153 (t153.length : Int) x45_3 true)) else (laws_FnTrits.j3 k3 l0 (rd t143 x20_1) (rd t153 x45_3) t143 (t143.length : Int) x20_1 t153 (t153.length : Int) x45_3 true)))))) = some r := H
                                have A28 := Aside0.mk A280
                                clear A280
                                replace H := Option.bind_eq_some_iff.mp H
                                obtain ⟨t160, A290, H⟩ := H
                                replace H : ((impl_NotTrit.f (rd t143 x20_1)).bind fun t161 => ((impl_NotTrit.f (rd t153 x45_3)).bind fun t162 => ((impl_MaxTrits.f k3 t161 t162).bind fun t163 => (if t160 = t163 then (if (wrap64 (t157 + (wrap64 (3 * t158)))) = (wrap64 ((rd t143 x20_1) + (rd t153 x45_3))) then ((impl_AgreeTrits.f k3 (rd t143 x20_1) (rd t153 x45_3)).bind fun t164 => ((impl_AgreeTrits.f k3 (wrap64 (-(rd t143 x20_1))) (wrap64 (-(rd t153 x45_3)))).bind fun t165 => ((impl_NotTrit.f t165).bind fun t166 => (if t164 = t166 then ((impl_AnyTrits.f k3 (rd t143 x20_1) (rd t153 x45_3)).bind fun t167 => ((impl_SignOf.f (wrap64 ((rd t143 x20_1) + (rd t153 x45_3)))).bind fun t168 => (if t167 = t168 then ((impl_TimesTrits.f k3 (rd t143 x20_1) (rd t153 x45_3)).bind fun t169 => (laws_FnTrits.j3 k3 l0 (rd t143 x20_1) (rd t153 x45_3) t143 (t143.length : Int) x20_1 t153 (t153.length : Int) x45_3 (t169 != (wrap64 ((rd t143 x20_1) * (rd t153 x45_3)))))) else (laws_FnTrits.j3 k3 l0 (rd t143 x20_1) (rd t153 x45_3) t143 (t143.length : Int) x20_1 t153 (t153.length : Int) x45_3 true)))) else (laws_FnTrits.j3 k3 l0 (rd t143 x20_1) (rd t153 x45_3) t143 (t143.length : Int) x20_1 t153 (t153.length : Int) x45_3 true))))) else (laws_FnTrits.j3 k3 l0 (rd t143 x20_1) (rd t153 x45_3) t143 (t143.length : Int) x20_1 t153 (t153.length : Int) x45_3 true)) else (laws_FnTrits.j3 k3 l0 (rd t143 x20_1) (rd t153 x45_3) t143 (t143.length : Int) x20_1 t153 (t153.length : Int) x45_3 true))))) = some r := H
                                have A29 := Aside0.mk A290
                                clear A290
                                replace H := Option.bind_eq_some_iff.mp H
                                obtain ⟨t161, A300, H⟩ := H
                                replace H : ((impl_NotTrit.f (rd t153 x45_3)).bind fun t162 => ((impl_MaxTrits.f k3 t161 t162).bind fun t163 => (if t160 = t163 then (if (wrap64 (t157 + (wrap64 (3 * t158)))) = (wrap64 ((rd t143 x20_1) + (rd t153 x45_3))) then ((impl_AgreeTrits.f k3 (rd t143 x20_1) (rd t153 x45_3)).bind fun t164 => ((impl_AgreeTrits.f k3 (wrap64 (-(rd t143 x20_1))) (wrap64 (-(rd t153 x45_3)))).bind fun t165 => ((impl_NotTrit.f t165).bind fun t166 => (if t164 = t166 then ((impl_AnyTrits.f k3 (rd t143 x20_1) (rd t153 x45_3)).bind fun t167 => ((impl_SignOf.f (wrap64 ((rd t143 x20_1) + (rd t153 x45_3)))).bind fun t168 => (if t167 = t168 then ((impl_TimesTrits.f k3 (rd t143 x20_1) (rd t153 x45_3)).bind fun t169 => (laws_FnTrits.j3 k3 l0 (rd t143 x20_1) (rd t153 x45_3) t143 (t143.length : Int) x20_1 t153 (t153.length : Int) x45_3 (t169 != (wrap64 ((rd t143 x20_1) * (rd t153 x45_3)))))) else (laws_FnTrits.j3 k3 l0 (rd t143 x20_1) (rd t153 x45_3) t143 (t143.length : Int) x20_1 t153 (t153.length : Int) x45_3 true)))) else (laws_FnTrits.j3 k3 l0 (rd t143 x20_1) (rd t153 x45_3) t143 (t143.length : Int) x20_1 t153 (t153.length : Int) x45_3 true))))) else (laws_FnTrits.j3 k3 l0 (rd t143 x20_1) (rd t153 x45_3) t143 (t143.length : Int) x20_1 t153 (t153.length : Int) x45_3 true)) else (laws_FnTrits.j3 k3 l0 (rd t143 x20_1) (rd t153 x45_3) t143 (t143.length : Int) x20_1 t153 (t153.length : Int) x45_3 true)))) = some r := H
                                have A30 := Aside0.mk A300
                                clear A300
                                replace H := Option.bind_eq_some_iff.mp H
                                obtain ⟨t162, A310, H⟩ := H
                                replace H : ((impl_MaxTrits.f k3 t161 t162).bind fun t163 => (if t160 = t163 then (if (wrap64 (t157 + (wrap64 (3 * t158)))) = (wrap64 ((rd t143 x20_1) + (rd t153 x45_3))) then ((impl_AgreeTrits.f k3 (rd t143 x20_1) (rd t153 x45_3)).bind fun t164 => ((impl_AgreeTrits.f k3 (wrap64 (-(rd t143 x20_1))) (wrap64 (-(rd t153 x45_3)))).bind fun t165 => ((impl_NotTrit.f t165).bind fun t166 => (if t164 = t166 then ((impl_AnyTrits.f k3 (rd t143 x20_1) (rd t153 x45_3)).bind fun t167 => ((impl_SignOf.f (wrap64 ((rd t143 x20_1) + (rd t153 x45_3)))).bind fun t168 => (if t167 = t168 then ((impl_TimesTrits.f k3 (rd t143 x20_1) (rd t153 x45_3)).bind fun t169 => (laws_FnTrits.j3 k3 l0 (rd t143 x20_1) (rd t153 x45_3) t143 (t143.length : Int) x20_1 t153 (t153.length : Int) x45_3 (t169 != (wrap64 ((rd t143 x20_1) * (rd t153 x45_3)))))) else (laws_FnTrits.j3 k3 l0 (rd t143 x20_1) (rd t153 x45_3) t143 (t143.length : Int) x20_1 t153 (t153.length : Int) x45_3 true)))) else (laws_FnTrits.j3 k3 l0 (rd t143 x20_1) (rd t153 x45_3) t143 (t143.length : Int) x20_1 t153 (t153.length : Int) x45_3 true))))) else (laws_FnTrits.j3 k3 l0 (rd t143 x20_1) (rd t153 x45_3) t143 (t143.length : Int) x20_1 t153 (t153.length : Int) x45_3 true)) else (laws_FnTrits.j3 k3 l0 (rd t143 x20_1) (rd t153 x45_3) t143 (t143.length : Int) x20_1 t153 (t153.length : Int) x45_3 true))) = some r := H
                                have A31 := Aside0.mk A310
                                clear A310
                                replace H := Option.bind_eq_some_iff.mp H
                                obtain ⟨t163, A320, H⟩ := H
                                replace H : (if t160 = t163 then (if (wrap64 (t157 + (wrap64 (3 * t158)))) = (wrap64 ((rd t143 x20_1) + (rd t153 x45_3))) then ((impl_AgreeTrits.f k3 (rd t143 x20_1) (rd t153 x45_3)).bind fun t164 => ((impl_AgreeTrits.f k3 (wrap64 (-(rd t143 x20_1))) (wrap64 (-(rd t153 x45_3)))).bind fun t165 => ((impl_NotTrit.f t165).bind fun t166 => (if t164 = t166 then ((impl_AnyTrits.f k3 (rd t143 x20_1) (rd t153 x45_3)).bind fun t167 => ((impl_SignOf.f (wrap64 ((rd t143 x20_1) + (rd t153 x45_3)))).bind fun t168 => (if t167 = t168 then ((impl_TimesTrits.f k3 (rd t143 x20_1) (rd t153 x45_3)).bind fun t169 => (laws_FnTrits.j3 k3 l0 (rd t143 x20_1) (rd t153 x45_3) t143 (t143.length : Int) x20_1 t153 (t153.length : Int) x45_3 (t169 != (wrap64 ((rd t143 x20_1) * (rd t153 x45_3)))))) else (laws_FnTrits.j3 k3 l0 (rd t143 x20_1) (rd t153 x45_3) t143 (t143.length : Int) x20_1 t153 (t153.length : Int) x45_3 true)))) else (laws_FnTrits.j3 k3 l0 (rd t143 x20_1) (rd t153 x45_3) t143 (t143.length : Int) x20_1 t153 (t153.length : Int) x45_3 true))))) else (laws_FnTrits.j3 k3 l0 (rd t143 x20_1) (rd t153 x45_3) t143 (t143.length : Int) x20_1 t153 (t153.length : Int) x45_3 true)) else (laws_FnTrits.j3 k3 l0 (rd t143 x20_1) (rd t153 x45_3) t143 (t143.length : Int) x20_1 t153 (t153.length : Int) x45_3 true)) = some r := H
                                have A32 := Aside0.mk A320
                                clear A320
                                by_cases c33 : t160 = t163
                                · rw [if_pos c33] at H
                                  have c33b0 : (t160 == t163) = true := beq_iff_eq.mpr c33
                                  have c33b1 : (t160 != t163) = false := bne_eq_false_iff_eq.mpr c33
                                  clear c33
                                  (first | rw [c33b0] | (simp only [i64_w, i32_w]; rw [c33b0]) | skip)
                                  by_cases c34 : (wrap64 (t157 + (wrap64 (3 * t158)))) = (wrap64 ((rd t143 x20_1) + (rd t153 x45_3)))
                                  · rw [if_pos c34] at H
                                    have c34b0 : ((wrap64 (t157 + (wrap64 (3 * t158)))) == (wrap64 ((rd t143 x20_1) + (rd t153 x45_3)))) = true := beq_iff_eq.mpr c34
                                    have c34b1 : ((wrap64 (t157 + (wrap64 (3 * t158)))) != (wrap64 ((rd t143 x20_1) + (rd t153 x45_3)))) = false := bne_eq_false_iff_eq.mpr c34
                                    clear c34
                                    replace H := Option.bind_eq_some_iff.mp H
                                    obtain ⟨t164, A350, H⟩ := H
                                    replace H : ((impl_AgreeTrits.f k3 (wrap64 (-(rd t143 x20_1))) (wrap64 (-(rd t153 x45_3)))).bind fun t165 => ((impl_NotTrit.f t165).bind fun t166 => (if t164 = t166 then ((impl_AnyTrits.f k3 (rd t143 x20_1) (rd t153 x45_3)).bind fun t167 => ((impl_SignOf.f (wrap64 ((rd t143 x20_1) + (rd t153 x45_3)))).bind fun t168 => (if t167 = t168 then ((impl_TimesTrits.f k3 (rd t143 x20_1) (rd t153 x45_3)).bind fun t169 => (laws_FnTrits.j3 k3 l0 (rd t143 x20_1) (rd t153 x45_3) t143 (t143.length : Int) x20_1 t153 (t153.length : Int) x45_3 (t169 != (wrap64 ((rd t143 x20_1) * (rd t153 x45_3)))))) else (laws_FnTrits.j3 k3 l0 (rd t143 x20_1) (rd t153 x45_3) t143 (t143.length : Int) x20_1 t153 (t153.length : Int) x45_3 true)))) else (laws_FnTrits.j3 k3 l0 (rd t143 x20_1) (rd t153 x45_3) t143 (t143.length : Int) x20_1 t153 (t153.length : Int) x45_3 true)))) = some r := H
                                    have A35 := Aside0.mk A350
                                    clear A350
                                    replace H := Option.bind_eq_some_iff.mp H
                                    obtain ⟨t165, A360, H⟩ := H
                                    replace H : ((impl_NotTrit.f t165).bind fun t166 => (if t164 = t166 then ((impl_AnyTrits.f k3 (rd t143 x20_1) (rd t153 x45_3)).bind fun t167 => ((impl_SignOf.f (wrap64 ((rd t143 x20_1) + (rd t153 x45_3)))).bind fun t168 => (if t167 = t168 then ((impl_TimesTrits.f k3 (rd t143 x20_1) (rd t153 x45_3)).bind fun t169 => (laws_FnTrits.j3 k3 l0 (rd t143 x20_1) (rd t153 x45_3) t143 (t143.length : Int) x20_1 t153 (t153.length : Int) x45_3 (t169 != (wrap64 ((rd t143 x20_1) * (rd t153 x45_3)))))) else (laws_FnTrits.j3 k3 l0 (rd t143 x20_1) (rd t153 x45_3) t143 (t143.length : Int) x20_1 t153 (t153.length : Int) x45_3 true)))) else (laws_FnTrits.j3 k3 l0 (rd t143 x20_1) (rd t153 x45_3) t143 (t143.length : Int) x20_1 t153 (t153.length : Int) x45_3 true))) = some r := H
                                    have A36 := Aside0.mk A360
                                    clear A360
                                    replace H := Option.bind_eq_some_iff.mp H
                                    obtain ⟨t166, A370, H⟩ := H
                                    replace H : (if t164 = t166 then ((impl_AnyTrits.f k3 (rd t143 x20_1) (rd t153 x45_3)).bind fun t167 => ((impl_SignOf.f (wrap64 ((rd t143 x20_1) + (rd t153 x45_3)))).bind fun t168 => (if t167 = t168 then ((impl_TimesTrits.f k3 (rd t143 x20_1) (rd t153 x45_3)).bind fun t169 => (laws_FnTrits.j3 k3 l0 (rd t143 x20_1) (rd t153 x45_3) t143 (t143.length : Int) x20_1 t153 (t153.length : Int) x45_3 (t169 != (wrap64 ((rd t143 x20_1) * (rd t153 x45_3)))))) else (laws_FnTrits.j3 k3 l0 (rd t143 x20_1) (rd t153 x45_3) t143 (t143.length : Int) x20_1 t153 (t153.length : Int) x45_3 true)))) else (laws_FnTrits.j3 k3 l0 (rd t143 x20_1) (rd t153 x45_3) t143 (t143.length : Int) x20_1 t153 (t153.length : Int) x45_3 true)) = some r := H
                                    have A37 := Aside0.mk A370
                                    clear A370
                                    by_cases c38 : t164 = t166
                                    · rw [if_pos c38] at H
                                      have c38b0 : (t164 == t166) = true := beq_iff_eq.mpr c38
                                      have c38b1 : (t164 != t166) = false := bne_eq_false_iff_eq.mpr c38
                                      clear c38
                                      replace H := Option.bind_eq_some_iff.mp H
                                      obtain ⟨t167, A390, H⟩ := H
                                      replace H : ((impl_SignOf.f (wrap64 ((rd t143 x20_1) + (rd t153 x45_3)))).bind fun t168 => (if t167 = t168 then ((impl_TimesTrits.f k3 (rd t143 x20_1) (rd t153 x45_3)).bind fun t169 => (laws_FnTrits.j3 k3 l0 (rd t143 x20_1) (rd t153 x45_3) t143 (t143.length : Int) x20_1 t153 (t153.length : Int) x45_3 (t169 != (wrap64 ((rd t143 x20_1) * (rd t153 x45_3)))))) else (laws_FnTrits.j3 k3 l0 (rd t143 x20_1) (rd t153 x45_3) t143 (t143.length : Int) x20_1 t153 (t153.length : Int) x45_3 true))) = some r := H
                                      have A39 := Aside0.mk A390
                                      clear A390
                                      replace H := Option.bind_eq_some_iff.mp H
                                      obtain ⟨t168, A400, H⟩ := H
                                      replace H : (if t167 = t168 then ((impl_TimesTrits.f k3 (rd t143 x20_1) (rd t153 x45_3)).bind fun t169 => (laws_FnTrits.j3 k3 l0 (rd t143 x20_1) (rd t153 x45_3) t143 (t143.length : Int) x20_1 t153 (t153.length : Int) x45_3 (t169 != (wrap64 ((rd t143 x20_1) * (rd t153 x45_3)))))) else (laws_FnTrits.j3 k3 l0 (rd t143 x20_1) (rd t153 x45_3) t143 (t143.length : Int) x20_1 t153 (t153.length : Int) x45_3 true)) = some r := H
                                      have A40 := Aside0.mk A400
                                      clear A400
                                      by_cases c41 : t167 = t168
                                      · rw [if_pos c41] at H
                                        have c41b0 : (t167 == t168) = true := beq_iff_eq.mpr c41
                                        have c41b1 : (t167 != t168) = false := bne_eq_false_iff_eq.mpr c41
                                        clear c41
                                        replace H := Option.bind_eq_some_iff.mp H
                                        obtain ⟨t169, A420, H⟩ := H
                                        replace H : (laws_FnTrits.j3 k3 l0 (rd t143 x20_1) (rd t153 x45_3) t143 (t143.length : Int) x20_1 t153 (t153.length : Int) x45_3 (t169 != (wrap64 ((rd t143 x20_1) * (rd t153 x45_3))))) = some r := H
                                        have A42 := Aside0.mk A420
                                        clear A420
                                        have H' := Aside0.mk H
                                        clear H
                                        go_wp2_with (first | ((with_reducible refine gate_callee (f := 12) rfl ?_); refine goesL_ (some 57) rfl rfl Try.func12 (by kernel_rfl) rfl #[.int .i64 (rd t143 x20_1), .int .i64 (rd t153 x45_3)] rfl (by (try simp only [List.map_toArray, List.map_cons, List.map_nil]); first | done | rfl | (simp only [List.length_drop, List.length_take]; rfl)) ?_; (with_reducible refine (impl_MinTrits.calls k3 (rd t143 x20_1) (rd t153 x45_3) t159 _ A28.out).mono ?_); rintro e w43 ⟨rfl, hb⟩; refine ⟨_, rfl, ?_⟩; have n0_ := Aside0.mk (Kd.R_below (by (with_reducible repeat (first | apply Kd.R_alloc | apply Kd.R_drewN | apply Kd.R_drew)); exact HO_18.out) hb); have n1_ := Aside0.mk (Kd.R_below (by (with_reducible repeat (first | apply Kd.R_alloc | apply Kd.R_drewN | apply Kd.R_drew)); exact HO_43.out) hb); have n2_ := Aside0.mk (below_step (by repeat (first | (with_reducible first | exact HB.out | apply below_alloc | apply pw_below_drewN | apply below_drew1) | exact HB.out)) hb); clear HO_18; clear HO_43; clear HB; have HO_18 := n0_; have HO_43 := n1_; have HB := n2_; clear n0_ n1_ n2_; (try clear hb); (try clear hb2); (try clear hk); (try clear hi)) | ((with_reducible refine gate_callee (f := 9) rfl ?_); refine goesL_ (some 58) rfl rfl Try.func9 (by kernel_rfl) rfl #[.int .i64 t159] rfl (by (try simp only [List.map_toArray, List.map_cons, List.map_nil]); first | done | rfl | (simp only [List.length_drop, List.length_take]; rfl)) ?_; (with_reducible refine (impl_NotTrit.calls t159 t160 _ A29.out).mono ?_); rintro e w' ⟨rfl, ⟨nd, rfl⟩⟩; refine ⟨_, rfl, ?_⟩; (try clear A29)) | ((with_reducible refine gate_callee (f := 9) rfl ?_); refine goesL_ (some 60) rfl rfl Try.func9 (by kernel_rfl) rfl #[.int .i64 (rd t143 x20_1)] rfl (by (try simp only [List.map_toArray, List.map_cons, List.map_nil]); first | done | rfl | (simp only [List.length_drop, List.length_take]; rfl)) ?_; (with_reducible refine (impl_NotTrit.calls (rd t143 x20_1) t161 _ A30.out).mono ?_); rintro e w' ⟨rfl, ⟨nd, rfl⟩⟩; refine ⟨_, rfl, ?_⟩; (try clear A30)) | ((with_reducible refine gate_callee (f := 9) rfl ?_); refine goesL_ (some 62) rfl rfl Try.func9 (by kernel_rfl) rfl #[.int .i64 (rd t153 x45_3)] rfl (by (try simp only [List.map_toArray, List.map_cons, List.map_nil]); first | done | rfl | (simp only [List.length_drop, List.length_take]; rfl)) ?_; (with_reducible refine (impl_NotTrit.calls (rd t153 x45_3) t162 _ A31.out).mono ?_); rintro e w' ⟨rfl, ⟨nd, rfl⟩⟩; refine ⟨_, rfl, ?_⟩; (try clear A31)) | ((with_reducible refine gate_callee (f := 13) rfl ?_); refine goesL_ (some 63) rfl rfl Try.func13 (by kernel_rfl) rfl #[.int .i64 t161, .int .i64 t162] rfl (by (try simp only [List.map_toArray, List.map_cons, List.map_nil]); first | done | rfl | (simp only [List.length_drop, List.length_take]; rfl)) ?_; (with_reducible refine (impl_MaxTrits.calls k3 t161 t162 t163 _ A32.out).mono ?_); rintro e w44 ⟨rfl, hb⟩; refine ⟨_, rfl, ?_⟩; have n0_ := Aside0.mk (Kd.R_below (by (with_reducible repeat (first | apply Kd.R_alloc | apply Kd.R_drewN | apply Kd.R_drew)); exact HO_18.out) hb); have n1_ := Aside0.mk (Kd.R_below (by (with_reducible repeat (first | apply Kd.R_alloc | apply Kd.R_drewN | apply Kd.R_drew)); exact HO_43.out) hb); have n2_ := Aside0.mk (below_step (by repeat (first | (with_reducible first | exact HB.out | apply below_alloc | apply pw_below_drewN | apply below_drew1) | exact HB.out)) hb); clear HO_18; clear HO_43; clear HB; have HO_18 := n0_; have HO_43 := n1_; have HB := n2_; clear n0_ n1_ n2_; (try clear hb); (try clear hb2); (try clear hk); (try clear hi)) | (go_at_call 14; (with_reducible refine (impl_AgreeTrits.calls k3 (rd t143 x20_1) (rd t153 x45_3) t164 _ A35.out).mono ?_); rintro e w45 ⟨rfl, hb⟩; have n0_ := Aside0.mk (Kd.R_below (by (with_reducible repeat (first | apply Kd.R_alloc | apply Kd.R_drewN | apply Kd.R_drew)); exact HO_18.out) hb); have n1_ := Aside0.mk (Kd.R_below (by (with_reducible repeat (first | apply Kd.R_alloc | apply Kd.R_drewN | apply Kd.R_drew)); exact HO_43.out) hb); have n2_ := Aside0.mk (below_step (by repeat (first | (with_reducible first | exact HB.out | apply below_alloc | apply pw_below_drewN | apply below_drew1) | exact HB.out)) hb); clear HO_18; clear HO_43; clear HB; have HO_18 := n0_; have HO_43 := n1_; have HB := n2_; clear n0_ n1_ n2_; (try clear hb); (try clear hb2); (try clear hk); (try clear hi)) | (go_at_call 14; (with_reducible refine (impl_AgreeTrits.calls k3 (wrap64 (-(rd t143 x20_1))) (wrap64 (-(rd t153 x45_3))) t165 _ A36.out).mono ?_); rintro e w46 ⟨rfl, hb⟩; have n0_ := Aside0.mk (Kd.R_below (by (with_reducible repeat (first | apply Kd.R_alloc | apply Kd.R_drewN | apply Kd.R_drew)); exact HO_18.out) hb); have n1_ := Aside0.mk (Kd.R_below (by (with_reducible repeat (first | apply Kd.R_alloc | apply Kd.R_drewN | apply Kd.R_drew)); exact HO_43.out) hb); have n2_ := Aside0.mk (below_step (by repeat (first | (with_reducible first | exact HB.out | apply below_alloc | apply pw_below_drewN | apply below_drew1) | exact HB.out)) hb); clear HO_18; clear HO_43; clear HB; have HO_18 := n0_; have HO_43 := n1_; have HB := n2_; clear n0_ n1_ n2_; (try clear hb); (try clear hb2); (try clear hk); (try clear hi)) | (go_at_call 9; (with_reducible refine (impl_NotTrit.calls t165 t166 _ A37.out).mono ?_); rintro e w' ⟨rfl, ⟨nd, rfl⟩⟩; (try clear A37)) | (go_at_call 15; (with_reducible refine (impl_AnyTrits.calls k3 (rd t143 x20_1) (rd t153 x45_3) t167 _ A39.out).mono ?_); rintro e w47 ⟨rfl, hb⟩; have n0_ := Aside0.mk (Kd.R_below (by (with_reducible repeat (first | apply Kd.R_alloc | apply Kd.R_drewN | apply Kd.R_drew)); exact HO_18.out) hb); have n1_ := Aside0.mk (Kd.R_below (by (with_reducible repeat (first | apply Kd.R_alloc | apply Kd.R_drewN | apply Kd.R_drew)); exact HO_43.out) hb); have n2_ := Aside0.mk (below_step (by repeat (first | (with_reducible first | exact HB.out | apply below_alloc | apply pw_below_drewN | apply below_drew1) | exact HB.out)) hb); clear HO_18; clear HO_43; clear HB; have HO_18 := n0_; have HO_43 := n1_; have HB := n2_; clear n0_ n1_ n2_; (try clear hb); (try clear hb2); (try clear hk); (try clear hi)) | (go_at_call 16; (with_reducible refine (impl_SignOf.calls (wrap64 ((rd t143 x20_1) + (rd t153 x45_3))) t168 _ A40.out).mono ?_); rintro e w' ⟨rfl, ⟨nd, rfl⟩⟩; (try clear A40)) | (go_at_call 17; (with_reducible refine (impl_TimesTrits.calls k3 (rd t143 x20_1) (rd t153 x45_3) t169 _ A42.out).mono ?_); rintro e w48 ⟨rfl, hb⟩; have n0_ := Aside0.mk (Kd.R_below (by (with_reducible repeat (first | apply Kd.R_alloc | apply Kd.R_drewN | apply Kd.R_drew)); exact HO_18.out) hb); have n1_ := Aside0.mk (Kd.R_below (by (with_reducible repeat (first | apply Kd.R_alloc | apply Kd.R_drewN | apply Kd.R_drew)); exact HO_43.out) hb); have n2_ := Aside0.mk (below_step (by repeat (first | (with_reducible first | exact HB.out | apply below_alloc | apply pw_below_drewN | apply below_drew1) | exact HB.out)) hb); clear HO_18; clear HO_43; clear HB; have HO_18 := n0_; have HO_43 := n1_; have HB := n2_; clear n0_ n1_ n2_; (try clear hb); (try clear hb2); (try clear hk); (try clear hi)))
                                        go_meet
                                        case rel => exact ⟨_, ((t169 != (wrap64 ((rd t143 x20_1) * (rd t153 x45_3))))), (by first | rfl | (simp; done) | (simp [*]; done)), H', ⟨by have := HK1.out; have := HJ8.out; have := HK3.out; first | omega | exact Nat.le_refl _⟩, ⟨by (with_reducible repeat (first | apply Kd.R_alloc | apply Kd.R_drewN | apply Kd.R_drew)); exact HO_18.out⟩, ⟨by (with_reducible repeat (first | apply Kd.R_alloc | apply Kd.R_drewN | apply Kd.R_drew)); exact HO_43.out⟩, ⟨by repeat (first | (with_reducible first | exact HB.out | apply below_alloc | apply pw_below_drewN | apply below_drew1) | exact HB.out)⟩⟩
                                      · rw [if_neg c41] at H
                                        have c41b0 : (t167 == t168) = false := beq_eq_false_iff_ne.mpr c41
                                        have c41b1 : (t167 != t168) = true := bne_iff_ne.mpr c41
                                        have H' := Aside0.mk H
                                        clear H
                                        go_wp2_with (first | ((with_reducible refine gate_callee (f := 12) rfl ?_); refine goesL_ (some 57) rfl rfl Try.func12 (by kernel_rfl) rfl #[.int .i64 (rd t143 x20_1), .int .i64 (rd t153 x45_3)] rfl (by (try simp only [List.map_toArray, List.map_cons, List.map_nil]); first | done | rfl | (simp only [List.length_drop, List.length_take]; rfl)) ?_; (with_reducible refine (impl_MinTrits.calls k3 (rd t143 x20_1) (rd t153 x45_3) t159 _ A28.out).mono ?_); rintro e w49 ⟨rfl, hb⟩; refine ⟨_, rfl, ?_⟩; have n0_ := Aside0.mk (Kd.R_below (by (with_reducible repeat (first | apply Kd.R_alloc | apply Kd.R_drewN | apply Kd.R_drew)); exact HO_18.out) hb); have n1_ := Aside0.mk (Kd.R_below (by (with_reducible repeat (first | apply Kd.R_alloc | apply Kd.R_drewN | apply Kd.R_drew)); exact HO_43.out) hb); have n2_ := Aside0.mk (below_step (by repeat (first | (with_reducible first | exact HB.out | apply below_alloc | apply pw_below_drewN | apply below_drew1) | exact HB.out)) hb); clear HO_18; clear HO_43; clear HB; have HO_18 := n0_; have HO_43 := n1_; have HB := n2_; clear n0_ n1_ n2_; (try clear hb); (try clear hb2); (try clear hk); (try clear hi)) | ((with_reducible refine gate_callee (f := 9) rfl ?_); refine goesL_ (some 58) rfl rfl Try.func9 (by kernel_rfl) rfl #[.int .i64 t159] rfl (by (try simp only [List.map_toArray, List.map_cons, List.map_nil]); first | done | rfl | (simp only [List.length_drop, List.length_take]; rfl)) ?_; (with_reducible refine (impl_NotTrit.calls t159 t160 _ A29.out).mono ?_); rintro e w' ⟨rfl, ⟨nd, rfl⟩⟩; refine ⟨_, rfl, ?_⟩; (try clear A29)) | ((with_reducible refine gate_callee (f := 9) rfl ?_); refine goesL_ (some 60) rfl rfl Try.func9 (by kernel_rfl) rfl #[.int .i64 (rd t143 x20_1)] rfl (by (try simp only [List.map_toArray, List.map_cons, List.map_nil]); first | done | rfl | (simp only [List.length_drop, List.length_take]; rfl)) ?_; (with_reducible refine (impl_NotTrit.calls (rd t143 x20_1) t161 _ A30.out).mono ?_); rintro e w' ⟨rfl, ⟨nd, rfl⟩⟩; refine ⟨_, rfl, ?_⟩; (try clear A30)) | ((with_reducible refine gate_callee (f := 9) rfl ?_); refine goesL_ (some 62) rfl rfl Try.func9 (by kernel_rfl) rfl #[.int .i64 (rd t153 x45_3)] rfl (by (try simp only [List.map_toArray, List.map_cons, List.map_nil]); first | done | rfl | (simp only [List.length_drop, List.length_take]; rfl)) ?_; (with_reducible refine (impl_NotTrit.calls (rd t153 x45_3) t162 _ A31.out).mono ?_); rintro e w' ⟨rfl, ⟨nd, rfl⟩⟩; refine ⟨_, rfl, ?_⟩; (try clear A31)) | ((with_reducible refine gate_callee (f := 13) rfl ?_); refine goesL_ (some 63) rfl rfl Try.func13 (by kernel_rfl) rfl #[.int .i64 t161, .int .i64 t162] rfl (by (try simp only [List.map_toArray, List.map_cons, List.map_nil]); first | done | rfl | (simp only [List.length_drop, List.length_take]; rfl)) ?_; (with_reducible refine (impl_MaxTrits.calls k3 t161 t162 t163 _ A32.out).mono ?_); rintro e w50 ⟨rfl, hb⟩; refine ⟨_, rfl, ?_⟩; have n0_ := Aside0.mk (Kd.R_below (by (with_reducible repeat (first | apply Kd.R_alloc | apply Kd.R_drewN | apply Kd.R_drew)); exact HO_18.out) hb); have n1_ := Aside0.mk (Kd.R_below (by (with_reducible repeat (first | apply Kd.R_alloc | apply Kd.R_drewN | apply Kd.R_drew)); exact HO_43.out) hb); have n2_ := Aside0.mk (below_step (by repeat (first | (with_reducible first | exact HB.out | apply below_alloc | apply pw_below_drewN | apply below_drew1) | exact HB.out)) hb); clear HO_18; clear HO_43; clear HB; have HO_18 := n0_; have HO_43 := n1_; have HB := n2_; clear n0_ n1_ n2_; (try clear hb); (try clear hb2); (try clear hk); (try clear hi)) | (go_at_call 14; (with_reducible refine (impl_AgreeTrits.calls k3 (rd t143 x20_1) (rd t153 x45_3) t164 _ A35.out).mono ?_); rintro e w51 ⟨rfl, hb⟩; have n0_ := Aside0.mk (Kd.R_below (by (with_reducible repeat (first | apply Kd.R_alloc | apply Kd.R_drewN | apply Kd.R_drew)); exact HO_18.out) hb); have n1_ := Aside0.mk (Kd.R_below (by (with_reducible repeat (first | apply Kd.R_alloc | apply Kd.R_drewN | apply Kd.R_drew)); exact HO_43.out) hb); have n2_ := Aside0.mk (below_step (by repeat (first | (with_reducible first | exact HB.out | apply below_alloc | apply pw_below_drewN | apply below_drew1) | exact HB.out)) hb); clear HO_18; clear HO_43; clear HB; have HO_18 := n0_; have HO_43 := n1_; have HB := n2_; clear n0_ n1_ n2_; (try clear hb); (try clear hb2); (try clear hk); (try clear hi)) | (go_at_call 14; (with_reducible refine (impl_AgreeTrits.calls k3 (wrap64 (-(rd t143 x20_1))) (wrap64 (-(rd t153 x45_3))) t165 _ A36.out).mono ?_); rintro e w52 ⟨rfl, hb⟩; have n0_ := Aside0.mk (Kd.R_below (by (with_reducible repeat (first | apply Kd.R_alloc | apply Kd.R_drewN | apply Kd.R_drew)); exact HO_18.out) hb); have n1_ := Aside0.mk (Kd.R_below (by (with_reducible repeat (first | apply Kd.R_alloc | apply Kd.R_drewN | apply Kd.R_drew)); exact HO_43.out) hb); have n2_ := Aside0.mk (below_step (by repeat (first | (with_reducible first | exact HB.out | apply below_alloc | apply pw_below_drewN | apply below_drew1) | exact HB.out)) hb); clear HO_18; clear HO_43; clear HB; have HO_18 := n0_; have HO_43 := n1_; have HB := n2_; clear n0_ n1_ n2_; (try clear hb); (try clear hb2); (try clear hk); (try clear hi)) | (go_at_call 9; (with_reducible refine (impl_NotTrit.calls t165 t166 _ A37.out).mono ?_); rintro e w' ⟨rfl, ⟨nd, rfl⟩⟩; (try clear A37)) | (go_at_call 15; (with_reducible refine (impl_AnyTrits.calls k3 (rd t143 x20_1) (rd t153 x45_3) t167 _ A39.out).mono ?_); rintro e w53 ⟨rfl, hb⟩; have n0_ := Aside0.mk (Kd.R_below (by (with_reducible repeat (first | apply Kd.R_alloc | apply Kd.R_drewN | apply Kd.R_drew)); exact HO_18.out) hb); have n1_ := Aside0.mk (Kd.R_below (by (with_reducible repeat (first | apply Kd.R_alloc | apply Kd.R_drewN | apply Kd.R_drew)); exact HO_43.out) hb); have n2_ := Aside0.mk (below_step (by repeat (first | (with_reducible first | exact HB.out | apply below_alloc | apply pw_below_drewN | apply below_drew1) | exact HB.out)) hb); clear HO_18; clear HO_43; clear HB; have HO_18 := n0_; have HO_43 := n1_; have HB := n2_; clear n0_ n1_ n2_; (try clear hb); (try clear hb2); (try clear hk); (try clear hi)) | (go_at_call 16; (with_reducible refine (impl_SignOf.calls (wrap64 ((rd t143 x20_1) + (rd t153 x45_3))) t168 _ A40.out).mono ?_); rintro e w' ⟨rfl, ⟨nd, rfl⟩⟩; (try clear A40)))
                                        go_meet
                                        case rel => exact ⟨_, (true), (by first | rfl | (simp; done) | (simp [*]; done)), H', ⟨by have := HK1.out; have := HJ8.out; have := HK3.out; first | omega | exact Nat.le_refl _⟩, ⟨by (with_reducible repeat (first | apply Kd.R_alloc | apply Kd.R_drewN | apply Kd.R_drew)); exact HO_18.out⟩, ⟨by (with_reducible repeat (first | apply Kd.R_alloc | apply Kd.R_drewN | apply Kd.R_drew)); exact HO_43.out⟩, ⟨by repeat (first | (with_reducible first | exact HB.out | apply below_alloc | apply pw_below_drewN | apply below_drew1) | exact HB.out)⟩⟩
                                    · rw [if_neg c38] at H
                                      have c38b0 : (t164 == t166) = false := beq_eq_false_iff_ne.mpr c38
                                      have c38b1 : (t164 != t166) = true := bne_iff_ne.mpr c38
                                      have H' := Aside0.mk H
                                      clear H
                                      go_wp2_with (first | ((with_reducible refine gate_callee (f := 12) rfl ?_); refine goesL_ (some 57) rfl rfl Try.func12 (by kernel_rfl) rfl #[.int .i64 (rd t143 x20_1), .int .i64 (rd t153 x45_3)] rfl (by (try simp only [List.map_toArray, List.map_cons, List.map_nil]); first | done | rfl | (simp only [List.length_drop, List.length_take]; rfl)) ?_; (with_reducible refine (impl_MinTrits.calls k3 (rd t143 x20_1) (rd t153 x45_3) t159 _ A28.out).mono ?_); rintro e w54 ⟨rfl, hb⟩; refine ⟨_, rfl, ?_⟩; have n0_ := Aside0.mk (Kd.R_below (by (with_reducible repeat (first | apply Kd.R_alloc | apply Kd.R_drewN | apply Kd.R_drew)); exact HO_18.out) hb); have n1_ := Aside0.mk (Kd.R_below (by (with_reducible repeat (first | apply Kd.R_alloc | apply Kd.R_drewN | apply Kd.R_drew)); exact HO_43.out) hb); have n2_ := Aside0.mk (below_step (by repeat (first | (with_reducible first | exact HB.out | apply below_alloc | apply pw_below_drewN | apply below_drew1) | exact HB.out)) hb); clear HO_18; clear HO_43; clear HB; have HO_18 := n0_; have HO_43 := n1_; have HB := n2_; clear n0_ n1_ n2_; (try clear hb); (try clear hb2); (try clear hk); (try clear hi)) | ((with_reducible refine gate_callee (f := 9) rfl ?_); refine goesL_ (some 58) rfl rfl Try.func9 (by kernel_rfl) rfl #[.int .i64 t159] rfl (by (try simp only [List.map_toArray, List.map_cons, List.map_nil]); first | done | rfl | (simp only [List.length_drop, List.length_take]; rfl)) ?_; (with_reducible refine (impl_NotTrit.calls t159 t160 _ A29.out).mono ?_); rintro e w' ⟨rfl, ⟨nd, rfl⟩⟩; refine ⟨_, rfl, ?_⟩; (try clear A29)) | ((with_reducible refine gate_callee (f := 9) rfl ?_); refine goesL_ (some 60) rfl rfl Try.func9 (by kernel_rfl) rfl #[.int .i64 (rd t143 x20_1)] rfl (by (try simp only [List.map_toArray, List.map_cons, List.map_nil]); first | done | rfl | (simp only [List.length_drop, List.length_take]; rfl)) ?_; (with_reducible refine (impl_NotTrit.calls (rd t143 x20_1) t161 _ A30.out).mono ?_); rintro e w' ⟨rfl, ⟨nd, rfl⟩⟩; refine ⟨_, rfl, ?_⟩; (try clear A30)) | ((with_reducible refine gate_callee (f := 9) rfl ?_); refine goesL_ (some 62) rfl rfl Try.func9 (by kernel_rfl) rfl #[.int .i64 (rd t153 x45_3)] rfl (by (try simp only [List.map_toArray, List.map_cons, List.map_nil]); first | done | rfl | (simp only [List.length_drop, List.length_take]; rfl)) ?_; (with_reducible refine (impl_NotTrit.calls (rd t153 x45_3) t162 _ A31.out).mono ?_); rintro e w' ⟨rfl, ⟨nd, rfl⟩⟩; refine ⟨_, rfl, ?_⟩; (try clear A31)) | ((with_reducible refine gate_callee (f := 13) rfl ?_); refine goesL_ (some 63) rfl rfl Try.func13 (by kernel_rfl) rfl #[.int .i64 t161, .int .i64 t162] rfl (by (try simp only [List.map_toArray, List.map_cons, List.map_nil]); first | done | rfl | (simp only [List.length_drop, List.length_take]; rfl)) ?_; (with_reducible refine (impl_MaxTrits.calls k3 t161 t162 t163 _ A32.out).mono ?_); rintro e w55 ⟨rfl, hb⟩; refine ⟨_, rfl, ?_⟩; have n0_ := Aside0.mk (Kd.R_below (by (with_reducible repeat (first | apply Kd.R_alloc | apply Kd.R_drewN | apply Kd.R_drew)); exact HO_18.out) hb); have n1_ := Aside0.mk (Kd.R_below (by (with_reducible repeat (first | apply Kd.R_alloc | apply Kd.R_drewN | apply Kd.R_drew)); exact HO_43.out) hb); have n2_ := Aside0.mk (below_step (by repeat (first | (with_reducible first | exact HB.out | apply below_alloc | apply pw_below_drewN | apply below_drew1) | exact HB.out)) hb); clear HO_18; clear HO_43; clear HB; have HO_18 := n0_; have HO_43 := n1_; have HB := n2_; clear n0_ n1_ n2_; (try clear hb); (try clear hb2); (try clear hk); (try clear hi)) | (go_at_call 14; (with_reducible refine (impl_AgreeTrits.calls k3 (rd t143 x20_1) (rd t153 x45_3) t164 _ A35.out).mono ?_); rintro e w56 ⟨rfl, hb⟩; have n0_ := Aside0.mk (Kd.R_below (by (with_reducible repeat (first | apply Kd.R_alloc | apply Kd.R_drewN | apply Kd.R_drew)); exact HO_18.out) hb); have n1_ := Aside0.mk (Kd.R_below (by (with_reducible repeat (first | apply Kd.R_alloc | apply Kd.R_drewN | apply Kd.R_drew)); exact HO_43.out) hb); have n2_ := Aside0.mk (below_step (by repeat (first | (with_reducible first | exact HB.out | apply below_alloc | apply pw_below_drewN | apply below_drew1) | exact HB.out)) hb); clear HO_18; clear HO_43; clear HB; have HO_18 := n0_; have HO_43 := n1_; have HB := n2_; clear n0_ n1_ n2_; (try clear hb); (try clear hb2); (try clear hk); (try clear hi)) | (go_at_call 14; (with_reducible refine (impl_AgreeTrits.calls k3 (wrap64 (-(rd t143 x20_1))) (wrap64 (-(rd t153 x45_3))) t165 _ A36.out).mono ?_); rintro e w57 ⟨rfl, hb⟩; have n0_ := Aside0.mk (Kd.R_below (by (with_reducible repeat (first | apply Kd.R_alloc | apply Kd.R_drewN | apply Kd.R_drew)); exact HO_18.out) hb); have n1_ := Aside0.mk (Kd.R_below (by (with_reducible repeat (first | apply Kd.R_alloc | apply Kd.R_drewN | apply Kd.R_drew)); exact HO_43.out) hb); have n2_ := Aside0.mk (below_step (by repeat (first | (with_reducible first | exact HB.out | apply below_alloc | apply pw_below_drewN | apply below_drew1) | exact HB.out)) hb); clear HO_18; clear HO_43; clear HB; have HO_18 := n0_; have HO_43 := n1_; have HB := n2_; clear n0_ n1_ n2_; (try clear hb); (try clear hb2); (try clear hk); (try clear hi)) | (go_at_call 9; (with_reducible refine (impl_NotTrit.calls t165 t166 _ A37.out).mono ?_); rintro e w' ⟨rfl, ⟨nd, rfl⟩⟩; (try clear A37)))
                                      go_meet
                                      case rel => exact ⟨_, (true), (by first | rfl | (simp; done) | (simp [*]; done)), H', ⟨by have := HK1.out; have := HJ8.out; have := HK3.out; first | omega | exact Nat.le_refl _⟩, ⟨by (with_reducible repeat (first | apply Kd.R_alloc | apply Kd.R_drewN | apply Kd.R_drew)); exact HO_18.out⟩, ⟨by (with_reducible repeat (first | apply Kd.R_alloc | apply Kd.R_drewN | apply Kd.R_drew)); exact HO_43.out⟩, ⟨by repeat (first | (with_reducible first | exact HB.out | apply below_alloc | apply pw_below_drewN | apply below_drew1) | exact HB.out)⟩⟩
                                  · rw [if_neg c34] at H
                                    have c34b0 : ((wrap64 (t157 + (wrap64 (3 * t158)))) == (wrap64 ((rd t143 x20_1) + (rd t153 x45_3)))) = false := beq_eq_false_iff_ne.mpr c34
                                    have c34b1 : ((wrap64 (t157 + (wrap64 (3 * t158)))) != (wrap64 ((rd t143 x20_1) + (rd t153 x45_3)))) = true := bne_iff_ne.mpr c34
                                    have H' := Aside0.mk H
                                    clear H
                                    go_wp2_with (first | ((with_reducible refine gate_callee (f := 12) rfl ?_); refine goesL_ (some 57) rfl rfl Try.func12 (by kernel_rfl) rfl #[.int .i64 (rd t143 x20_1), .int .i64 (rd t153 x45_3)] rfl (by (try simp only [List.map_toArray, List.map_cons, List.map_nil]); first | done | rfl | (simp only [List.length_drop, List.length_take]; rfl)) ?_; (with_reducible refine (impl_MinTrits.calls k3 (rd t143 x20_1) (rd t153 x45_3) t159 _ A28.out).mono ?_); rintro e w58 ⟨rfl, hb⟩; refine ⟨_, rfl, ?_⟩; have n0_ := Aside0.mk (Kd.R_below (by (with_reducible repeat (first | apply Kd.R_alloc | apply Kd.R_drewN | apply Kd.R_drew)); exact HO_18.out) hb); have n1_ := Aside0.mk (Kd.R_below (by (with_reducible repeat (first | apply Kd.R_alloc | apply Kd.R_drewN | apply Kd.R_drew)); exact HO_43.out) hb); have n2_ := Aside0.mk (below_step (by repeat (first | (with_reducible first | exact HB.out | apply below_alloc | apply pw_below_drewN | apply below_drew1) | exact HB.out)) hb); clear HO_18; clear HO_43; clear HB; have HO_18 := n0_; have HO_43 := n1_; have HB := n2_; clear n0_ n1_ n2_; (try clear hb); (try clear hb2); (try clear hk); (try clear hi)) | ((with_reducible refine gate_callee (f := 9) rfl ?_); refine goesL_ (some 58) rfl rfl Try.func9 (by kernel_rfl) rfl #[.int .i64 t159] rfl (by (try simp only [List.map_toArray, List.map_cons, List.map_nil]); first | done | rfl | (simp only [List.length_drop, List.length_take]; rfl)) ?_; (with_reducible refine (impl_NotTrit.calls t159 t160 _ A29.out).mono ?_); rintro e w' ⟨rfl, ⟨nd, rfl⟩⟩; refine ⟨_, rfl, ?_⟩; (try clear A29)) | ((with_reducible refine gate_callee (f := 9) rfl ?_); refine goesL_ (some 60) rfl rfl Try.func9 (by kernel_rfl) rfl #[.int .i64 (rd t143 x20_1)] rfl (by (try simp only [List.map_toArray, List.map_cons, List.map_nil]); first | done | rfl | (simp only [List.length_drop, List.length_take]; rfl)) ?_; (with_reducible refine (impl_NotTrit.calls (rd t143 x20_1) t161 _ A30.out).mono ?_); rintro e w' ⟨rfl, ⟨nd, rfl⟩⟩; refine ⟨_, rfl, ?_⟩; (try clear A30)) | ((with_reducible refine gate_callee (f := 9) rfl ?_); refine goesL_ (some 62) rfl rfl Try.func9 (by kernel_rfl) rfl #[.int .i64 (rd t153 x45_3)] rfl (by (try simp only [List.map_toArray, List.map_cons, List.map_nil]); first | done | rfl | (simp only [List.length_drop, List.length_take]; rfl)) ?_; (with_reducible refine (impl_NotTrit.calls (rd t153 x45_3) t162 _ A31.out).mono ?_); rintro e w' ⟨rfl, ⟨nd, rfl⟩⟩; refine ⟨_, rfl, ?_⟩; (try clear A31)) | ((with_reducible refine gate_callee (f := 13) rfl ?_); refine goesL_ (some 63) rfl rfl Try.func13 (by kernel_rfl) rfl #[.int .i64 t161, .int .i64 t162] rfl (by (try simp only [List.map_toArray, List.map_cons, List.map_nil]); first | done | rfl | (simp only [List.length_drop, List.length_take]; rfl)) ?_; (with_reducible refine (impl_MaxTrits.calls k3 t161 t162 t163 _ A32.out).mono ?_); rintro e w59 ⟨rfl, hb⟩; refine ⟨_, rfl, ?_⟩; have n0_ := Aside0.mk (Kd.R_below (by (with_reducible repeat (first | apply Kd.R_alloc | apply Kd.R_drewN | apply Kd.R_drew)); exact HO_18.out) hb); have n1_ := Aside0.mk (Kd.R_below (by (with_reducible repeat (first | apply Kd.R_alloc | apply Kd.R_drewN | apply Kd.R_drew)); exact HO_43.out) hb); have n2_ := Aside0.mk (below_step (by repeat (first | (with_reducible first | exact HB.out | apply below_alloc | apply pw_below_drewN | apply below_drew1) | exact HB.out)) hb); clear HO_18; clear HO_43; clear HB; have HO_18 := n0_; have HO_43 := n1_; have HB := n2_; clear n0_ n1_ n2_; (try clear hb); (try clear hb2); (try clear hk); (try clear hi)))
                                    go_meet
                                    case rel => exact ⟨_, (true), (by first | rfl | (simp; done) | (simp [*]; done)), H', ⟨by have := HK1.out; have := HJ8.out; have := HK3.out; first | omega | exact Nat.le_refl _⟩, ⟨by (with_reducible repeat (first | apply Kd.R_alloc | apply Kd.R_drewN | apply Kd.R_drew)); exact HO_18.out⟩, ⟨by (with_reducible repeat (first | apply Kd.R_alloc | apply Kd.R_drewN | apply Kd.R_drew)); exact HO_43.out⟩, ⟨by repeat (first | (with_reducible first | exact HB.out | apply below_alloc | apply pw_below_drewN | apply below_drew1) | exact HB.out)⟩⟩
                                · rw [if_neg c33] at H
                                  have c33b0 : (t160 == t163) = false := beq_eq_false_iff_ne.mpr c33
                                  have c33b1 : (t160 != t163) = true := bne_iff_ne.mpr c33
                                  (first | rw [c33b0] | (simp only [i64_w, i32_w]; rw [c33b0]) | skip)
                                  have H' := Aside0.mk H
                                  clear H
                                  go_wp2_with (first | ((with_reducible refine gate_callee (f := 12) rfl ?_); refine goesL_ (some 57) rfl rfl Try.func12 (by kernel_rfl) rfl #[.int .i64 (rd t143 x20_1), .int .i64 (rd t153 x45_3)] rfl (by (try simp only [List.map_toArray, List.map_cons, List.map_nil]); first | done | rfl | (simp only [List.length_drop, List.length_take]; rfl)) ?_; (with_reducible refine (impl_MinTrits.calls k3 (rd t143 x20_1) (rd t153 x45_3) t159 _ A28.out).mono ?_); rintro e w60 ⟨rfl, hb⟩; refine ⟨_, rfl, ?_⟩; have n0_ := Aside0.mk (Kd.R_below (by (with_reducible repeat (first | apply Kd.R_alloc | apply Kd.R_drewN | apply Kd.R_drew)); exact HO_18.out) hb); have n1_ := Aside0.mk (Kd.R_below (by (with_reducible repeat (first | apply Kd.R_alloc | apply Kd.R_drewN | apply Kd.R_drew)); exact HO_43.out) hb); have n2_ := Aside0.mk (below_step (by repeat (first | (with_reducible first | exact HB.out | apply below_alloc | apply pw_below_drewN | apply below_drew1) | exact HB.out)) hb); clear HO_18; clear HO_43; clear HB; have HO_18 := n0_; have HO_43 := n1_; have HB := n2_; clear n0_ n1_ n2_; (try clear hb); (try clear hb2); (try clear hk); (try clear hi)) | ((with_reducible refine gate_callee (f := 9) rfl ?_); refine goesL_ (some 58) rfl rfl Try.func9 (by kernel_rfl) rfl #[.int .i64 t159] rfl (by (try simp only [List.map_toArray, List.map_cons, List.map_nil]); first | done | rfl | (simp only [List.length_drop, List.length_take]; rfl)) ?_; (with_reducible refine (impl_NotTrit.calls t159 t160 _ A29.out).mono ?_); rintro e w' ⟨rfl, ⟨nd, rfl⟩⟩; refine ⟨_, rfl, ?_⟩; (try clear A29)) | ((with_reducible refine gate_callee (f := 9) rfl ?_); refine goesL_ (some 60) rfl rfl Try.func9 (by kernel_rfl) rfl #[.int .i64 (rd t143 x20_1)] rfl (by (try simp only [List.map_toArray, List.map_cons, List.map_nil]); first | done | rfl | (simp only [List.length_drop, List.length_take]; rfl)) ?_; (with_reducible refine (impl_NotTrit.calls (rd t143 x20_1) t161 _ A30.out).mono ?_); rintro e w' ⟨rfl, ⟨nd, rfl⟩⟩; refine ⟨_, rfl, ?_⟩; (try clear A30)) | ((with_reducible refine gate_callee (f := 9) rfl ?_); refine goesL_ (some 62) rfl rfl Try.func9 (by kernel_rfl) rfl #[.int .i64 (rd t153 x45_3)] rfl (by (try simp only [List.map_toArray, List.map_cons, List.map_nil]); first | done | rfl | (simp only [List.length_drop, List.length_take]; rfl)) ?_; (with_reducible refine (impl_NotTrit.calls (rd t153 x45_3) t162 _ A31.out).mono ?_); rintro e w' ⟨rfl, ⟨nd, rfl⟩⟩; refine ⟨_, rfl, ?_⟩; (try clear A31)) | ((with_reducible refine gate_callee (f := 13) rfl ?_); refine goesL_ (some 63) rfl rfl Try.func13 (by kernel_rfl) rfl #[.int .i64 t161, .int .i64 t162] rfl (by (try simp only [List.map_toArray, List.map_cons, List.map_nil]); first | done | rfl | (simp only [List.length_drop, List.length_take]; rfl)) ?_; (with_reducible refine (impl_MaxTrits.calls k3 t161 t162 t163 _ A32.out).mono ?_); rintro e w61 ⟨rfl, hb⟩; refine ⟨_, rfl, ?_⟩; have n0_ := Aside0.mk (Kd.R_below (by (with_reducible repeat (first | apply Kd.R_alloc | apply Kd.R_drewN | apply Kd.R_drew)); exact HO_18.out) hb); have n1_ := Aside0.mk (Kd.R_below (by (with_reducible repeat (first | apply Kd.R_alloc | apply Kd.R_drewN | apply Kd.R_drew)); exact HO_43.out) hb); have n2_ := Aside0.mk (below_step (by repeat (first | (with_reducible first | exact HB.out | apply below_alloc | apply pw_below_drewN | apply below_drew1) | exact HB.out)) hb); clear HO_18; clear HO_43; clear HB; have HO_18 := n0_; have HO_43 := n1_; have HB := n2_; clear n0_ n1_ n2_; (try clear hb); (try clear hb2); (try clear hk); (try clear hi)))
                                  go_meet
                                  case rel => exact ⟨_, (true), (by first | rfl | (simp; done) | (simp [*]; done)), H', ⟨by have := HK1.out; have := HJ8.out; have := HK3.out; first | omega | exact Nat.le_refl _⟩, ⟨by (with_reducible repeat (first | apply Kd.R_alloc | apply Kd.R_drewN | apply Kd.R_drew)); exact HO_18.out⟩, ⟨by (with_reducible repeat (first | apply Kd.R_alloc | apply Kd.R_drewN | apply Kd.R_drew)); exact HO_43.out⟩, ⟨by repeat (first | (with_reducible first | exact HB.out | apply below_alloc | apply pw_below_drewN | apply below_drew1) | exact HB.out)⟩⟩
                              case rest =>
                                clear HC26
                                try clear c1
                                try clear p1
                                try clear q1
                                try clear hx1
                                try clear c2
                                try clear c2b0
                                try clear c2b1
                                try clear p2
                                try clear c3
                                try clear c4
                                try clear c6
                                try clear c6b0
                                try clear p6
                                try clear c7
                                try clear c7b0
                                try clear c8
                                try clear c8b0
                                try clear c9
                                try clear c11
                                try clear c12
                                try clear c12b0
                                try clear c12b1
                                try clear c13
                                try clear p14
                                try clear q14
                                try clear hx14
                                try clear p15
                                try clear q15
                                try clear hx15
                                try clear c16
                                try clear c16b0
                                try clear c16b1
                                try clear c18
                                try clear c22
                                try clear c22b0
                                try clear c23
                                try clear c23b0
                                try clear c24
                                try clear c24b0
                                try clear c33
                                try clear c33b0
                                try clear c33b1
                                try clear c34
                                try clear c34b0
                                try clear c34b1
                                try clear c38
                                try clear c38b0
                                try clear c38b1
                                try clear c41
                                try clear c41b0
                                try clear c41b1
                                try clear hx146_0
                                try clear hx156_0
                                try clear p1
                                try clear p14
                                try clear p146
                                try clear p156
                                try clear p2
                                try clear q1
                                try clear q14
                                try clear q146
                                try clear q156
                                obtain ⟨kq, x105_25, rfl, HA, HJ25, HO_18, HO_43, HB⟩ := hcut
                                cases kq with
                                | zero => exact absurd HA.out (by simp [laws_FnTrits.j3])
                                | succ kj25 =>
                                  have H := HA.out
                                  clear HA
                                  simp only [laws_FnTrits.j3] at H
                                  by_cases c62 : x105_25 = true
                                  · subst c62
                                    have H1 : (some false) = some r := by rw [if_pos rfl] at H; exact H
                                    clear H
                                    have H := H1
                                    clear H1
                                    obtain rfl := Option.some.inj H
                                    go_wp2
                                    go_ret
                                    exact ⟨by first | rfl | (simp [errW_none, errW_some] <;> rfl) | (simp [*, errW_none, errW_some] <;> rfl), by repeat (first | (with_reducible first | exact HB.out | apply below_alloc | apply pw_below_drewN | apply below_drew1) | exact HB.out)⟩
                                  · replace c62 := Bool.eq_false_iff.mpr c62
                                    subst c62
                                    have H1 : ((laws_trits.f).bind fun t170 => (laws_FnTrits.l2 kj25 l0 (rd t143 x20_1) (rd t153 x45_3) t143 (t143.length : Int) x20_1 t153 (t153.length : Int) x45_3 t170 (t170.length : Int) 0)) = some r := by rw [if_neg (show ¬ (false = true) by decide)] at H; exact H
                                    clear H
                                    have H := H1
                                    clear H1
                                    replace H := Option.bind_eq_some_iff.mp H
                                    obtain ⟨t170, A630, H⟩ := H
                                    replace H : (laws_FnTrits.l2 kj25 l0 (rd t143 x20_1) (rd t153 x45_3) t143 (t143.length : Int) x20_1 t153 (t153.length : Int) x45_3 t170 (t170.length : Int) 0) = some r := H
                                    have A63 := Aside0.mk A630
                                    clear A630
                                    have H' := Aside0.mk H
                                    clear H
                                    go_wp2_with (first | ((with_reducible refine gate_callee (f := 8) rfl ?_); refine goesL_ (some 106) rfl rfl Try.func8 (by kernel_rfl) rfl #[] rfl (by (try simp only [List.map_toArray, List.map_cons, List.map_nil]); first | done | rfl | (simp only [List.length_drop, List.length_take]; rfl)) ?_; (with_reducible refine (laws_trits.calls  t170 _ A63.out).mono ?_); rintro e w64 ⟨v171, rfl, ho0, hb⟩; refine ⟨_, rfl, ?_⟩; have n0_ := Aside0.mk (Kd.R_elder' (by (with_reducible repeat (first | apply Kd.R_alloc | apply Kd.R_drewN | apply Kd.R_drew)); exact HO_18.out) (Kd.R_base ho0) hb); have n1_ := Aside0.mk (Kd.R_elder' (by (with_reducible repeat (first | apply Kd.R_alloc | apply Kd.R_drewN | apply Kd.R_drew)); exact HO_43.out) (Kd.R_base ho0) hb); have n2_ := Aside0.mk (Kd.R_lower (Kd.R_new' (Kd.R_new' ho0 (Kd.R_lt (by (with_reducible repeat (first | apply Kd.R_alloc | apply Kd.R_drewN | apply Kd.R_drew)); exact HO_18.out))) (Kd.R_lt (by (with_reducible repeat (first | apply Kd.R_alloc | apply Kd.R_drewN | apply Kd.R_drew)); exact HO_43.out))) (below_size (by repeat (first | (with_reducible first | exact HB.out | apply below_alloc | apply pw_below_drewN | apply below_drew1) | exact HB.out)))); have n3_ := Aside0.mk (below_step (by repeat (first | (with_reducible first | exact HB.out | apply below_alloc | apply pw_below_drewN | apply below_drew1) | exact HB.out)) hb); clear HO_18; clear HO_43; clear HB; have HO_18 := n0_; have HO_43 := n1_; have HO172 := n2_; have HB := n3_; clear n0_ n1_ n2_ n3_; (try clear hb); (try clear hb2); (try clear hk); (try clear hi); (try clear ho0); obtain ⟨Ao65, co65, eo65⟩ := Kd.R_slice HO172.out; subst eo65))
                                    go_loopg [108] kj25 (fun kq v108 w' => ∃ (x108_5 : Int), v108 = .int .i64 x108_5 ∧ Aside0 (laws_FnTrits.l2 kq l0 (rd t143 x20_1) (rd t153 x45_3) t143 (t143.length : Int) x20_1 t153 (t153.length : Int) x45_3 t170 (t170.length : Int) x108_5 = some r) ∧ Aside0 (kq ≤ kj25) ∧ Aside0 (Kd.R (Kd.int .i64) 3 w' w.heap.size (fun k_ => some k_ ≠ ((.slice (some ad156) t153.length co21) : Value).ownBlock ∧ some k_ ≠ ((.slice Ao65 t170.length co65) : Value).ownBlock) (.slice (some ad146) t143.length co5) t143) ∧ Aside0 (Kd.R (Kd.int .i64) 3 w' w.heap.size (fun k_ => some k_ ≠ ((.slice (some ad146) t143.length co5) : Value).ownBlock ∧ some k_ ≠ ((.slice Ao65 t170.length co65) : Value).ownBlock) (.slice (some ad156) t153.length co21) t153) ∧ Aside0 (Kd.R (Kd.int .i64) 3 w' w.heap.size (fun k_ => some k_ ≠ ((.slice (some ad146) t143.length co5) : Value).ownBlock ∧ some k_ ≠ ((.slice (some ad156) t153.length co21) : Value).ownBlock) (.slice Ao65 t170.length co65) t170) ∧ Aside0 (Below w.heap.size w w'))
                                    case atStart => exact ⟨(0), (by first | rfl | (simp; done) | (simp [*]; done)), H', ⟨Nat.le_refl _⟩, ⟨by (with_reducible repeat (first | apply Kd.R_alloc | apply Kd.R_drewN | apply Kd.R_drew)); exact HO_18.out⟩, ⟨by (with_reducible repeat (first | apply Kd.R_alloc | apply Kd.R_drewN | apply Kd.R_drew)); exact HO_43.out⟩, ⟨by (with_reducible repeat (first | apply Kd.R_alloc | apply Kd.R_drewN | apply Kd.R_drew)); exact Kd.R_mono HO172.out (fun _ hk => ⟨hk.1.2, hk.2⟩)⟩, ⟨by repeat (first | (with_reducible first | exact HB.out | apply below_alloc | apply pw_below_drewN | apply below_drew1) | exact HB.out)⟩⟩
                                    case round =>
                                      clear H'
                                      try clear c1
                                      try clear p1
                                      try clear q1
                                      try clear hx1
                                      try clear c2
                                      try clear c2b0
                                      try clear c2b1
                                      try clear p2
                                      try clear c3
                                      try clear c4
                                      try clear c6
                                      try clear c6b0
                                      try clear p6
                                      try clear c7
                                      try clear c7b0
                                      try clear c8
                                      try clear c8b0
                                      try clear c9
                                      try clear c11
                                      try clear c12
                                      try clear c12b0
                                      try clear c12b1
                                      try clear c13
                                      try clear p14
                                      try clear q14
                                      try clear hx14
                                      try clear p15
                                      try clear q15
                                      try clear hx15
                                      try clear c16
                                      try clear c16b0
                                      try clear c16b1
                                      try clear c18
                                      try clear c22
                                      try clear c22b0
                                      try clear c23
                                      try clear c23b0
                                      try clear c24
                                      try clear c24b0
                                      try clear c33
                                      try clear c33b0
                                      try clear c33b1
                                      try clear c34
                                      try clear c34b0
                                      try clear c34b1
                                      try clear c38
                                      try clear c38b0
                                      try clear c38b1
                                      try clear c41
                                      try clear c41b0
                                      try clear c41b1
                                      try clear c62
                                      try clear p64
                                      try clear hx146_0
                                      try clear hx156_0
                                      try clear p1
                                      try clear p14
                                      try clear p146
                                      try clear p15
                                      try clear p156
                                      try clear p2
                                      try clear p6
                                      try clear q1
                                      try clear q14
                                      try clear q146
                                      try clear q15
                                      try clear q156
                                      obtain ⟨x108_5, rfl, HA, HK5, HO_18, HO_43, HO_106, HB⟩ := hrel
                                      cases gk with
                                      | zero => exact absurd HA.out (by simp [laws_FnTrits.l2])
                                      | succ k5 =>
                                        have H := HA.out
                                        clear HA
                                        simp only [laws_FnTrits.l2] at H
                                        by_cases c66 : x108_5 < (t170.length : Int)
                                        · rw [if_pos c66] at H
                                          have c66b0 : decide (x108_5 < (t170.length : Int)) = true := decide_eq_true c66
                                          clear c66
                                          by_cases c67 : 0 ≤ x108_5
                                          · rw [if_pos c67] at H
                                            have c67b0 : decide (0 ≤ x108_5) = true := decide_eq_true c67
                                            clear c67
                                            by_cases c68 : x108_5 < (t170.length : Int)
                                            · rw [if_pos c68] at H
                                              have c68b0 : decide (x108_5 < (t170.length : Int)) = true := decide_eq_true c68
                                              clear c68
                                              replace H := Option.bind_eq_some_iff.mp H
                                              obtain ⟨⟨t174, t175⟩, A690, H⟩ := H
                                              replace H : ((impl_FullAdd.f k5 (rd t170 x108_5) (rd t143 x20_1) (rd t153 x45_3)).bind fun bt176 => (if (wrap64 (t174 + (wrap64 (3 * t175)))) = (wrap64 ((wrap64 ((rd t143 x20_1) + (rd t153 x45_3))) + (rd t170 x108_5))) then ((impl_IsTrit.f t174).bind fun t178 => (if t178 = true then ((impl_IsTrit.f t175).bind fun t179 => (if t179 = true then (if bt176.1 = t174 then (if bt176.2 = t175 then ((impl_MaxTrits.f k5 (rd t153 x45_3) (rd t170 x108_5)).bind fun t180 => ((impl_MinTrits.f k5 (rd t143 x20_1) t180).bind fun t181 => ((impl_MinTrits.f k5 (rd t143 x20_1) (rd t153 x45_3)).bind fun t182 => ((impl_MinTrits.f k5 (rd t143 x20_1) (rd t170 x108_5)).bind fun t183 => ((impl_MaxTrits.f k5 t182 t183).bind fun t184 => (if t181 = t184 then (laws_FnTrits.l2 k5 l0 (rd t143 x20_1) (rd t153 x45_3) t143 (t143.length : Int) x20_1 t153 (t153.length : Int) x45_3 t170 (t170.length : Int) (wrap64 (x108_5 + 1))) else (some false))))))) else (some false)) else (some false)) else (some false))) else (some false))) else (some false))) = some r := H
                                              have A69 := Aside0.mk A690
                                              clear A690
                                              replace H := Option.bind_eq_some_iff.mp H
                                              obtain ⟨⟨t176, t177⟩, A700, H⟩ := H
                                              replace H : (if (wrap64 (t174 + (wrap64 (3 * t175)))) = (wrap64 ((wrap64 ((rd t143 x20_1) + (rd t153 x45_3))) + (rd t170 x108_5))) then ((impl_IsTrit.f t174).bind fun t178 => (if t178 = true then ((impl_IsTrit.f t175).bind fun t179 => (if t179 = true then (if t176 = t174 then (if t177 = t175 then ((impl_MaxTrits.f k5 (rd t153 x45_3) (rd t170 x108_5)).bind fun t180 => ((impl_MinTrits.f k5 (rd t143 x20_1) t180).bind fun t181 => ((impl_MinTrits.f k5 (rd t143 x20_1) (rd t153 x45_3)).bind fun t182 => ((impl_MinTrits.f k5 (rd t143 x20_1) (rd t170 x108_5)).bind fun t183 => ((impl_MaxTrits.f k5 t182 t183).bind fun t184 => (if t181 = t184 then (laws_FnTrits.l2 k5 l0 (rd t143 x20_1) (rd t153 x45_3) t143 (t143.length : Int) x20_1 t153 (t153.length : Int) x45_3 t170 (t170.length : Int) (wrap64 (x108_5 + 1))) else (some false))))))) else (some false)) else (some false)) else (some false))) else (some false))) else (some false)) = some r := H
                                              have A70 := Aside0.mk A700
                                              clear A700
                                              by_cases c71 : (wrap64 (t174 + (wrap64 (3 * t175)))) = (wrap64 ((wrap64 ((rd t143 x20_1) + (rd t153 x45_3))) + (rd t170 x108_5)))
                                              · rw [if_pos c71] at H
                                                have c71b0 : ((wrap64 (t174 + (wrap64 (3 * t175)))) == (wrap64 ((wrap64 ((rd t143 x20_1) + (rd t153 x45_3))) + (rd t170 x108_5)))) = true := beq_iff_eq.mpr c71
                                                have c71b1 : ((wrap64 (t174 + (wrap64 (3 * t175)))) != (wrap64 ((wrap64 ((rd t143 x20_1) + (rd t153 x45_3))) + (rd t170 x108_5)))) = false := bne_eq_false_iff_eq.mpr c71
                                                clear c71
                                                replace H := Option.bind_eq_some_iff.mp H
                                                obtain ⟨t178, A720, H⟩ := H
                                                replace H : (if t178 = true then ((impl_IsTrit.f t175).bind fun t179 => (if t179 = true then (if t176 = t174 then (if t177 = t175 then ((impl_MaxTrits.f k5 (rd t153 x45_3) (rd t170 x108_5)).bind fun t180 => ((impl_MinTrits.f k5 (rd t143 x20_1) t180).bind fun t181 => ((impl_MinTrits.f k5 (rd t143 x20_1) (rd t153 x45_3)).bind fun t182 => ((impl_MinTrits.f k5 (rd t143 x20_1) (rd t170 x108_5)).bind fun t183 => ((impl_MaxTrits.f k5 t182 t183).bind fun t184 => (if t181 = t184 then (laws_FnTrits.l2 k5 l0 (rd t143 x20_1) (rd t153 x45_3) t143 (t143.length : Int) x20_1 t153 (t153.length : Int) x45_3 t170 (t170.length : Int) (wrap64 (x108_5 + 1))) else (some false))))))) else (some false)) else (some false)) else (some false))) else (some false)) = some r := H
                                                have A72 := Aside0.mk A720
                                                clear A720
                                                by_cases c73 : t178 = true
                                                · subst c73
                                                  have H1 : ((impl_IsTrit.f t175).bind fun t179 => (if t179 = true then (if t176 = t174 then (if t177 = t175 then ((impl_MaxTrits.f k5 (rd t153 x45_3) (rd t170 x108_5)).bind fun t180 => ((impl_MinTrits.f k5 (rd t143 x20_1) t180).bind fun t181 => ((impl_MinTrits.f k5 (rd t143 x20_1) (rd t153 x45_3)).bind fun t182 => ((impl_MinTrits.f k5 (rd t143 x20_1) (rd t170 x108_5)).bind fun t183 => ((impl_MaxTrits.f k5 t182 t183).bind fun t184 => (if t181 = t184 then (laws_FnTrits.l2 k5 l0 (rd t143 x20_1) (rd t153 x45_3) t143 (t143.length : Int) x20_1 t153 (t153.length : Int) x45_3 t170 (t170.length : Int) (wrap64 (x108_5 + 1))) else (some false))))))) else (some false)) else (some false)) else (some false))) = some r := by rw [if_pos rfl] at H; exact H
                                                  clear H
                                                  have H := H1
                                                  clear H1
                                                  replace H := Option.bind_eq_some_iff.mp H
                                                  obtain ⟨t179, A740, H⟩ := H
                                                  replace H : (if t179 = true then (if t176 = t174 then (if t177 = t175 then ((impl_MaxTrits.f k5 (rd t153 x45_3) (rd t170 x108_5)).bind fun t180 => ((impl_MinTrits.f k5 (rd t143 x20_1) t180).bind fun t181 => ((impl_MinTrits.f k5 (rd t143 x20_1) (rd t153 x45_3)).bind fun t182 => ((impl_MinTrits.f k5 (rd t143 x20_1) (rd t170 x108_5)).bind fun t183 => ((impl_MaxTrits.f k5 t182 t183).bind fun t184 => (if t181 = t184 then (laws_FnTrits.l2 k5 l0 (rd t143 x20_1) (rd t153 x45_3) t143 (t143.length : Int) x20_1 t153 (t153.length : Int) x45_3 t170 (t170.length : Int) (wrap64 (x108_5 + 1))) else (some false))))))) else (some false)) else (some false)) else (some false)) = some r := H
                                                  have A74 := Aside0.mk A740
                                                  clear A740
                                                  by_cases c75 : t179 = true
                                                  · subst c75
                                                    have H1 : (if t176 = t174 then (if t177 = t175 then ((impl_MaxTrits.f k5 (rd t153 x45_3) (rd t170 x108_5)).bind fun t180 => ((impl_MinTrits.f k5 (rd t143 x20_1) t180).bind fun t181 => ((impl_MinTrits.f k5 (rd t143 x20_1) (rd t153 x45_3)).bind fun t182 => ((impl_MinTrits.f k5 (rd t143 x20_1) (rd t170 x108_5)).bind fun t183 => ((impl_MaxTrits.f k5 t182 t183).bind fun t184 => (if t181 = t184 then (laws_FnTrits.l2 k5 l0 (rd t143 x20_1) (rd t153 x45_3) t143 (t143.length : Int) x20_1 t153 (t153.length : Int) x45_3 t170 (t170.length : Int) (wrap64 (x108_5 + 1))) else (some false))))))) else (some false)) else (some false)) = some r := by rw [if_pos rfl] at H; exact H
                                                    clear H
                                                    have H := H1
                                                    clear H1
                                                    by_cases c76 : t176 = t174
                                                    · rw [if_pos c76] at H
                                                      have c76b0 : (t176 == t174) = true := beq_iff_eq.mpr c76
                                                      have c76b1 : (t176 != t174) = false := bne_eq_false_iff_eq.mpr c76
                                                      clear c76
                                                      by_cases c77 : t177 = t175
                                                      · rw [if_pos c77] at H
                                                        have c77b0 : (t177 == t175) = true := beq_iff_eq.mpr c77
                                                        have c77b1 : (t177 != t175) = false := bne_eq_false_iff_eq.mpr c77
                                                        clear c77
                                                        replace H := Option.bind_eq_some_iff.mp H
                                                        obtain ⟨t180, A780, H⟩ := H
                                                        replace H : ((impl_MinTrits.f k5 (rd t143 x20_1) t180).bind fun t181 => ((impl_MinTrits.f k5 (rd t143 x20_1) (rd t153 x45_3)).bind fun t182 => ((impl_MinTrits.f k5 (rd t143 x20_1) (rd t170 x108_5)).bind fun t183 => ((impl_MaxTrits.f k5 t182 t183).bind fun t184 => (if t181 = t184 then (laws_FnTrits.l2 k5 l0 (rd t143 x20_1) (rd t153 x45_3) t143 (t143.length : Int) x20_1 t153 (t153.length : Int) x45_3 t170 (t170.length : Int) (wrap64 (x108_5 + 1))) else (some false)))))) = some r := H
                                                        have A78 := Aside0.mk A780
                                                        clear A780
                                                        replace H := Option.bind_eq_some_iff.mp H
                                                        obtain ⟨t181, A790, H⟩ := H
                                                        replace H : ((impl_MinTrits.f k5 (rd t143 x20_1) (rd t153 x45_3)).bind fun t182 => ((impl_MinTrits.f k5 (rd t143 x20_1) (rd t170 x108_5)).bind fun t183 => ((impl_MaxTrits.f k5 t182 t183).bind fun t184 => (if t181 = t184 then (laws_FnTrits.l2 k5 l0 (rd t143 x20_1) (rd t153 x45_3) t143 (t143.length : Int) x20_1 t153 (t153.length : Int) x45_3 t170 (t170.length : Int) (wrap64 (x108_5 + 1))) else (some false))))) = some r := H
                                                        have A79 := Aside0.mk A790
                                                        clear A790
                                                        replace H := Option.bind_eq_some_iff.mp H
                                                        obtain ⟨t182, A800, H⟩ := H
                                                        replace H : ((impl_MinTrits.f k5 (rd t143 x20_1) (rd t170 x108_5)).bind fun t183 => ((impl_MaxTrits.f k5 t182 t183).bind fun t184 => (if t181 = t184 then (laws_FnTrits.l2 k5 l0 (rd t143 x20_1) (rd t153 x45_3) t143 (t143.length : Int) x20_1 t153 (t153.length : Int) x45_3 t170 (t170.length : Int) (wrap64 (x108_5 + 1))) else (some false)))) = some r := H
                                                        have A80 := Aside0.mk A800
                                                        clear A800
                                                        replace H := Option.bind_eq_some_iff.mp H
                                                        obtain ⟨t183, A810, H⟩ := H
                                                        replace H : ((impl_MaxTrits.f k5 t182 t183).bind fun t184 => (if t181 = t184 then (laws_FnTrits.l2 k5 l0 (rd t143 x20_1) (rd t153 x45_3) t143 (t143.length : Int) x20_1 t153 (t153.length : Int) x45_3 t170 (t170.length : Int) (wrap64 (x108_5 + 1))) else (some false))) = some r := H
                                                        have A81 := Aside0.mk A810
                                                        clear A810
                                                        replace H := Option.bind_eq_some_iff.mp H
                                                        obtain ⟨t184, A820, H⟩ := H
                                                        replace H : (if t181 = t184 then (laws_FnTrits.l2 k5 l0 (rd t143 x20_1) (rd t153 x45_3) t143 (t143.length : Int) x20_1 t153 (t153.length : Int) x45_3 t170 (t170.length : Int) (wrap64 (x108_5 + 1))) else (some false)) = some r := H
                                                        have A82 := Aside0.mk A820
                                                        clear A820
                                                        by_cases c83 : t181 = t184
                                                        · rw [if_pos c83] at H
                                                          have c83b0 : (t181 == t184) = true := beq_iff_eq.mpr c83
                                                          have c83b1 : (t181 != t184) = false := bne_eq_false_iff_eq.mpr c83
                                                          clear c83
                                                          have H' := Aside0.mk H
                                                          clear H
                                                          have p173 : 0 ≤ (x108_5 : Int) := of_decide_eq_true (by first | (with_reducible assumption) | assumption)
                                                          have q173 : x108_5 < (t170.length : Int) := of_decide_eq_true (by first | (with_reducible assumption) | assumption)
                                                          obtain ⟨ad173, e173, hx173_0⟩ := Kd.at_int (Kd.R_reads' HO_106.out).2.2 x108_5 p173 q173
                                                          cases e173
                                                          replace p173 := eq_true p173
                                                          replace q173 := eq_true q173
                                                          go_wp2_with (first | ((with_reducible refine gate_callee (f := 18) rfl ?_); refine goesL_ (some 116) rfl rfl Try.func18 (by kernel_rfl) rfl #[.int .i64 (rd t143 x20_1), .int .i64 (rd t153 x45_3), .int .i64 (rd t170 x108_5)] rfl (by (try simp only [List.map_toArray, List.map_cons, List.map_nil]); first | done | rfl | (simp only [List.length_drop, List.length_take]; rfl)) ?_; (with_reducible refine (impl_FullAdd.calls k5 (rd t143 x20_1) (rd t153 x45_3) (rd t170 x108_5) t174 t175 _ A69.out).mono ?_); rintro e w84 ⟨rfl, hb⟩; refine ⟨_, rfl, ?_⟩; have n0_ := Aside0.mk (Kd.R_below (by (with_reducible repeat (first | apply Kd.R_alloc | apply Kd.R_drewN | apply Kd.R_drew)); exact HO_18.out) hb); have n1_ := Aside0.mk (Kd.R_below (by (with_reducible repeat (first | apply Kd.R_alloc | apply Kd.R_drewN | apply Kd.R_drew)); exact HO_43.out) hb); have n2_ := Aside0.mk (Kd.R_below (by (with_reducible repeat (first | apply Kd.R_alloc | apply Kd.R_drewN | apply Kd.R_drew)); exact HO_106.out) hb); have n3_ := Aside0.mk (below_step (by repeat (first | (with_reducible first | exact HB.out | apply below_alloc | apply pw_below_drewN | apply below_drew1) | exact HB.out)) hb); clear HO_18; clear HO_43; clear HO_106; clear HB; have HO_18 := n0_; have HO_43 := n1_; have HO_106 := n2_; have HB := n3_; clear n0_ n1_ n2_ n3_; (try clear hb); (try clear hb2); (try clear hk); (try clear hi)) | ((with_reducible refine gate_callee (f := 18) rfl ?_); refine goesL_ (some 123) rfl rfl Try.func18 (by kernel_rfl) rfl #[.int .i64 (rd t170 x108_5), .int .i64 (rd t143 x20_1), .int .i64 (rd t153 x45_3)] rfl (by (try simp only [List.map_toArray, List.map_cons, List.map_nil]); first | done | rfl | (simp only [List.length_drop, List.length_take]; rfl)) ?_; (with_reducible refine (impl_FullAdd.calls k5 (rd t170 x108_5) (rd t143 x20_1) (rd t153 x45_3) t176 t177 _ A70.out).mono ?_); rintro e w85 ⟨rfl, hb⟩; refine ⟨_, rfl, ?_⟩; have n0_ := Aside0.mk (Kd.R_below (by (with_reducible repeat (first | apply Kd.R_alloc | apply Kd.R_drewN | apply Kd.R_drew)); exact HO_18.out) hb); have n1_ := Aside0.mk (Kd.R_below (by (with_reducible repeat (first | apply Kd.R_alloc | apply Kd.R_drewN | apply Kd.R_drew)); exact HO_43.out) hb); have n2_ := Aside0.mk (Kd.R_below (by (with_reducible repeat (first | apply Kd.R_alloc | apply Kd.R_drewN | apply Kd.R_drew)); exact HO_106.out) hb); have n3_ := Aside0.mk (below_step (by repeat (first | (with_reducible first | exact HB.out | apply below_alloc | apply pw_below_drewN | apply below_drew1) | exact HB.out)) hb); clear HO_18; clear HO_43; clear HO_106; clear HB; have HO_18 := n0_; have HO_43 := n1_; have HO_106 := n2_; have HB := n3_; clear n0_ n1_ n2_ n3_; (try clear hb); (try clear hb2); (try clear hk); (try clear hi)) | (go_at_call 19; (with_reducible refine (impl_IsTrit.calls t174 true _ A72.out).mono ?_); rintro e w' ⟨rfl, ⟨nd, rfl⟩⟩; (try clear A72)) | (go_at_call 19; (with_reducible refine (impl_IsTrit.calls t175 true _ A74.out).mono ?_); rintro e w' ⟨rfl, ⟨nd, rfl⟩⟩; (try clear A74)) | (go_at_call 13; (with_reducible refine (impl_MaxTrits.calls k5 (rd t153 x45_3) (rd t170 x108_5) t180 _ A78.out).mono ?_); rintro e w86 ⟨rfl, hb⟩; have n0_ := Aside0.mk (Kd.R_below (by (with_reducible repeat (first | apply Kd.R_alloc | apply Kd.R_drewN | apply Kd.R_drew)); exact HO_18.out) hb); have n1_ := Aside0.mk (Kd.R_below (by (with_reducible repeat (first | apply Kd.R_alloc | apply Kd.R_drewN | apply Kd.R_drew)); exact HO_43.out) hb); have n2_ := Aside0.mk (Kd.R_below (by (with_reducible repeat (first | apply Kd.R_alloc | apply Kd.R_drewN | apply Kd.R_drew)); exact HO_106.out) hb); have n3_ := Aside0.mk (below_step (by repeat (first | (with_reducible first | exact HB.out | apply below_alloc | apply pw_below_drewN | apply below_drew1) | exact HB.out)) hb); clear HO_18; clear HO_43; clear HO_106; clear HB; have HO_18 := n0_; have HO_43 := n1_; have HO_106 := n2_; have HB := n3_; clear n0_ n1_ n2_ n3_; (try clear hb); (try clear hb2); (try clear hk); (try clear hi)) | (go_at_call 12; (with_reducible refine (impl_MinTrits.calls k5 (rd t143 x20_1) t180 t181 _ A79.out).mono ?_); rintro e w87 ⟨rfl, hb⟩; have n0_ := Aside0.mk (Kd.R_below (by (with_reducible repeat (first | apply Kd.R_alloc | apply Kd.R_drewN | apply Kd.R_drew)); exact HO_18.out) hb); have n1_ := Aside0.mk (Kd.R_below (by (with_reducible repeat (first | apply Kd.R_alloc | apply Kd.R_drewN | apply Kd.R_drew)); exact HO_43.out) hb); have n2_ := Aside0.mk (Kd.R_below (by (with_reducible repeat (first | apply Kd.R_alloc | apply Kd.R_drewN | apply Kd.R_drew)); exact HO_106.out) hb); have n3_ := Aside0.mk (below_step (by repeat (first | (with_reducible first | exact HB.out | apply below_alloc | apply pw_below_drewN | apply below_drew1) | exact HB.out)) hb); clear HO_18; clear HO_43; clear HO_106; clear HB; have HO_18 := n0_; have HO_43 := n1_; have HO_106 := n2_; have HB := n3_; clear n0_ n1_ n2_ n3_; (try clear hb); (try clear hb2); (try clear hk); (try clear hi)) | (go_at_call 12; (with_reducible refine (impl_MinTrits.calls k5 (rd t143 x20_1) (rd t153 x45_3) t182 _ A80.out).mono ?_); rintro e w88 ⟨rfl, hb⟩; have n0_ := Aside0.mk (Kd.R_below (by (with_reducible repeat (first | apply Kd.R_alloc | apply Kd.R_drewN | apply Kd.R_drew)); exact HO_18.out) hb); have n1_ := Aside0.mk (Kd.R_below (by (with_reducible repeat (first | apply Kd.R_alloc | apply Kd.R_drewN | apply Kd.R_drew)); exact HO_43.out) hb); have n2_ := Aside0.mk (Kd.R_below (by (with_reducible repeat (first | apply Kd.R_alloc | apply Kd.R_drewN | apply Kd.R_drew)); exact HO_106.out) hb); have n3_ := Aside0.mk (below_step (by repeat (first | (with_reducible first | exact HB.out | apply below_alloc | apply pw_below_drewN | apply below_drew1) | exact HB.out)) hb); clear HO_18; clear HO_43; clear HO_106; clear HB; have HO_18 := n0_; have HO_43 := n1_; have HO_106 := n2_; have HB := n3_; clear n0_ n1_ n2_ n3_; (try clear hb); (try clear hb2); (try clear hk); (try clear hi)) | (go_at_call 12; (with_reducible refine (impl_MinTrits.calls k5 (rd t143 x20_1) (rd t170 x108_5) t183 _ A81.out).mono ?_); rintro e w89 ⟨rfl, hb⟩; have n0_ := Aside0.mk (Kd.R_below (by (with_reducible repeat (first | apply Kd.R_alloc | apply Kd.R_drewN | apply Kd.R_drew)); exact HO_18.out) hb); have n1_ := Aside0.mk (Kd.R_below (by (with_reducible repeat (first | apply Kd.R_alloc | apply Kd.R_drewN | apply Kd.R_drew)); exact HO_43.out) hb); have n2_ := Aside0.mk (Kd.R_below (by (with_reducible repeat (first | apply Kd.R_alloc | apply Kd.R_drewN | apply Kd.R_drew)); exact HO_106.out) hb); have n3_ := Aside0.mk (below_step (by repeat (first | (with_reducible first | exact HB.out | apply below_alloc | apply pw_below_drewN | apply below_drew1) | exact HB.out)) hb); clear HO_18; clear HO_43; clear HO_106; clear HB; have HO_18 := n0_; have HO_43 := n1_; have HO_106 := n2_; have HB := n3_; clear n0_ n1_ n2_ n3_; (try clear hb); (try clear hb2); (try clear hk); (try clear hi)) | (go_at_call 13; (with_reducible refine (impl_MaxTrits.calls k5 t182 t183 t184 _ A82.out).mono ?_); rintro e w90 ⟨rfl, hb⟩; have n0_ := Aside0.mk (Kd.R_below (by (with_reducible repeat (first | apply Kd.R_alloc | apply Kd.R_drewN | apply Kd.R_drew)); exact HO_18.out) hb); have n1_ := Aside0.mk (Kd.R_below (by (with_reducible repeat (first | apply Kd.R_alloc | apply Kd.R_drewN | apply Kd.R_drew)); exact HO_43.out) hb); have n2_ := Aside0.mk (Kd.R_below (by (with_reducible repeat (first | apply Kd.R_alloc | apply Kd.R_drewN | apply Kd.R_drew)); exact HO_106.out) hb); have n3_ := Aside0.mk (below_step (by repeat (first | (with_reducible first | exact HB.out | apply below_alloc | apply pw_below_drewN | apply below_drew1) | exact HB.out)) hb); clear HO_18; clear HO_43; clear HO_106; clear HB; have HO_18 := n0_; have HO_43 := n1_; have HO_106 := n2_; have HB := n3_; clear n0_ n1_ n2_ n3_; (try clear hb); (try clear hb2); (try clear hk); (try clear hi)))
                                                          go_roundg k5
                                                          case measure => have := HK1.out; have := HJ8.out; have := HK3.out; have := HJ25.out; have := HK5.out; omega
                                                          case rel => exact ⟨(wrap64 (x108_5 + 1)), (by first | rfl | (simp; done) | (simp [*]; done)), H', ⟨by have := HK1.out; have := HJ8.out; have := HK3.out; have := HJ25.out; have := HK5.out; omega⟩, ⟨by (with_reducible repeat (first | apply Kd.R_alloc | apply Kd.R_drewN | apply Kd.R_drew)); exact HO_18.out⟩, ⟨by (with_reducible repeat (first | apply Kd.R_alloc | apply Kd.R_drewN | apply Kd.R_drew)); exact HO_43.out⟩, ⟨by (with_reducible repeat (first | apply Kd.R_alloc | apply Kd.R_drewN | apply Kd.R_drew)); exact HO_106.out⟩, ⟨by repeat (first | (with_reducible first | exact HB.out | apply below_alloc | apply pw_below_drewN | apply below_drew1) | exact HB.out)⟩⟩
                                                        · rw [if_neg c83] at H
                                                          have c83b0 : (t181 == t184) = false := beq_eq_false_iff_ne.mpr c83
                                                          have c83b1 : (t181 != t184) = true := bne_iff_ne.mpr c83
                                                          obtain rfl := Option.some.inj H
                                                          have p173 : 0 ≤ (x108_5 : Int) := of_decide_eq_true (by first | (with_reducible assumption) | assumption)
                                                          have q173 : x108_5 < (t170.length : Int) := of_decide_eq_true (by first | (with_reducible assumption) | assumption)
                                                          obtain ⟨ad173, e173, hx173_0⟩ := Kd.at_int (Kd.R_reads' HO_106.out).2.2 x108_5 p173 q173
                                                          cases e173
                                                          replace p173 := eq_true p173
                                                          replace q173 := eq_true q173
                                                          go_wp2_with (first | ((with_reducible refine gate_callee (f := 18) rfl ?_); refine goesL_ (some 116) rfl rfl Try.func18 (by kernel_rfl) rfl #[.int .i64 (rd t143 x20_1), .int .i64 (rd t153 x45_3), .int .i64 (rd t170 x108_5)] rfl (by (try simp only [List.map_toArray, List.map_cons, List.map_nil]); first | done | rfl | (simp only [List.length_drop, List.length_take]; rfl)) ?_; (with_reducible refine (impl_FullAdd.calls k5 (rd t143 x20_1) (rd t153 x45_3) (rd t170 x108_5) t174 t175 _ A69.out).mono ?_); rintro e w91 ⟨rfl, hb⟩; refine ⟨_, rfl, ?_⟩; have n0_ := Aside0.mk (Kd.R_below (by (with_reducible repeat (first | apply Kd.R_alloc | apply Kd.R_drewN | apply Kd.R_drew)); exact HO_18.out) hb); have n1_ := Aside0.mk (Kd.R_below (by (with_reducible repeat (first | apply Kd.R_alloc | apply Kd.R_drewN | apply Kd.R_drew)); exact HO_43.out) hb); have n2_ := Aside0.mk (Kd.R_below (by (with_reducible repeat (first | apply Kd.R_alloc | apply Kd.R_drewN | apply Kd.R_drew)); exact HO_106.out) hb); have n3_ := Aside0.mk (below_step (by repeat (first | (with_reducible first | exact HB.out | apply below_alloc | apply pw_below_drewN | apply below_drew1) | exact HB.out)) hb); clear HO_18; clear HO_43; clear HO_106; clear HB; have HO_18 := n0_; have HO_43 := n1_; have HO_106 := n2_; have HB := n3_; clear n0_ n1_ n2_ n3_; (try clear hb); (try clear hb2); (try clear hk); (try clear hi)) | ((with_reducible refine gate_callee (f := 18) rfl ?_); refine goesL_ (some 123) rfl rfl Try.func18 (by kernel_rfl) rfl #[.int .i64 (rd t170 x108_5), .int .i64 (rd t143 x20_1), .int .i64 (rd t153 x45_3)] rfl (by (try simp only [List.map_toArray, List.map_cons, List.map_nil]); first | done | rfl | (simp only [List.length_drop, List.length_take]; rfl)) ?_; (with_reducible refine (impl_FullAdd.calls k5 (rd t170 x108_5) (rd t143 x20_1) (rd t153 x45_3) t176 t177 _ A70.out).mono ?_); rintro e w92 ⟨rfl, hb⟩; refine ⟨_, rfl, ?_⟩; have n0_ := Aside0.mk (Kd.R_below (by (with_reducible repeat (first | apply Kd.R_alloc | apply Kd.R_drewN | apply Kd.R_drew)); exact HO_18.out) hb); have n1_ := Aside0.mk (Kd.R_below (by (with_reducible repeat (first | apply Kd.R_alloc | apply Kd.R_drewN | apply Kd.R_drew)); exact HO_43.out) hb); have n2_ := Aside0.mk (Kd.R_below (by (with_reducible repeat (first | apply Kd.R_alloc | apply Kd.R_drewN | apply Kd.R_drew)); exact HO_106.out) hb); have n3_ := Aside0.mk (below_step (by repeat (first | (with_reducible first | exact HB.out | apply below_alloc | apply pw_below_drewN | apply below_drew1) | exact HB.out)) hb); clear HO_18; clear HO_43; clear HO_106; clear HB; have HO_18 := n0_; have HO_43 := n1_; have HO_106 := n2_; have HB := n3_; clear n0_ n1_ n2_ n3_; (try clear hb); (try clear hb2); (try clear hk); (try clear hi)) | (go_at_call 19; (with_reducible refine (impl_IsTrit.calls t174 true _ A72.out).mono ?_); rintro e w' ⟨rfl, ⟨nd, rfl⟩⟩; (try clear A72)) | (go_at_call 19; (with_reducible refine (impl_IsTrit.calls t175 true _ A74.out).mono ?_); rintro e w' ⟨rfl, ⟨nd, rfl⟩⟩; (try clear A74)) | (go_at_call 13; (with_reducible refine (impl_MaxTrits.calls k5 (rd t153 x45_3) (rd t170 x108_5) t180 _ A78.out).mono ?_); rintro e w93 ⟨rfl, hb⟩; have n0_ := Aside0.mk (Kd.R_below (by (with_reducible repeat (first | apply Kd.R_alloc | apply Kd.R_drewN | apply Kd.R_drew)); exact HO_18.out) hb); have n1_ := Aside0.mk (Kd.R_below (by (with_reducible repeat (first | apply Kd.R_alloc | apply Kd.R_drewN | apply Kd.R_drew)); exact HO_43.out) hb); have n2_ := Aside0.mk (Kd.R_below (by (with_reducible repeat (first | apply Kd.R_alloc | apply Kd.R_drewN | apply Kd.R_drew)); exact HO_106.out) hb); have n3_ := Aside0.mk (below_step (by repeat (first | (with_reducible first | exact HB.out | apply below_alloc | apply pw_below_drewN | apply below_drew1) | exact HB.out)) hb); clear HO_18; clear HO_43; clear HO_106; clear HB; have HO_18 := n0_; have HO_43 := n1_; have HO_106 := n2_; have HB := n3_; clear n0_ n1_ n2_ n3_; (try clear hb); (try clear hb2); (try clear hk); (try clear hi)) | (go_at_call 12; (with_reducible refine (impl_MinTrits.calls k5 (rd t143 x20_1) t180 t181 _ A79.out).mono ?_); rintro e w94 ⟨rfl, hb⟩; have n0_ := Aside0.mk (Kd.R_below (by (with_reducible repeat (first | apply Kd.R_alloc | apply Kd.R_drewN | apply Kd.R_drew)); exact HO_18.out) hb); have n1_ := Aside0.mk (Kd.R_below (by (with_reducible repeat (first | apply Kd.R_alloc | apply Kd.R_drewN | apply Kd.R_drew)); exact HO_43.out) hb); have n2_ := Aside0.mk (Kd.R_below (by (with_reducible repeat (first | apply Kd.R_alloc | apply Kd.R_drewN | apply Kd.R_drew)); exact HO_106.out) hb); have n3_ := Aside0.mk (below_step (by repeat (first | (with_reducible first | exact HB.out | apply below_alloc | apply pw_below_drewN | apply below_drew1) | exact HB.out)) hb); clear HO_18; clear HO_43; clear HO_106; clear HB; have HO_18 := n0_; have HO_43 := n1_; have HO_106 := n2_; have HB := n3_; clear n0_ n1_ n2_ n3_; (try clear hb); (try clear hb2); (try clear hk); (try clear hi)) | (go_at_call 12; (with_reducible refine (impl_MinTrits.calls k5 (rd t143 x20_1) (rd t153 x45_3) t182 _ A80.out).mono ?_); rintro e w95 ⟨rfl, hb⟩; have n0_ := Aside0.mk (Kd.R_below (by (with_reducible repeat (first | apply Kd.R_alloc | apply Kd.R_drewN | apply Kd.R_drew)); exact HO_18.out) hb); have n1_ := Aside0.mk (Kd.R_below (by (with_reducible repeat (first | apply Kd.R_alloc | apply Kd.R_drewN | apply Kd.R_drew)); exact HO_43.out) hb); have n2_ := Aside0.mk (Kd.R_below (by (with_reducible repeat (first | apply Kd.R_alloc | apply Kd.R_drewN | apply Kd.R_drew)); exact HO_106.out) hb); have n3_ := Aside0.mk (below_step (by repeat (first | (with_reducible first | exact HB.out | apply below_alloc | apply pw_below_drewN | apply below_drew1) | exact HB.out)) hb); clear HO_18; clear HO_43; clear HO_106; clear HB; have HO_18 := n0_; have HO_43 := n1_; have HO_106 := n2_; have HB := n3_; clear n0_ n1_ n2_ n3_; (try clear hb); (try clear hb2); (try clear hk); (try clear hi)) | (go_at_call 12; (with_reducible refine (impl_MinTrits.calls k5 (rd t143 x20_1) (rd t170 x108_5) t183 _ A81.out).mono ?_); rintro e w96 ⟨rfl, hb⟩; have n0_ := Aside0.mk (Kd.R_below (by (with_reducible repeat (first | apply Kd.R_alloc | apply Kd.R_drewN | apply Kd.R_drew)); exact HO_18.out) hb); have n1_ := Aside0.mk (Kd.R_below (by (with_reducible repeat (first | apply Kd.R_alloc | apply Kd.R_drewN | apply Kd.R_drew)); exact HO_43.out) hb); have n2_ := Aside0.mk (Kd.R_below (by (with_reducible repeat (first | apply Kd.R_alloc | apply Kd.R_drewN | apply Kd.R_drew)); exact HO_106.out) hb); have n3_ := Aside0.mk (below_step (by repeat (first | (with_reducible first | exact HB.out | apply below_alloc | apply pw_below_drewN | apply below_drew1) | exact HB.out)) hb); clear HO_18; clear HO_43; clear HO_106; clear HB; have HO_18 := n0_; have HO_43 := n1_; have HO_106 := n2_; have HB := n3_; clear n0_ n1_ n2_ n3_; (try clear hb); (try clear hb2); (try clear hk); (try clear hi)) | (go_at_call 13; (with_reducible refine (impl_MaxTrits.calls k5 t182 t183 t184 _ A82.out).mono ?_); rintro e w97 ⟨rfl, hb⟩; have n0_ := Aside0.mk (Kd.R_below (by (with_reducible repeat (first | apply Kd.R_alloc | apply Kd.R_drewN | apply Kd.R_drew)); exact HO_18.out) hb); have n1_ := Aside0.mk (Kd.R_below (by (with_reducible repeat (first | apply Kd.R_alloc | apply Kd.R_drewN | apply Kd.R_drew)); exact HO_43.out) hb); have n2_ := Aside0.mk (Kd.R_below (by (with_reducible repeat (first | apply Kd.R_alloc | apply Kd.R_drewN | apply Kd.R_drew)); exact HO_106.out) hb); have n3_ := Aside0.mk (below_step (by repeat (first | (with_reducible first | exact HB.out | apply below_alloc | apply pw_below_drewN | apply below_drew1) | exact HB.out)) hb); clear HO_18; clear HO_43; clear HO_106; clear HB; have HO_18 := n0_; have HO_43 := n1_; have HO_106 := n2_; have HB := n3_; clear n0_ n1_ n2_ n3_; (try clear hb); (try clear hb2); (try clear hk); (try clear hi)))
                                                          go_ret
                                                          exact ⟨by first | rfl | (simp [errW_none, errW_some] <;> rfl) | (simp [*, errW_none, errW_some] <;> rfl), by repeat (first | (with_reducible first | exact HB.out | apply below_alloc | apply pw_below_drewN | apply below_drew1) | exact HB.out)⟩
                                                      · rw [if_neg c77] at H
                                                        have c77b0 : (t177 == t175) = false := beq_eq_false_iff_ne.mpr c77
                                                        have c77b1 : (t177 != t175) = true := bne_iff_ne.mpr c77
                                                        obtain rfl := Option.some.inj H
                                                        have p173 : 0 ≤ (x108_5 : Int) := of_decide_eq_true (by first | (with_reducible assumption) | assumption)
                                                        have q173 : x108_5 < (t170.length : Int) := of_decide_eq_true (by first | (with_reducible assumption) | assumption)
                                                        obtain ⟨ad173, e173, hx173_0⟩ := Kd.at_int (Kd.R_reads' HO_106.out).2.2 x108_5 p173 q173
                                                        cases e173
                                                        replace p173 := eq_true p173
                                                        replace q173 := eq_true q173
                                                        go_wp2_with (first | ((with_reducible refine gate_callee (f := 18) rfl ?_); refine goesL_ (some 116) rfl rfl Try.func18 (by kernel_rfl) rfl #[.int .i64 (rd t143 x20_1), .int .i64 (rd t153 x45_3), .int .i64 (rd t170 x108_5)] rfl (by (try simp only [List.map_toArray, List.map_cons, List.map_nil]); first | done | rfl | (simp only [List.length_drop, List.length_take]; rfl)) ?_; (with_reducible refine (impl_FullAdd.calls k5 (rd t143 x20_1) (rd t153 x45_3) (rd t170 x108_5) t174 t175 _ A69.out).mono ?_); rintro e w98 ⟨rfl, hb⟩; refine ⟨_, rfl, ?_⟩; have n0_ := Aside0.mk (Kd.R_below (by (with_reducible repeat (first | apply Kd.R_alloc | apply Kd.R_drewN | apply Kd.R_drew)); exact HO_18.out) hb); have n1_ := Aside0.mk (Kd.R_below (by (with_reducible repeat (first | apply Kd.R_alloc | apply Kd.R_drewN | apply Kd.R_drew)); exact HO_43.out) hb); have n2_ := Aside0.mk (Kd.R_below (by (with_reducible repeat (first | apply Kd.R_alloc | apply Kd.R_drewN | apply Kd.R_drew)); exact HO_106.out) hb); have n3_ := Aside0.mk (below_step (by repeat (first | (with_reducible first | exact HB.out | apply below_alloc | apply pw_below_drewN | apply below_drew1) | exact HB.out)) hb); clear HO_18; clear HO_43; clear HO_106; clear HB; have HO_18 := n0_; have HO_43 := n1_; have HO_106 := n2_; have HB := n3_; clear n0_ n1_ n2_ n3_; (try clear hb); (try clear hb2); (try clear hk); (try clear hi)) | ((with_reducible refine gate_callee (f := 18) rfl ?_); refine goesL_ (some 123) rfl rfl Try.func18 (by kernel_rfl) rfl #[.int .i64 (rd t170 x108_5), .int .i64 (rd t143 x20_1), .int .i64 (rd t153 x45_3)] rfl (by (try simp only [List.map_toArray, List.map_cons, List.map_nil]); first | done | rfl | (simp only [List.length_drop, List.length_take]; rfl)) ?_; (with_reducible refine (impl_FullAdd.calls k5 (rd t170 x108_5) (rd t143 x20_1) (rd t153 x45_3) t176 t177 _ A70.out).mono ?_); rintro e w99 ⟨rfl, hb⟩; refine ⟨_, rfl, ?_⟩; have n0_ := Aside0.mk (Kd.R_below (by (with_reducible repeat (first | apply Kd.R_alloc | apply Kd.R_drewN | apply Kd.R_drew)); exact HO_18.out) hb); have n1_ := Aside0.mk (Kd.R_below (by (with_reducible repeat (first | apply Kd.R_alloc | apply Kd.R_drewN | apply Kd.R_drew)); exact HO_43.out) hb); have n2_ := Aside0.mk (Kd.R_below (by (with_reducible repeat (first | apply Kd.R_alloc | apply Kd.R_drewN | apply Kd.R_drew)); exact HO_106.out) hb); have n3_ := Aside0.mk (below_step (by repeat (first | (with_reducible first | exact HB.out | apply below_alloc | apply pw_below_drewN | apply below_drew1) | exact HB.out)) hb); clear HO_18; clear HO_43; clear HO_106; clear HB; have HO_18 := n0_; have HO_43 := n1_; have HO_106 := n2_; have HB := n3_; clear n0_ n1_ n2_ n3_; (try clear hb); (try clear hb2); (try clear hk); (try clear hi)) | (go_at_call 19; (with_reducible refine (impl_IsTrit.calls t174 true _ A72.out).mono ?_); rintro e w' ⟨rfl, ⟨nd, rfl⟩⟩; (try clear A72)) | (go_at_call 19; (with_reducible refine (impl_IsTrit.calls t175 true _ A74.out).mono ?_); rintro e w' ⟨rfl, ⟨nd, rfl⟩⟩; (try clear A74)))
                                                        go_ret
                                                        exact ⟨by first | rfl | (simp [errW_none, errW_some] <;> rfl) | (simp [*, errW_none, errW_some] <;> rfl), by repeat (first | (with_reducible first | exact HB.out | apply below_alloc | apply pw_below_drewN | apply below_drew1) | exact HB.out)⟩
                                                    · rw [if_neg c76] at H
                                                      have c76b0 : (t176 == t174) = false := beq_eq_false_iff_ne.mpr c76
                                                      have c76b1 : (t176 != t174) = true := bne_iff_ne.mpr c76
                                                      obtain rfl := Option.some.inj H
                                                      have p173 : 0 ≤ (x108_5 : Int) := of_decide_eq_true (by first | (with_reducible assumption) | assumption)
                                                      have q173 : x108_5 < (t170.length : Int) := of_decide_eq_true (by first | (with_reducible assumption) | assumption)
                                                      obtain ⟨ad173, e173, hx173_0⟩ := Kd.at_int (Kd.R_reads' HO_106.out).2.2 x108_5 p173 q173
                                                      cases e173
                                                      replace p173 := eq_true p173
                                                      replace q173 := eq_true q173
                                                      go_wp2_with (first | ((with_reducible refine gate_callee (f := 18) rfl ?_); refine goesL_ (some 116) rfl rfl Try.func18 (by kernel_rfl) rfl #[.int .i64 (rd t143 x20_1), .int .i64 (rd t153 x45_3), .int .i64 (rd t170 x108_5)] rfl (by (try simp only [List.map_toArray, List.map_cons, List.map_nil]); first | done | rfl | (simp only [List.length_drop, List.length_take]; rfl)) ?_; (with_reducible refine (impl_FullAdd.calls k5 (rd t143 x20_1) (rd t153 x45_3) (rd t170 x108_5) t174 t175 _ A69.out).mono ?_); rintro e w100 ⟨rfl, hb⟩; refine ⟨_, rfl, ?_⟩; have n0_ := Aside0.mk (Kd.R_below (by (with_reducible repeat (first | apply Kd.R_alloc | apply Kd.R_drewN | apply Kd.R_drew)); exact HO_18.out) hb); have n1_ := Aside0.mk (Kd.R_below (by (with_reducible repeat (first | apply Kd.R_alloc | apply Kd.R_drewN | apply Kd.R_drew)); exact HO_43.out) hb); have n2_ := Aside0.mk (Kd.R_below (by (with_reducible repeat (first | apply Kd.R_alloc | apply Kd.R_drewN | apply Kd.R_drew)); exact HO_106.out) hb); have n3_ := Aside0.mk (below_step (by repeat (first | (with_reducible first | exact HB.out | apply below_alloc | apply pw_below_drewN | apply below_drew1) | exact HB.out)) hb); clear HO_18; clear HO_43; clear HO_106; clear HB; have HO_18 := n0_; have HO_43 := n1_; have HO_106 := n2_; have HB := n3_; clear n0_ n1_ n2_ n3_; (try clear hb); (try clear hb2); (try clear hk); (try clear hi)) | ((with_reducible refine gate_callee (f := 18) rfl ?_); refine goesL_ (some 123) rfl rfl Try.func18 (by kernel_rfl) rfl #[.int .i64 (rd t170 x108_5), .int .i64 (rd t143 x20_1), .int .i64 (rd t153 x45_3)] rfl (by (try simp only [List.map_toArray, List.map_cons, List.map_nil]); first | done | rfl | (simp only [List.length_drop, List.length_take]; rfl)) ?_; (with_reducible refine (impl_FullAdd.calls k5 (rd t170 x108_5) (rd t143 x20_1) (rd t153 x45_3) t176 t177 _ A70.out).mono ?_); rintro e w101 ⟨rfl, hb⟩; refine ⟨_, rfl, ?_⟩; have n0_ := Aside0.mk (Kd.R_below (by (with_reducible repeat (first | apply Kd.R_alloc | apply Kd.R_drewN | apply Kd.R_drew)); exact HO_18.out) hb); have n1_ := Aside0.mk (Kd.R_below (by (with_reducible repeat (first | apply Kd.R_alloc | apply Kd.R_drewN | apply Kd.R_drew)); exact HO_43.out) hb); have n2_ := Aside0.mk (Kd.R_below (by (with_reducible repeat (first | apply Kd.R_alloc | apply Kd.R_drewN | apply Kd.R_drew)); exact HO_106.out) hb); have n3_ := Aside0.mk (below_step (by repeat (first | (with_reducible first | exact HB.out | apply below_alloc | apply pw_below_drewN | apply below_drew1) | exact HB.out)) hb); clear HO_18; clear HO_43; clear HO_106; clear HB; have HO_18 := n0_; have HO_43 := n1_; have HO_106 := n2_; have HB := n3_; clear n0_ n1_ n2_ n3_; (try clear hb); (try clear hb2); (try clear hk); (try clear hi)) | (go_at_call 19; (with_reducible refine (impl_IsTrit.calls t174 true _ A72.out).mono ?_); rintro e w' ⟨rfl, ⟨nd, rfl⟩⟩; (try clear A72)) | (go_at_call 19; (with_reducible refine (impl_IsTrit.calls t175 true _ A74.out).mono ?_); rintro e w' ⟨rfl, ⟨nd, rfl⟩⟩; (try clear A74)))
                                                      go_ret
                                                      exact ⟨by first | rfl | (simp [errW_none, errW_some] <;> rfl) | (simp [*, errW_none, errW_some] <;> rfl), by repeat (first | (with_reducible first | exact HB.out | apply below_alloc | apply pw_below_drewN | apply below_drew1) | exact HB.out)⟩
                                                  · replace c75 := Bool.eq_false_iff.mpr c75
                                                    subst c75
                                                    have H1 : (some false) = some r := by rw [if_neg (show ¬ (false = true) by decide)] at H; exact H
                                                    clear H
                                                    have H := H1
                                                    clear H1
                                                    obtain rfl := Option.some.inj H
                                                    have p173 : 0 ≤ (x108_5 : Int) := of_decide_eq_true (by first | (with_reducible assumption) | assumption)
                                                    have q173 : x108_5 < (t170.length : Int) := of_decide_eq_true (by first | (with_reducible assumption) | assumption)
                                                    obtain ⟨ad173, e173, hx173_0⟩ := Kd.at_int (Kd.R_reads' HO_106.out).2.2 x108_5 p173 q173
                                                    cases e173
                                                    replace p173 := eq_true p173
                                                    replace q173 := eq_true q173
                                                    go_wp2_with (first | ((with_reducible refine gate_callee (f := 18) rfl ?_); refine goesL_ (some 116) rfl rfl Try.func18 (by kernel_rfl) rfl #[.int .i64 (rd t143 x20_1), .int .i64 (rd t153 x45_3), .int .i64 (rd t170 x108_5)] rfl (by (try simp only [List.map_toArray, List.map_cons, List.map_nil]); first | done | rfl | (simp only [List.length_drop, List.length_take]; rfl)) ?_; (with_reducible refine (impl_FullAdd.calls k5 (rd t143 x20_1) (rd t153 x45_3) (rd t170 x108_5) t174 t175 _ A69.out).mono ?_); rintro e w102 ⟨rfl, hb⟩; refine ⟨_, rfl, ?_⟩; have n0_ := Aside0.mk (Kd.R_below (by (with_reducible repeat (first | apply Kd.R_alloc | apply Kd.R_drewN | apply Kd.R_drew)); exact HO_18.out) hb); have n1_ := Aside0.mk (Kd.R_below (by (with_reducible repeat (first | apply Kd.R_alloc | apply Kd.R_drewN | apply Kd.R_drew)); exact HO_43.out) hb); have n2_ := Aside0.mk (Kd.R_below (by (with_reducible repeat (first | apply Kd.R_alloc | apply Kd.R_drewN | apply Kd.R_drew)); exact HO_106.out) hb); have n3_ := Aside0.mk (below_step (by repeat (first | (with_reducible first | exact HB.out | apply below_alloc | apply pw_below_drewN | apply below_drew1) | exact HB.out)) hb); clear HO_18; clear HO_43; clear HO_106; clear HB; have HO_18 := n0_; have HO_43 := n1_; have HO_106 := n2_; have HB := n3_; clear n0_ n1_ n2_ n3_; (try clear hb); (try clear hb2); (try clear hk); (try clear hi)) | ((with_reducible refine gate_callee (f := 18) rfl ?_); refine goesL_ (some 123) rfl rfl Try.func18 (by kernel_rfl) rfl #[.int .i64 (rd t170 x108_5), .int .i64 (rd t143 x20_1), .int .i64 (rd t153 x45_3)] rfl (by (try simp only [List.map_toArray, List.map_cons, List.map_nil]); first | done | rfl | (simp only [List.length_drop, List.length_take]; rfl)) ?_; (with_reducible refine (impl_FullAdd.calls k5 (rd t170 x108_5) (rd t143 x20_1) (rd t153 x45_3) t176 t177 _ A70.out).mono ?_); rintro e w103 ⟨rfl, hb⟩; refine ⟨_, rfl, ?_⟩; have n0_ := Aside0.mk (Kd.R_below (by (with_reducible repeat (first | apply Kd.R_alloc | apply Kd.R_drewN | apply Kd.R_drew)); exact HO_18.out) hb); have n1_ := Aside0.mk (Kd.R_below (by (with_reducible repeat (first | apply Kd.R_alloc | apply Kd.R_drewN | apply Kd.R_drew)); exact HO_43.out) hb); have n2_ := Aside0.mk (Kd.R_below (by (with_reducible repeat (first | apply Kd.R_alloc | apply Kd.R_drewN | apply Kd.R_drew)); exact HO_106.out) hb); have n3_ := Aside0.mk (below_step (by repeat (first | (with_reducible first | exact HB.out | apply below_alloc | apply pw_below_drewN | apply below_drew1) | exact HB.out)) hb); clear HO_18; clear HO_43; clear HO_106; clear HB; have HO_18 := n0_; have HO_43 := n1_; have HO_106 := n2_; have HB := n3_; clear n0_ n1_ n2_ n3_; (try clear hb); (try clear hb2); (try clear hk); (try clear hi)) | (go_at_call 19; (with_reducible refine (impl_IsTrit.calls t174 true _ A72.out).mono ?_); rintro e w' ⟨rfl, ⟨nd, rfl⟩⟩; (try clear A72)) | (go_at_call 19; (with_reducible refine (impl_IsTrit.calls t175 false _ A74.out).mono ?_); rintro e w' ⟨rfl, ⟨nd, rfl⟩⟩; (try clear A74)))
                                                    go_ret
                                                    exact ⟨by first | rfl | (simp [errW_none, errW_some] <;> rfl) | (simp [*, errW_none, errW_some] <;> rfl), by repeat (first | (with_reducible first | exact HB.out | apply below_alloc | apply pw_below_drewN | apply below_drew1) | exact HB.out)⟩
                                                · replace c73 := Bool.eq_false_iff.mpr c73
                                                  subst c73
                                                  have H1 : (some false) = some r := by rw [if_neg (show ¬ (false = true) by decide)] at H; exact H
                                                  clear H
                                                  have H := H1
                                                  clear H1
                                                  obtain rfl := Option.some.inj H
                                                  have p173 : 0 ≤ (x108_5 : Int) := of_decide_eq_true (by first | (with_reducible assumption) | assumption)
                                                  have q173 : x108_5 < (t170.length : Int) := of_decide_eq_true (by first | (with_reducible assumption) | assumption)
                                                  obtain ⟨ad173, e173, hx173_0⟩ := Kd.at_int (Kd.R_reads' HO_106.out).2.2 x108_5 p173 q173
                                                  cases e173
                                                  replace p173 := eq_true p173
                                                  replace q173 := eq_true q173
                                                  go_wp2_with (first | ((with_reducible refine gate_callee (f := 18) rfl ?_); refine goesL_ (some 116) rfl rfl Try.func18 (by kernel_rfl) rfl #[.int .i64 (rd t143 x20_1), .int .i64 (rd t153 x45_3), .int .i64 (rd t170 x108_5)] rfl (by (try simp only [List.map_toArray, List.map_cons, List.map_nil]); first | done | rfl | (simp only [List.length_drop, List.length_take]; rfl)) ?_; (with_reducible refine (impl_FullAdd.calls k5 (rd t143 x20_1) (rd t153 x45_3) (rd t170 x108_5) t174 t175 _ A69.out).mono ?_); rintro e w104 ⟨rfl, hb⟩; refine ⟨_, rfl, ?_⟩; have n0_ := Aside0.mk (Kd.R_below (by (with_reducible repeat (first | apply Kd.R_alloc | apply Kd.R_drewN | apply Kd.R_drew)); exact HO_18.out) hb); have n1_ := Aside0.mk (Kd.R_below (by (with_reducible repeat (first | apply Kd.R_alloc | apply Kd.R_drewN | apply Kd.R_drew)); exact HO_43.out) hb); have n2_ := Aside0.mk (Kd.R_below (by (with_reducible repeat (first | apply Kd.R_alloc | apply Kd.R_drewN | apply Kd.R_drew)); exact HO_106.out) hb); have n3_ := Aside0.mk (below_step (by repeat (first | (with_reducible first | exact HB.out | apply below_alloc | apply pw_below_drewN | apply below_drew1) | exact HB.out)) hb); clear HO_18; clear HO_43; clear HO_106; clear HB; have HO_18 := n0_; have HO_43 := n1_; have HO_106 := n2_; have HB := n3_; clear n0_ n1_ n2_ n3_; (try clear hb); (try clear hb2); (try clear hk); (try clear hi)) | ((with_reducible refine gate_callee (f := 18) rfl ?_); refine goesL_ (some 123) rfl rfl Try.func18 (by kernel_rfl) rfl #[.int .i64 (rd t170 x108_5), .int .i64 (rd t143 x20_1), .int .i64 (rd t153 x45_3)] rfl (by (try simp only [List.map_toArray, List.map_cons, List.map_nil]); first | done | rfl | (simp only [List.length_drop, List.length_take]; rfl)) ?_; (with_reducible refine (impl_FullAdd.calls k5 (rd t170 x108_5) (rd t143 x20_1) (rd t153 x45_3) t176 t177 _ A70.out).mono ?_); rintro e w105 ⟨rfl, hb⟩; refine ⟨_, rfl, ?_⟩; have n0_ := Aside0.mk (Kd.R_below (by (with_reducible repeat (first | apply Kd.R_alloc | apply Kd.R_drewN | apply Kd.R_drew)); exact HO_18.out) hb); have n1_ := Aside0.mk (Kd.R_below (by (with_reducible repeat (first | apply Kd.R_alloc | apply Kd.R_drewN | apply Kd.R_drew)); exact HO_43.out) hb); have n2_ := Aside0.mk (Kd.R_below (by (with_reducible repeat (first | apply Kd.R_alloc | apply Kd.R_drewN | apply Kd.R_drew)); exact HO_106.out) hb); have n3_ := Aside0.mk (below_step (by repeat (first | (with_reducible first | exact HB.out | apply below_alloc | apply pw_below_drewN | apply below_drew1) | exact HB.out)) hb); clear HO_18; clear HO_43; clear HO_106; clear HB; have HO_18 := n0_; have HO_43 := n1_; have HO_106 := n2_; have HB := n3_; clear n0_ n1_ n2_ n3_; (try clear hb); (try clear hb2); (try clear hk); (try clear hi)) | (go_at_call 19; (with_reducible refine (impl_IsTrit.calls t174 false _ A72.out).mono ?_); rintro e w' ⟨rfl, ⟨nd, rfl⟩⟩; (try clear A72)))
                                                  go_ret
                                                  exact ⟨by first | rfl | (simp [errW_none, errW_some] <;> rfl) | (simp [*, errW_none, errW_some] <;> rfl), by repeat (first | (with_reducible first | exact HB.out | apply below_alloc | apply pw_below_drewN | apply below_drew1) | exact HB.out)⟩
                                              · rw [if_neg c71] at H
                                                have c71b0 : ((wrap64 (t174 + (wrap64 (3 * t175)))) == (wrap64 ((wrap64 ((rd t143 x20_1) + (rd t153 x45_3))) + (rd t170 x108_5)))) = false := beq_eq_false_iff_ne.mpr c71
                                                have c71b1 : ((wrap64 (t174 + (wrap64 (3 * t175)))) != (wrap64 ((wrap64 ((rd t143 x20_1) + (rd t153 x45_3))) + (rd t170 x108_5)))) = true := bne_iff_ne.mpr c71
                                                obtain rfl := Option.some.inj H
                                                have p173 : 0 ≤ (x108_5 : Int) := of_decide_eq_true (by first | (with_reducible assumption) | assumption)
                                                have q173 : x108_5 < (t170.length : Int) := of_decide_eq_true (by first | (with_reducible assumption) | assumption)
                                                obtain ⟨ad173, e173, hx173_0⟩ := Kd.at_int (Kd.R_reads' HO_106.out).2.2 x108_5 p173 q173
                                                cases e173
                                                replace p173 := eq_true p173
                                                replace q173 := eq_true q173
                                                go_wp2_with (first | ((with_reducible refine gate_callee (f := 18) rfl ?_); refine goesL_ (some 116) rfl rfl Try.func18 (by kernel_rfl) rfl #[.int .i64 (rd t143 x20_1), .int .i64 (rd t153 x45_3), .int .i64 (rd t170 x108_5)] rfl (by (try simp only [List.map_toArray, List.map_cons, List.map_nil]); first | done | rfl | (simp only [List.length_drop, List.length_take]; rfl)) ?_; (with_reducible refine (impl_FullAdd.calls k5 (rd t143 x20_1) (rd t153 x45_3) (rd t170 x108_5) t174 t175 _ A69.out).mono ?_); rintro e w106 ⟨rfl, hb⟩; refine ⟨_, rfl, ?_⟩; have n0_ := Aside0.mk (Kd.R_below (by (with_reducible repeat (first | apply Kd.R_alloc | apply Kd.R_drewN | apply Kd.R_drew)); exact HO_18.out) hb); have n1_ := Aside0.mk (Kd.R_below (by (with_reducible repeat (first | apply Kd.R_alloc | apply Kd.R_drewN | apply Kd.R_drew)); exact HO_43.out) hb); have n2_ := Aside0.mk (Kd.R_below (by (with_reducible repeat (first | apply Kd.R_alloc | apply Kd.R_drewN | apply Kd.R_drew)); exact HO_106.out) hb); have n3_ := Aside0.mk (below_step (by repeat (first | (with_reducible first | exact HB.out | apply below_alloc | apply pw_below_drewN | apply below_drew1) | exact HB.out)) hb); clear HO_18; clear HO_43; clear HO_106; clear HB; have HO_18 := n0_; have HO_43 := n1_; have HO_106 := n2_; have HB := n3_; clear n0_ n1_ n2_ n3_; (try clear hb); (try clear hb2); (try clear hk); (try clear hi)) | ((with_reducible refine gate_callee (f := 18) rfl ?_); refine goesL_ (some 123) rfl rfl Try.func18 (by kernel_rfl) rfl #[.int .i64 (rd t170 x108_5), .int .i64 (rd t143 x20_1), .int .i64 (rd t153 x45_3)] rfl (by (try simp only [List.map_toArray, List.map_cons, List.map_nil]); first | done | rfl | (simp only [List.length_drop, List.length_take]; rfl)) ?_; (with_reducible refine (impl_FullAdd.calls k5 (rd t170 x108_5) (rd t143 x20_1) (rd t153 x45_3) t176 t177 _ A70.out).mono ?_); rintro e w107 ⟨rfl, hb⟩; refine ⟨_, rfl, ?_⟩; have n0_ := Aside0.mk (Kd.R_below (by (with_reducible repeat (first | apply Kd.R_alloc | apply Kd.R_drewN | apply Kd.R_drew)); exact HO_18.out) hb); have n1_ := Aside0.mk (Kd.R_below (by (with_reducible repeat (first | apply Kd.R_alloc | apply Kd.R_drewN | apply Kd.R_drew)); exact HO_43.out) hb); have n2_ := Aside0.mk (Kd.R_below (by (with_reducible repeat (first | apply Kd.R_alloc | apply Kd.R_drewN | apply Kd.R_drew)); exact HO_106.out) hb); have n3_ := Aside0.mk (below_step (by repeat (first | (with_reducible first | exact HB.out | apply below_alloc | apply pw_below_drewN | apply below_drew1) | exact HB.out)) hb); clear HO_18; clear HO_43; clear HO_106; clear HB; have HO_18 := n0_; have HO_43 := n1_; have HO_106 := n2_; have HB := n3_; clear n0_ n1_ n2_ n3_; (try clear hb); (try clear hb2); (try clear hk); (try clear hi)))
                                                go_ret
                                                exact ⟨by first | rfl | (simp [errW_none, errW_some] <;> rfl) | (simp [*, errW_none, errW_some] <;> rfl), by repeat (first | (with_reducible first | exact HB.out | apply below_alloc | apply pw_below_drewN | apply below_drew1) | exact HB.out)⟩
                                            · rw [if_neg c68] at H
                                              exact absurd H (by simp)
                                          · rw [if_neg c67] at H
                                            exact absurd H (by simp)
                                        · rw [if_neg c66] at H
                                          have c66b0 : decide (x108_5 < (t170.length : Int)) = false := decide_eq_false c66
                                          clear c66
                                          have H' := Aside0.mk H
                                          clear H
                                          go_wp2
                                          go_roundg k5
                                          case measure => have := HK1.out; have := HJ8.out; have := HK3.out; have := HJ25.out; have := HK5.out; omega
                                          case rel => exact ⟨(wrap64 (x45_3 + 1)), (by first | rfl | (simp; done) | (simp [*]; done)), H', ⟨by have := HK1.out; have := HJ8.out; have := HK3.out; have := HJ25.out; have := HK5.out; omega⟩, ⟨by (with_reducible repeat (first | apply Kd.R_alloc | apply Kd.R_drewN | apply Kd.R_drew)); exact Kd.R_mono HO_18.out (fun _ hk => hk.1)⟩, ⟨by (with_reducible repeat (first | apply Kd.R_alloc | apply Kd.R_drewN | apply Kd.R_drew)); exact Kd.R_mono HO_43.out (fun _ hk => hk.1)⟩, ⟨by repeat (first | (with_reducible first | exact HB.out | apply below_alloc | apply pw_below_drewN | apply below_drew1) | exact HB.out)⟩⟩
                            · rw [if_neg c24] at H
                              exact absurd H (by simp)
                          · rw [if_neg c23] at H
                            exact absurd H (by simp)
                        · rw [if_neg c22] at H
                          have c22b0 : decide (x45_3 < (t153.length : Int)) = false := decide_eq_false c22
                          clear c22
                          have H' := Aside0.mk H
                          clear H
                          go_wp2
                          go_roundg k3
                          case measure => have := HK1.out; have := HJ8.out; have := HK3.out; omega
                          case rel => exact ⟨(wrap64 (x20_1 + 1)), (by first | rfl | (simp; done) | (simp [*]; done)), H', ⟨by have := HK1.out; have := HJ8.out; have := HK3.out; omega⟩, ⟨by (with_reducible repeat (first | apply Kd.R_alloc | apply Kd.R_drewN | apply Kd.R_drew)); exact Kd.R_mono HO_18.out (fun _ hk => trivial)⟩, ⟨by repeat (first | (with_reducible first | exact HB.out | apply below_alloc | apply pw_below_drewN | apply below_drew1) | exact HB.out)⟩⟩
            · rw [if_neg c8] at H
              exact absurd H (by simp)
          · rw [if_neg c7] at H
            exact absurd H (by simp)
        · rw [if_neg c6] at H
          have c6b0 : decide (x20_1 < (t143.length : Int)) = false := decide_eq_false c6
          clear c6
          obtain rfl := Option.some.inj H
          go_wp2
          go_ret
          exact ⟨by first | rfl | (simp [errW_none, errW_some] <;> rfl) | (simp [*, errW_none, errW_some] <;> rfl), by repeat (first | (with_reducible first | exact HB.out | apply below_alloc | apply pw_below_drewN | apply below_drew1) | exact HB.out)⟩

/-- THE ONE PURE STATEMENT of laws_FnTrits: yours. -/
def laws_FnTrits.Pure : Prop := ∀ (l0 : List Int), l0.length ≤ maxLen → l0.length * 1 ≤ 140737488351232 → (∀ x ∈ l0, (Lit.int .u8 x).wf = true) → ∃ k, laws_FnTrits.f k l0 = some true
theorem laws_FnTrits.walk (P : laws_FnTrits.Pure) (a0 : Option Addr) (len0 cap0 : Nat) (z0 : List Int) (w : World) (w0 : (a0 = none ∧ len0 = 0 ∧ cap0 = 0 ∧ z0 = []) ∨ ∃ x, a0 = some x ∧ len0 ≤ cap0 ∧ cap0 ≤ maxLen ∧ z0.length = cap0 ∧ (∀ i, i < z0.length → w.cell? (x.add i) = some (.int .u8 (z0.getD i 0))) ∧ ∀ n ∈ z0, (Lit.int .u8 n).wf = true) (y0 : len0 * 1 ≤ 140737488351232) :
    Calls Try.prog 3 #[.slice a0 len0 cap0] w fun e w' => e = .returned (.bool true) ∧ Below w.heap.size w w' := by
  obtain ⟨l0, rfl, hr0, hm0, hw0, hc0⟩ := ReadsInt.ofRowC w0
  obtain ⟨k, h⟩ := P l0 hm0 y0 hw0
  refine (laws_FnTrits.calls k _ _ l0 true w (Kd.C_of_reads (d := (0 : Int)) (h1 := fun _ => rfl) hr0) hc0 h).mono ?_
  rintro e w' ⟨rfl, hd⟩
  exact ⟨rfl, hd⟩

end Go.Proofs.Ytaieeaniadgjiaa.QFnTrits
