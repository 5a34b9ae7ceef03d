/- What LookUp answers. Nine numbers. -/
import Derived.Test.YtegknmpphbkgpaaProg
import Derived.Below
import Derived.WalkSpells
import Derived.Deep.Draws
import Derived.Deep.AppendLies
import Derived.Maps.AppendAt
import Derived.OwnWalk
import Derived.Laws.BytesArg
import Derived.Laws.MakeOwn
import Derived.Laws.OwnMore
import Derived.Deep.OwnRows
import Derived.Tactics
import Derived.Lib.ConvBytes
import Derived.Laws.Slices
import Derived.WalkKit
import Derived.KernelRfl
import Derived.RowKit3
import Derived.Deep.LoopGhost
import Derived.Deep.QuietTactic
import Derived.BigQuiet
import Derived.WideLaws
import Derived.Deep.DeepCutAuto
import Derived.Deep.CutBlock
import Derived.Deep.RegionHeld3
import Derived.Laws.Rows
import Derived.Lib.AppendStr
import Derived.ArgAppend
import Derived.Laws.IdiomCopy
import Derived.OrdersHeld
import Derived.Laws.BitsLemmas
import Derived.RowKit
import Derived.Test.YtegknmpphbkgpaaWWords
import Derived.Test.YtegknmpphbkgpaaWLast
import Derived.Test.YtegknmpphbkgpaaWTab
import Derived.Test.YtegknmpphbkgpaaWFour
import Derived.Test.YtegknmpphbkgpaaWQPut
import Derived.Test.YtegknmpphbkgpaaWApart
import Derived.Test.YtegknmpphbkgpaaWArr
import Derived.Test.YtegknmpphbkgpaaWZeros
import Derived.Test.YtegknmpphbkgpaaWFoot
import Derived.Test.YtegknmpphbkgpaaWKept
import Derived.Test.YtegknmpphbkgpaaWShare
import Derived.Test.YtegknmpphbkgpaaWN
import Derived.Test.YtegknmpphbkgpaaWFootNe
import Derived.Test.YtegknmpphbkgpaaWAt
import Derived.Test.YtegknmpphbkgpaaWEqStruct
import Derived.Test.YtegknmpphbkgpaaWRepsOne
import Derived.Test.YtegknmpphbkgpaaWInv
import Derived.Test.YtegknmpphbkgpaaWInvWords
import Derived.Test.YtegknmpphbkgpaaWGuard
import Derived.Test.YtegknmpphbkgpaaWNEv
import Derived.Test.YtegknmpphbkgpaaWMore
import Derived.Test.YtegknmpphbkgpaaHL
set_option linter.unusedVariables false
set_option linter.unusedSimpArgs false
namespace Go.Proofs.Ytegknmpphbkgpaa.HK
open Go.RowKit Go.Proofs.YtegknmpphbkgpaaW.PrintWords Go.Proofs.YtegknmpphbkgpaaW.PrintLast Go.Proofs.YtegknmpphbkgpaaW.PrintMore Go.Proofs.Ytegknmpphbkgpaa.HA Go.Proofs.Ytegknmpphbkgpaa.HL Go.Proofs.Ytegknmpphbkgpaa.PFnExactMapOf
/-- What LookUp answers. -/
def lookL (l : List Int) (a b : Int) : Int := if l.all isT && (isT a && isT b) then gt l (3 * (a + 1) + b + 1).toNat else 0
theorem trit_cases {a : Int} (h : isT a = true) : a = -1 ∨ a = 0 ∨ a = 1 := by
  have := isT_iff.mp h
  omega
theorem iPair (g : World) (a b : Int) : Calls Try.prog 47 #[.slice (some ⟨g.heap.size, 0, none⟩) 2 2] (g.alloc (.cells #[.int .i64 a, .int .i64 b] 3)) fun e w' => e = .returned (.bool (isT a && isT b)) ∧ Drawn0 (g.alloc (.cells #[.int .i64 a, .int .i64 b] 3)) w' := by
  have h := iTrits g.heap.size 3 [a, b] 2 rfl (by omega) _ (Blk.made g 3 [a, b])
  simpa using h
set_option maxHeartbeats 2000000 in
theorem sLookUp (l : List Int) (hl : l.length = 9) (a b : Int) (w : World) :
    Calls Try.prog 18 #[.agg (l.map (Value.int .i64)).toArray, .int .i64 a, .int .i64 b] w fun e w' => e = .returned (.int .i64 (lookL l a b)) ∧ Below w.heap.size w w' := by
  have S0 := Aside0.mk (sIsTable l hl)
  have HL := Aside0.mk hl
  have HI := Aside0.mk (show (Try.prog.info? 24).map (·.size) = some (l.map (Value.int .i64)).toArray.size by rw [info24]; simp [hl])
  have KB := Aside0.mk (Blk.made w 24 l)
  have HB := Aside0.mk (below_alloc (Below.refl w.heap.size w) (Obj.cells (List.map (Value.int IntKind.i64) l).toArray 24))
  clear hl
  by_cases h1 : l.all isT = true
  · by_cases h2 : (isT a && isT b) = true
    · have h3 : isT a = true ∧ isT b = true := by simpa using h2
      have H1 := Aside0.mk h1
      clear h1 h2
      rcases trit_cases h3.1 with rfl | rfl | rfl <;> rcases trit_cases h3.2 with rfl | rfl | rfl
      · have H2 := Aside0.mk (show (isT (-1) && isT (-1)) = true from rfl)
        have HR := Aside0.mk (show lookL l (-1) (-1) = gt l 0 by unfold lookL; rw [H1.out]; rfl)
        clear h3
        go_enter Try.func18, Try.ntmps18
        go_wp2_with (first | refine wpList_load_row rfl 24 _ rfl w.heap.size rfl 24 (l.map (Value.int .i64)).toArray (0, 0) _ KB.out Try.underlying24 rfl HI.out ?_ | (go_at_call 15; refine (S0.out _).mono ?_; rintro e w1 ⟨rfl, hb⟩; have n1 := Aside0.mk (KB.out.below hb); have n2 := Aside0.mk (below_step HB.out hb); clear KB HB hb; have KB := n1; have HB := n2; clear n1 n2; rw [H1.out]) | (go_at_call 48; refine (sTwo _ _ _).mono ?_; rintro e w2 ⟨rfl, ⟨m2, rfl⟩⟩; have n1 := Aside0.mk (KB.out.drewN m2); have n2 := Aside0.mk (pw_below_drewN HB.out m2); clear KB HB; have KB := n1; have HB := n2; clear n1 n2; rw [H2.out]; have c0 := KB.out.cell 0 (by rw [HL.out]; omega)))
        repeat (go_quiet (fail); try go_wp2)
        go_ret
        exact ⟨by rw [HR.out]; rfl, by repeat (first | (with_reducible first | exact HB.out | apply below_alloc | apply pw_below_drewN | apply below_drew1) | exact HB.out)⟩
      · have H2 := Aside0.mk (show (isT (-1) && isT (0)) = true from rfl)
        have HR := Aside0.mk (show lookL l (-1) (0) = gt l 1 by unfold lookL; rw [H1.out]; rfl)
        clear h3
        go_enter Try.func18, Try.ntmps18
        go_wp2_with (first | refine wpList_load_row rfl 24 _ rfl w.heap.size rfl 24 (l.map (Value.int .i64)).toArray (0, 0) _ KB.out Try.underlying24 rfl HI.out ?_ | (go_at_call 15; refine (S0.out _).mono ?_; rintro e w1 ⟨rfl, hb⟩; have n1 := Aside0.mk (KB.out.below hb); have n2 := Aside0.mk (below_step HB.out hb); clear KB HB hb; have KB := n1; have HB := n2; clear n1 n2; rw [H1.out]) | (go_at_call 48; refine (sTwo _ _ _).mono ?_; rintro e w2 ⟨rfl, ⟨m2, rfl⟩⟩; have n1 := Aside0.mk (KB.out.drewN m2); have n2 := Aside0.mk (pw_below_drewN HB.out m2); clear KB HB; have KB := n1; have HB := n2; clear n1 n2; rw [H2.out]; have c1 := KB.out.cell 1 (by rw [HL.out]; omega)))
        repeat (go_quiet (fail); try go_wp2)
        go_ret
        exact ⟨by rw [HR.out]; rfl, by repeat (first | (with_reducible first | exact HB.out | apply below_alloc | apply pw_below_drewN | apply below_drew1) | exact HB.out)⟩
      · have H2 := Aside0.mk (show (isT (-1) && isT (1)) = true from rfl)
        have HR := Aside0.mk (show lookL l (-1) (1) = gt l 2 by unfold lookL; rw [H1.out]; rfl)
        clear h3
        go_enter Try.func18, Try.ntmps18
        go_wp2_with (first | refine wpList_load_row rfl 24 _ rfl w.heap.size rfl 24 (l.map (Value.int .i64)).toArray (0, 0) _ KB.out Try.underlying24 rfl HI.out ?_ | (go_at_call 15; refine (S0.out _).mono ?_; rintro e w1 ⟨rfl, hb⟩; have n1 := Aside0.mk (KB.out.below hb); have n2 := Aside0.mk (below_step HB.out hb); clear KB HB hb; have KB := n1; have HB := n2; clear n1 n2; rw [H1.out]) | (go_at_call 48; refine (sTwo _ _ _).mono ?_; rintro e w2 ⟨rfl, ⟨m2, rfl⟩⟩; have n1 := Aside0.mk (KB.out.drewN m2); have n2 := Aside0.mk (pw_below_drewN HB.out m2); clear KB HB; have KB := n1; have HB := n2; clear n1 n2; rw [H2.out]; have c2 := KB.out.cell 2 (by rw [HL.out]; omega)))
        repeat (go_quiet (fail); try go_wp2)
        go_ret
        exact ⟨by rw [HR.out]; rfl, by repeat (first | (with_reducible first | exact HB.out | apply below_alloc | apply pw_below_drewN | apply below_drew1) | exact HB.out)⟩
      · have H2 := Aside0.mk (show (isT (0) && isT (-1)) = true from rfl)
        have HR := Aside0.mk (show lookL l (0) (-1) = gt l 3 by unfold lookL; rw [H1.out]; rfl)
        clear h3
        go_enter Try.func18, Try.ntmps18
        go_wp2_with (first | refine wpList_load_row rfl 24 _ rfl w.heap.size rfl 24 (l.map (Value.int .i64)).toArray (0, 0) _ KB.out Try.underlying24 rfl HI.out ?_ | (go_at_call 15; refine (S0.out _).mono ?_; rintro e w1 ⟨rfl, hb⟩; have n1 := Aside0.mk (KB.out.below hb); have n2 := Aside0.mk (below_step HB.out hb); clear KB HB hb; have KB := n1; have HB := n2; clear n1 n2; rw [H1.out]) | (go_at_call 48; refine (sTwo _ _ _).mono ?_; rintro e w2 ⟨rfl, ⟨m2, rfl⟩⟩; have n1 := Aside0.mk (KB.out.drewN m2); have n2 := Aside0.mk (pw_below_drewN HB.out m2); clear KB HB; have KB := n1; have HB := n2; clear n1 n2; rw [H2.out]; have c3 := KB.out.cell 3 (by rw [HL.out]; omega)))
        repeat (go_quiet (fail); try go_wp2)
        go_ret
        exact ⟨by rw [HR.out]; rfl, by repeat (first | (with_reducible first | exact HB.out | apply below_alloc | apply pw_below_drewN | apply below_drew1) | exact HB.out)⟩
      · have H2 := Aside0.mk (show (isT (0) && isT (0)) = true from rfl)
        have HR := Aside0.mk (show lookL l (0) (0) = gt l 4 by unfold lookL; rw [H1.out]; rfl)
        clear h3
        go_enter Try.func18, Try.ntmps18
        go_wp2_with (first | refine wpList_load_row rfl 24 _ rfl w.heap.size rfl 24 (l.map (Value.int .i64)).toArray (0, 0) _ KB.out Try.underlying24 rfl HI.out ?_ | (go_at_call 15; refine (S0.out _).mono ?_; rintro e w1 ⟨rfl, hb⟩; have n1 := Aside0.mk (KB.out.below hb); have n2 := Aside0.mk (below_step HB.out hb); clear KB HB hb; have KB := n1; have HB := n2; clear n1 n2; rw [H1.out]) | (go_at_call 48; refine (sTwo _ _ _).mono ?_; rintro e w2 ⟨rfl, ⟨m2, rfl⟩⟩; have n1 := Aside0.mk (KB.out.drewN m2); have n2 := Aside0.mk (pw_below_drewN HB.out m2); clear KB HB; have KB := n1; have HB := n2; clear n1 n2; rw [H2.out]; have c4 := KB.out.cell 4 (by rw [HL.out]; omega)))
        repeat (go_quiet (fail); try go_wp2)
        go_ret
        exact ⟨by rw [HR.out]; rfl, by repeat (first | (with_reducible first | exact HB.out | apply below_alloc | apply pw_below_drewN | apply below_drew1) | exact HB.out)⟩
      · have H2 := Aside0.mk (show (isT (0) && isT (1)) = true from rfl)
        have HR := Aside0.mk (show lookL l (0) (1) = gt l 5 by unfold lookL; rw [H1.out]; rfl)
        clear h3
        go_enter Try.func18, Try.ntmps18
        go_wp2_with (first | refine wpList_load_row rfl 24 _ rfl w.heap.size rfl 24 (l.map (Value.int .i64)).toArray (0, 0) _ KB.out Try.underlying24 rfl HI.out ?_ | (go_at_call 15; refine (S0.out _).mono ?_; rintro e w1 ⟨rfl, hb⟩; have n1 := Aside0.mk (KB.out.below hb); have n2 := Aside0.mk (below_step HB.out hb); clear KB HB hb; have KB := n1; have HB := n2; clear n1 n2; rw [H1.out]) | (go_at_call 48; refine (sTwo _ _ _).mono ?_; rintro e w2 ⟨rfl, ⟨m2, rfl⟩⟩; have n1 := Aside0.mk (KB.out.drewN m2); have n2 := Aside0.mk (pw_below_drewN HB.out m2); clear KB HB; have KB := n1; have HB := n2; clear n1 n2; rw [H2.out]; have c5 := KB.out.cell 5 (by rw [HL.out]; omega)))
        repeat (go_quiet (fail); try go_wp2)
        go_ret
        exact ⟨by rw [HR.out]; rfl, by repeat (first | (with_reducible first | exact HB.out | apply below_alloc | apply pw_below_drewN | apply below_drew1) | exact HB.out)⟩
      · have H2 := Aside0.mk (show (isT (1) && isT (-1)) = true from rfl)
        have HR := Aside0.mk (show lookL l (1) (-1) = gt l 6 by unfold lookL; rw [H1.out]; rfl)
        clear h3
        go_enter Try.func18, Try.ntmps18
        go_wp2_with (first | refine wpList_load_row rfl 24 _ rfl w.heap.size rfl 24 (l.map (Value.int .i64)).toArray (0, 0) _ KB.out Try.underlying24 rfl HI.out ?_ | (go_at_call 15; refine (S0.out _).mono ?_; rintro e w1 ⟨rfl, hb⟩; have n1 := Aside0.mk (KB.out.below hb); have n2 := Aside0.mk (below_step HB.out hb); clear KB HB hb; have KB := n1; have HB := n2; clear n1 n2; rw [H1.out]) | (go_at_call 48; refine (sTwo _ _ _).mono ?_; rintro e w2 ⟨rfl, ⟨m2, rfl⟩⟩; have n1 := Aside0.mk (KB.out.drewN m2); have n2 := Aside0.mk (pw_below_drewN HB.out m2); clear KB HB; have KB := n1; have HB := n2; clear n1 n2; rw [H2.out]; have c6 := KB.out.cell 6 (by rw [HL.out]; omega)))
        repeat (go_quiet (fail); try go_wp2)
        go_ret
        exact ⟨by rw [HR.out]; rfl, by repeat (first | (with_reducible first | exact HB.out | apply below_alloc | apply pw_below_drewN | apply below_drew1) | exact HB.out)⟩
      · have H2 := Aside0.mk (show (isT (1) && isT (0)) = true from rfl)
        have HR := Aside0.mk (show lookL l (1) (0) = gt l 7 by unfold lookL; rw [H1.out]; rfl)
        clear h3
        go_enter Try.func18, Try.ntmps18
        go_wp2_with (first | refine wpList_load_row rfl 24 _ rfl w.heap.size rfl 24 (l.map (Value.int .i64)).toArray (0, 0) _ KB.out Try.underlying24 rfl HI.out ?_ | (go_at_call 15; refine (S0.out _).mono ?_; rintro e w1 ⟨rfl, hb⟩; have n1 := Aside0.mk (KB.out.below hb); have n2 := Aside0.mk (below_step HB.out hb); clear KB HB hb; have KB := n1; have HB := n2; clear n1 n2; rw [H1.out]) | (go_at_call 48; refine (sTwo _ _ _).mono ?_; rintro e w2 ⟨rfl, ⟨m2, rfl⟩⟩; have n1 := Aside0.mk (KB.out.drewN m2); have n2 := Aside0.mk (pw_below_drewN HB.out m2); clear KB HB; have KB := n1; have HB := n2; clear n1 n2; rw [H2.out]; have c7 := KB.out.cell 7 (by rw [HL.out]; omega)))
        repeat (go_quiet (fail); try go_wp2)
        go_ret
        exact ⟨by rw [HR.out]; rfl, by repeat (first | (with_reducible first | exact HB.out | apply below_alloc | apply pw_below_drewN | apply below_drew1) | exact HB.out)⟩
      · have H2 := Aside0.mk (show (isT (1) && isT (1)) = true from rfl)
        have HR := Aside0.mk (show lookL l (1) (1) = gt l 8 by unfold lookL; rw [H1.out]; rfl)
        clear h3
        go_enter Try.func18, Try.ntmps18
        go_wp2_with (first | refine wpList_load_row rfl 24 _ rfl w.heap.size rfl 24 (l.map (Value.int .i64)).toArray (0, 0) _ KB.out Try.underlying24 rfl HI.out ?_ | (go_at_call 15; refine (S0.out _).mono ?_; rintro e w1 ⟨rfl, hb⟩; have n1 := Aside0.mk (KB.out.below hb); have n2 := Aside0.mk (below_step HB.out hb); clear KB HB hb; have KB := n1; have HB := n2; clear n1 n2; rw [H1.out]) | (go_at_call 48; refine (sTwo _ _ _).mono ?_; rintro e w2 ⟨rfl, ⟨m2, rfl⟩⟩; have n1 := Aside0.mk (KB.out.drewN m2); have n2 := Aside0.mk (pw_below_drewN HB.out m2); clear KB HB; have KB := n1; have HB := n2; clear n1 n2; rw [H2.out]; have c8 := KB.out.cell 8 (by rw [HL.out]; omega)))
        repeat (go_quiet (fail); try go_wp2)
        go_ret
        exact ⟨by rw [HR.out]; rfl, by repeat (first | (with_reducible first | exact HB.out | apply below_alloc | apply pw_below_drewN | apply below_drew1) | exact HB.out)⟩
    · have h2' : (isT a && isT b) = false := by simpa using h2
      have H1 := Aside0.mk h1
      have H2 := Aside0.mk h2'
      have HR := Aside0.mk (show lookL l a b = 0 by unfold lookL; rw [h1, h2']; rfl)
      clear h1 h2 h2'
      go_enter Try.func18, Try.ntmps18
      go_wp2_with (first | refine wpList_load_row rfl 24 _ rfl w.heap.size rfl 24 (l.map (Value.int .i64)).toArray (0, 0) _ KB.out Try.underlying24 rfl HI.out ?_ | (go_at_call 15; refine (S0.out _).mono ?_; rintro e w1 ⟨rfl, hb⟩; have n1 := Aside0.mk (KB.out.below hb); have n2 := Aside0.mk (below_step HB.out hb); clear KB HB hb; have KB := n1; have HB := n2; clear n1 n2; rw [H1.out]) | (go_at_call 48; refine (sTwo _ _ _).mono ?_; rintro e w2 ⟨rfl, ⟨m2, rfl⟩⟩; have n1 := Aside0.mk (KB.out.drewN m2); have n2 := Aside0.mk (pw_below_drewN HB.out m2); clear KB HB; have KB := n1; have HB := n2; clear n1 n2; rw [H2.out]))
      repeat (go_quiet (fail); try go_wp2)
      go_ret
      exact ⟨by rw [HR.out]; rfl, by repeat (first | (with_reducible first | exact HB.out | apply below_alloc | apply pw_below_drewN | apply below_drew1) | exact HB.out)⟩
  · have h1' : l.all isT = false := by simpa using h1
    have H1 := Aside0.mk h1'
    have HR := Aside0.mk (show lookL l a b = 0 by unfold lookL; rw [h1']; rfl)
    clear h1 h1'
    go_enter Try.func18, Try.ntmps18
    go_wp2_with (first | refine wpList_load_row rfl 24 _ rfl w.heap.size rfl 24 (l.map (Value.int .i64)).toArray (0, 0) _ KB.out Try.underlying24 rfl HI.out ?_ | (go_at_call 15; refine (S0.out _).mono ?_; rintro e w1 ⟨rfl, hb⟩; have n1 := Aside0.mk (KB.out.below hb); have n2 := Aside0.mk (below_step HB.out hb); clear KB HB hb; have KB := n1; have HB := n2; clear n1 n2; rw [H1.out]) | fail)
    repeat (go_quiet (fail); try go_wp2)
    go_ret
    exact ⟨by rw [HR.out]; rfl, by repeat (first | (with_reducible first | exact HB.out | apply below_alloc | apply pw_below_drewN | apply below_drew1) | exact HB.out)⟩
set_option maxHeartbeats 2000000 in
theorem iLookUp (l : List Int) (hl : l.length = 9) (a b : Int) (w : World) :
    Calls Try.prog 19 #[.agg (l.map (Value.int .i64)).toArray, .int .i64 a, .int .i64 b] w fun e w' => e = .returned (.int .i64 (lookL l a b)) ∧ Below w.heap.size w w' := by
  have S0 := Aside0.mk (iIsTable l hl)
  have HL := Aside0.mk hl
  have HI := Aside0.mk (show (Try.prog.info? 24).map (·.size) = some (l.map (Value.int .i64)).toArray.size by rw [info24]; simp [hl])
  have KB := Aside0.mk (Blk.made w 24 l)
  have HB := Aside0.mk (below_alloc (Below.refl w.heap.size w) (Obj.cells (List.map (Value.int IntKind.i64) l).toArray 24))
  clear hl
  by_cases h1 : l.all isT = true
  · by_cases h2 : (isT a && isT b) = true
    · have h3 : isT a = true ∧ isT b = true := by simpa using h2
      have H1 := Aside0.mk h1
      clear h1 h2
      rcases trit_cases h3.1 with rfl | rfl | rfl <;> rcases trit_cases h3.2 with rfl | rfl | rfl
      · have H2 := Aside0.mk (show (isT (-1) && isT (-1)) = true from rfl)
        have HR := Aside0.mk (show lookL l (-1) (-1) = gt l 0 by unfold lookL; rw [H1.out]; rfl)
        clear h3
        go_enter Try.func19, Try.ntmps19
        go_wp2_with (first | refine wpList_load_row rfl 24 _ rfl w.heap.size rfl 24 (l.map (Value.int .i64)).toArray (0, 0) _ KB.out Try.underlying24 rfl HI.out ?_ | (go_at_call 17; refine (S0.out _).mono ?_; rintro e w1 ⟨rfl, hb⟩; have n1 := Aside0.mk (KB.out.below hb); have n2 := Aside0.mk (below_step HB.out hb); clear KB HB hb; have KB := n1; have HB := n2; clear n1 n2; rw [H1.out]) | (go_at_call 47; refine (iPair _ _ _).mono ?_; rintro e w2 ⟨rfl, ⟨m2, rfl⟩⟩; have n1 := Aside0.mk ((KB.out.alloc (.cells #[.int .i64 (-1), .int .i64 (-1)] 3)).drewN m2); have n2 := Aside0.mk (pw_below_drewN (below_alloc HB.out (.cells #[.int .i64 (-1), .int .i64 (-1)] 3)) m2); clear KB HB; have KB := n1; have HB := n2; clear n1 n2; rw [H2.out]; have c0 := KB.out.cell 0 (by rw [HL.out]; omega)))
        repeat (go_quiet (fail); try go_wp2)
        go_ret
        exact ⟨by rw [HR.out]; rfl, by repeat (first | (with_reducible first | exact HB.out | apply below_alloc | apply pw_below_drewN | apply below_drew1) | exact HB.out)⟩
      · have H2 := Aside0.mk (show (isT (-1) && isT (0)) = true from rfl)
        have HR := Aside0.mk (show lookL l (-1) (0) = gt l 1 by unfold lookL; rw [H1.out]; rfl)
        clear h3
        go_enter Try.func19, Try.ntmps19
        go_wp2_with (first | refine wpList_load_row rfl 24 _ rfl w.heap.size rfl 24 (l.map (Value.int .i64)).toArray (0, 0) _ KB.out Try.underlying24 rfl HI.out ?_ | (go_at_call 17; refine (S0.out _).mono ?_; rintro e w1 ⟨rfl, hb⟩; have n1 := Aside0.mk (KB.out.below hb); have n2 := Aside0.mk (below_step HB.out hb); clear KB HB hb; have KB := n1; have HB := n2; clear n1 n2; rw [H1.out]) | (go_at_call 47; refine (iPair _ _ _).mono ?_; rintro e w2 ⟨rfl, ⟨m2, rfl⟩⟩; have n1 := Aside0.mk ((KB.out.alloc (.cells #[.int .i64 (-1), .int .i64 (0)] 3)).drewN m2); have n2 := Aside0.mk (pw_below_drewN (below_alloc HB.out (.cells #[.int .i64 (-1), .int .i64 (0)] 3)) m2); clear KB HB; have KB := n1; have HB := n2; clear n1 n2; rw [H2.out]; have c1 := KB.out.cell 1 (by rw [HL.out]; omega)))
        repeat (go_quiet (fail); try go_wp2)
        go_ret
        exact ⟨by rw [HR.out]; rfl, by repeat (first | (with_reducible first | exact HB.out | apply below_alloc | apply pw_below_drewN | apply below_drew1) | exact HB.out)⟩
      · have H2 := Aside0.mk (show (isT (-1) && isT (1)) = true from rfl)
        have HR := Aside0.mk (show lookL l (-1) (1) = gt l 2 by unfold lookL; rw [H1.out]; rfl)
        clear h3
        go_enter Try.func19, Try.ntmps19
        go_wp2_with (first | refine wpList_load_row rfl 24 _ rfl w.heap.size rfl 24 (l.map (Value.int .i64)).toArray (0, 0) _ KB.out Try.underlying24 rfl HI.out ?_ | (go_at_call 17; refine (S0.out _).mono ?_; rintro e w1 ⟨rfl, hb⟩; have n1 := Aside0.mk (KB.out.below hb); have n2 := Aside0.mk (below_step HB.out hb); clear KB HB hb; have KB := n1; have HB := n2; clear n1 n2; rw [H1.out]) | (go_at_call 47; refine (iPair _ _ _).mono ?_; rintro e w2 ⟨rfl, ⟨m2, rfl⟩⟩; have n1 := Aside0.mk ((KB.out.alloc (.cells #[.int .i64 (-1), .int .i64 (1)] 3)).drewN m2); have n2 := Aside0.mk (pw_below_drewN (below_alloc HB.out (.cells #[.int .i64 (-1), .int .i64 (1)] 3)) m2); clear KB HB; have KB := n1; have HB := n2; clear n1 n2; rw [H2.out]; have c2 := KB.out.cell 2 (by rw [HL.out]; omega)))
        repeat (go_quiet (fail); try go_wp2)
        go_ret
        exact ⟨by rw [HR.out]; rfl, by repeat (first | (with_reducible first | exact HB.out | apply below_alloc | apply pw_below_drewN | apply below_drew1) | exact HB.out)⟩
      · have H2 := Aside0.mk (show (isT (0) && isT (-1)) = true from rfl)
        have HR := Aside0.mk (show lookL l (0) (-1) = gt l 3 by unfold lookL; rw [H1.out]; rfl)
        clear h3
        go_enter Try.func19, Try.ntmps19
        go_wp2_with (first | refine wpList_load_row rfl 24 _ rfl w.heap.size rfl 24 (l.map (Value.int .i64)).toArray (0, 0) _ KB.out Try.underlying24 rfl HI.out ?_ | (go_at_call 17; refine (S0.out _).mono ?_; rintro e w1 ⟨rfl, hb⟩; have n1 := Aside0.mk (KB.out.below hb); have n2 := Aside0.mk (below_step HB.out hb); clear KB HB hb; have KB := n1; have HB := n2; clear n1 n2; rw [H1.out]) | (go_at_call 47; refine (iPair _ _ _).mono ?_; rintro e w2 ⟨rfl, ⟨m2, rfl⟩⟩; have n1 := Aside0.mk ((KB.out.alloc (.cells #[.int .i64 (0), .int .i64 (-1)] 3)).drewN m2); have n2 := Aside0.mk (pw_below_drewN (below_alloc HB.out (.cells #[.int .i64 (0), .int .i64 (-1)] 3)) m2); clear KB HB; have KB := n1; have HB := n2; clear n1 n2; rw [H2.out]; have c3 := KB.out.cell 3 (by rw [HL.out]; omega)))
        repeat (go_quiet (fail); try go_wp2)
        go_ret
        exact ⟨by rw [HR.out]; rfl, by repeat (first | (with_reducible first | exact HB.out | apply below_alloc | apply pw_below_drewN | apply below_drew1) | exact HB.out)⟩
      · have H2 := Aside0.mk (show (isT (0) && isT (0)) = true from rfl)
        have HR := Aside0.mk (show lookL l (0) (0) = gt l 4 by unfold lookL; rw [H1.out]; rfl)
        clear h3
        go_enter Try.func19, Try.ntmps19
        go_wp2_with (first | refine wpList_load_row rfl 24 _ rfl w.heap.size rfl 24 (l.map (Value.int .i64)).toArray (0, 0) _ KB.out Try.underlying24 rfl HI.out ?_ | (go_at_call 17; refine (S0.out _).mono ?_; rintro e w1 ⟨rfl, hb⟩; have n1 := Aside0.mk (KB.out.below hb); have n2 := Aside0.mk (below_step HB.out hb); clear KB HB hb; have KB := n1; have HB := n2; clear n1 n2; rw [H1.out]) | (go_at_call 47; refine (iPair _ _ _).mono ?_; rintro e w2 ⟨rfl, ⟨m2, rfl⟩⟩; have n1 := Aside0.mk ((KB.out.alloc (.cells #[.int .i64 (0), .int .i64 (0)] 3)).drewN m2); have n2 := Aside0.mk (pw_below_drewN (below_alloc HB.out (.cells #[.int .i64 (0), .int .i64 (0)] 3)) m2); clear KB HB; have KB := n1; have HB := n2; clear n1 n2; rw [H2.out]; have c4 := KB.out.cell 4 (by rw [HL.out]; omega)))
        repeat (go_quiet (fail); try go_wp2)
        go_ret
        exact ⟨by rw [HR.out]; rfl, by repeat (first | (with_reducible first | exact HB.out | apply below_alloc | apply pw_below_drewN | apply below_drew1) | exact HB.out)⟩
      · have H2 := Aside0.mk (show (isT (0) && isT (1)) = true from rfl)
        have HR := Aside0.mk (show lookL l (0) (1) = gt l 5 by unfold lookL; rw [H1.out]; rfl)
        clear h3
        go_enter Try.func19, Try.ntmps19
        go_wp2_with (first | refine wpList_load_row rfl 24 _ rfl w.heap.size rfl 24 (l.map (Value.int .i64)).toArray (0, 0) _ KB.out Try.underlying24 rfl HI.out ?_ | (go_at_call 17; refine (S0.out _).mono ?_; rintro e w1 ⟨rfl, hb⟩; have n1 := Aside0.mk (KB.out.below hb); have n2 := Aside0.mk (below_step HB.out hb); clear KB HB hb; have KB := n1; have HB := n2; clear n1 n2; rw [H1.out]) | (go_at_call 47; refine (iPair _ _ _).mono ?_; rintro e w2 ⟨rfl, ⟨m2, rfl⟩⟩; have n1 := Aside0.mk ((KB.out.alloc (.cells #[.int .i64 (0), .int .i64 (1)] 3)).drewN m2); have n2 := Aside0.mk (pw_below_drewN (below_alloc HB.out (.cells #[.int .i64 (0), .int .i64 (1)] 3)) m2); clear KB HB; have KB := n1; have HB := n2; clear n1 n2; rw [H2.out]; have c5 := KB.out.cell 5 (by rw [HL.out]; omega)))
        repeat (go_quiet (fail); try go_wp2)
        go_ret
        exact ⟨by rw [HR.out]; rfl, by repeat (first | (with_reducible first | exact HB.out | apply below_alloc | apply pw_below_drewN | apply below_drew1) | exact HB.out)⟩
      · have H2 := Aside0.mk (show (isT (1) && isT (-1)) = true from rfl)
        have HR := Aside0.mk (show lookL l (1) (-1) = gt l 6 by unfold lookL; rw [H1.out]; rfl)
        clear h3
        go_enter Try.func19, Try.ntmps19
        go_wp2_with (first | refine wpList_load_row rfl 24 _ rfl w.heap.size rfl 24 (l.map (Value.int .i64)).toArray (0, 0) _ KB.out Try.underlying24 rfl HI.out ?_ | (go_at_call 17; refine (S0.out _).mono ?_; rintro e w1 ⟨rfl, hb⟩; have n1 := Aside0.mk (KB.out.below hb); have n2 := Aside0.mk (below_step HB.out hb); clear KB HB hb; have KB := n1; have HB := n2; clear n1 n2; rw [H1.out]) | (go_at_call 47; refine (iPair _ _ _).mono ?_; rintro e w2 ⟨rfl, ⟨m2, rfl⟩⟩; have n1 := Aside0.mk ((KB.out.alloc (.cells #[.int .i64 (1), .int .i64 (-1)] 3)).drewN m2); have n2 := Aside0.mk (pw_below_drewN (below_alloc HB.out (.cells #[.int .i64 (1), .int .i64 (-1)] 3)) m2); clear KB HB; have KB := n1; have HB := n2; clear n1 n2; rw [H2.out]; have c6 := KB.out.cell 6 (by rw [HL.out]; omega)))
        repeat (go_quiet (fail); try go_wp2)
        go_ret
        exact ⟨by rw [HR.out]; rfl, by repeat (first | (with_reducible first | exact HB.out | apply below_alloc | apply pw_below_drewN | apply below_drew1) | exact HB.out)⟩
      · have H2 := Aside0.mk (show (isT (1) && isT (0)) = true from rfl)
        have HR := Aside0.mk (show lookL l (1) (0) = gt l 7 by unfold lookL; rw [H1.out]; rfl)
        clear h3
        go_enter Try.func19, Try.ntmps19
        go_wp2_with (first | refine wpList_load_row rfl 24 _ rfl w.heap.size rfl 24 (l.map (Value.int .i64)).toArray (0, 0) _ KB.out Try.underlying24 rfl HI.out ?_ | (go_at_call 17; refine (S0.out _).mono ?_; rintro e w1 ⟨rfl, hb⟩; have n1 := Aside0.mk (KB.out.below hb); have n2 := Aside0.mk (below_step HB.out hb); clear KB HB hb; have KB := n1; have HB := n2; clear n1 n2; rw [H1.out]) | (go_at_call 47; refine (iPair _ _ _).mono ?_; rintro e w2 ⟨rfl, ⟨m2, rfl⟩⟩; have n1 := Aside0.mk ((KB.out.alloc (.cells #[.int .i64 (1), .int .i64 (0)] 3)).drewN m2); have n2 := Aside0.mk (pw_below_drewN (below_alloc HB.out (.cells #[.int .i64 (1), .int .i64 (0)] 3)) m2); clear KB HB; have KB := n1; have HB := n2; clear n1 n2; rw [H2.out]; have c7 := KB.out.cell 7 (by rw [HL.out]; omega)))
        repeat (go_quiet (fail); try go_wp2)
        go_ret
        exact ⟨by rw [HR.out]; rfl, by repeat (first | (with_reducible first | exact HB.out | apply below_alloc | apply pw_below_drewN | apply below_drew1) | exact HB.out)⟩
      · have H2 := Aside0.mk (show (isT (1) && isT (1)) = true from rfl)
        have HR := Aside0.mk (show lookL l (1) (1) = gt l 8 by unfold lookL; rw [H1.out]; rfl)
        clear h3
        go_enter Try.func19, Try.ntmps19
        go_wp2_with (first | refine wpList_load_row rfl 24 _ rfl w.heap.size rfl 24 (l.map (Value.int .i64)).toArray (0, 0) _ KB.out Try.underlying24 rfl HI.out ?_ | (go_at_call 17; refine (S0.out _).mono ?_; rintro e w1 ⟨rfl, hb⟩; have n1 := Aside0.mk (KB.out.below hb); have n2 := Aside0.mk (below_step HB.out hb); clear KB HB hb; have KB := n1; have HB := n2; clear n1 n2; rw [H1.out]) | (go_at_call 47; refine (iPair _ _ _).mono ?_; rintro e w2 ⟨rfl, ⟨m2, rfl⟩⟩; have n1 := Aside0.mk ((KB.out.alloc (.cells #[.int .i64 (1), .int .i64 (1)] 3)).drewN m2); have n2 := Aside0.mk (pw_below_drewN (below_alloc HB.out (.cells #[.int .i64 (1), .int .i64 (1)] 3)) m2); clear KB HB; have KB := n1; have HB := n2; clear n1 n2; rw [H2.out]; have c8 := KB.out.cell 8 (by rw [HL.out]; omega)))
        repeat (go_quiet (fail); try go_wp2)
        go_ret
        exact ⟨by rw [HR.out]; rfl, by repeat (first | (with_reducible first | exact HB.out | apply below_alloc | apply pw_below_drewN | apply below_drew1) | exact HB.out)⟩
    · have h2' : (isT a && isT b) = false := by simpa using h2
      have H1 := Aside0.mk h1
      have H2 := Aside0.mk h2'
      have HR := Aside0.mk (show lookL l a b = 0 by unfold lookL; rw [h1, h2']; rfl)
      clear h1 h2 h2'
      go_enter Try.func19, Try.ntmps19
      go_wp2_with (first | refine wpList_load_row rfl 24 _ rfl w.heap.size rfl 24 (l.map (Value.int .i64)).toArray (0, 0) _ KB.out Try.underlying24 rfl HI.out ?_ | (go_at_call 17; refine (S0.out _).mono ?_; rintro e w1 ⟨rfl, hb⟩; have n1 := Aside0.mk (KB.out.below hb); have n2 := Aside0.mk (below_step HB.out hb); clear KB HB hb; have KB := n1; have HB := n2; clear n1 n2; rw [H1.out]) | (go_at_call 47; refine (iPair _ _ _).mono ?_; rintro e w2 ⟨rfl, ⟨m2, rfl⟩⟩; have n1 := Aside0.mk ((KB.out.alloc (.cells #[.int .i64 a, .int .i64 b] 3)).drewN m2); have n2 := Aside0.mk (pw_below_drewN (below_alloc HB.out (.cells #[.int .i64 a, .int .i64 b] 3)) m2); clear KB HB; have KB := n1; have HB := n2; clear n1 n2; rw [H2.out]))
      repeat (go_quiet (fail); try go_wp2)
      go_ret
      exact ⟨by rw [HR.out]; rfl, by repeat (first | (with_reducible first | exact HB.out | apply below_alloc | apply pw_below_drewN | apply below_drew1) | exact HB.out)⟩
  · have h1' : l.all isT = false := by simpa using h1
    have H1 := Aside0.mk h1'
    have HR := Aside0.mk (show lookL l a b = 0 by unfold lookL; rw [h1']; rfl)
    clear h1 h1'
    go_enter Try.func19, Try.ntmps19
    go_wp2_with (first | refine wpList_load_row rfl 24 _ rfl w.heap.size rfl 24 (l.map (Value.int .i64)).toArray (0, 0) _ KB.out Try.underlying24 rfl HI.out ?_ | (go_at_call 17; refine (S0.out _).mono ?_; rintro e w1 ⟨rfl, hb⟩; have n1 := Aside0.mk (KB.out.below hb); have n2 := Aside0.mk (below_step HB.out hb); clear KB HB hb; have KB := n1; have HB := n2; clear n1 n2; rw [H1.out]) | fail)
    repeat (go_quiet (fail); try go_wp2)
    go_ret
    exact ⟨by rw [HR.out]; rfl, by repeat (first | (with_reducible first | exact HB.out | apply below_alloc | apply pw_below_drewN | apply below_drew1) | exact HB.out)⟩
end Go.Proofs.Ytegknmpphbkgpaa.HK
