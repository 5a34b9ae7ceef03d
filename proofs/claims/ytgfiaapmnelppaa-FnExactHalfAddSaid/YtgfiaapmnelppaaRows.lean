/-
  No cell of these rows narrows 'for every input' (looked for: loops, veiled, ifaces, maps, wideKeys, modest, calm, conditions, laid).
  DERIVED. THE GIVEN ROWS OF THIS SEAT. 12 by the template 'for every input the law returns true; each argument reads behind the call as it read before'; 0 by the template 'total and deterministic' (their statements: YtgfiaapmnelppaaTotals.lean).
  GIVEN WITH THE SEED: the statements are not yours to turn. If you find one false, say at which input.
  Laid BY PROGRAM, IN A SANDBOX (cutbox-rows.mjs): the forced cells as the released guide's own fill.sh prints them over the translation 41aff7e9d7e4c50b… (all of the seat's roots in one cut). By AI agents, Wed Nov 11 2026. No macro, syntax, notation, axiom, sorry.
-/
import Derived.Test.YtgfiaapmnelppaaChecked
import GoSem.Claim
import GoSem.ClaimJoined
import GoSem.ClaimMapViews
import Derived.JoinedTies
import Derived.KernelRfl
namespace Go.Proofs.Ytgfiaapmnelppaa
/- THE CELL 'sum', in the pinned program and in every row, IS THE sha256 OF THE DUMP (.gsa) THAT YtgfiaapmnelppaaProg.lean LOADS. Nothing in Lean hashes anything: it is a label: what it is worth is what the hold of that sum in a sandbox is worth. -/
noncomputable def Try.pinned : Pinned := { name := "ytgfiaapmnelppaa", sum := "41aff7e9d7e4c50b3979aa02e6368ef70f6a1c26027c02e84308210a8b832bdf", checked := Try.checked }
namespace Rows
def none {H : Type} : Left H := { results := [], args := [] }

/-- 'laws.FnExactConstants': WHATEVER THE INPUT: true; the input reads as it did. -/
def fnExactConstantsSpec : ChangeSpec := { name := "fnExactConstants", fn := fun _ => fun
  | [] => { results := [.lit (.bool true)], args := [] }
  | _ => none }
def fnExactConstantsRow : OpenClaim := { program := "ytgfiaapmnelppaa", sum := "41aff7e9d7e4c50b3979aa02e6368ef70f6a1c26027c02e84308210a8b832bdf", func := "loop.example/g03225/laws.FnExactConstants", spec := "fnExactConstants", apart := false }
def FnExactConstantsSaid : Prop := fnExactConstantsRow.holds Try.pinned (OpenSpec.ofChange fnExactConstantsSpec)

/-- ITS FALSE NEIGHBOUR: 'it returns false'. Refute it at one input. -/
def fnExactConstantsWrong : ChangeSpec := { name := "fnExactConstants", fn := fun _ => fun
  | [] => { results := [.lit (.bool false)], args := [] }
  | _ => none }
def FnExactConstantsWrongFalsely : Prop := fnExactConstantsRow.holds Try.pinned (OpenSpec.ofChange fnExactConstantsWrong)

/-- 'laws.FnExactIsTrit': WHATEVER THE INPUT: true; the input reads as it did. -/
def fnExactIsTritSpec : ChangeSpec := { name := "fnExactIsTrit", fn := fun _ => fun
  | [d] => { results := [.lit (.bool true)], args := [d] }
  | _ => none }
def fnExactIsTritRow : OpenClaim := { program := "ytgfiaapmnelppaa", sum := "41aff7e9d7e4c50b3979aa02e6368ef70f6a1c26027c02e84308210a8b832bdf", func := "loop.example/g03225/laws.FnExactIsTrit", spec := "fnExactIsTrit", apart := false }
def FnExactIsTritSaid : Prop := fnExactIsTritRow.holds Try.pinned (OpenSpec.ofChange fnExactIsTritSpec)

/-- ITS FALSE NEIGHBOUR: 'it returns false'. Refute it at one input. -/
def fnExactIsTritWrong : ChangeSpec := { name := "fnExactIsTrit", fn := fun _ => fun
  | [d] => { results := [.lit (.bool false)], args := [d] }
  | _ => none }
def FnExactIsTritWrongFalsely : Prop := fnExactIsTritRow.holds Try.pinned (OpenSpec.ofChange fnExactIsTritWrong)

/-- 'laws.FnExactNotTrit': WHATEVER THE INPUT: true; the input reads as it did. -/
def fnExactNotTritSpec : ChangeSpec := { name := "fnExactNotTrit", fn := fun _ => fun
  | [d] => { results := [.lit (.bool true)], args := [d] }
  | _ => none }
def fnExactNotTritRow : OpenClaim := { program := "ytgfiaapmnelppaa", sum := "41aff7e9d7e4c50b3979aa02e6368ef70f6a1c26027c02e84308210a8b832bdf", func := "loop.example/g03225/laws.FnExactNotTrit", spec := "fnExactNotTrit", apart := false }
def FnExactNotTritSaid : Prop := fnExactNotTritRow.holds Try.pinned (OpenSpec.ofChange fnExactNotTritSpec)

/-- ITS FALSE NEIGHBOUR: 'it returns false'. Refute it at one input. -/
def fnExactNotTritWrong : ChangeSpec := { name := "fnExactNotTrit", fn := fun _ => fun
  | [d] => { results := [.lit (.bool false)], args := [d] }
  | _ => none }
def FnExactNotTritWrongFalsely : Prop := fnExactNotTritRow.holds Try.pinned (OpenSpec.ofChange fnExactNotTritWrong)

/-- 'laws.FnExactSignOf': WHATEVER THE INPUT: true; the input reads as it did. -/
def fnExactSignOfSpec : ChangeSpec := { name := "fnExactSignOf", fn := fun _ => fun
  | [d] => { results := [.lit (.bool true)], args := [d] }
  | _ => none }
def fnExactSignOfRow : OpenClaim := { program := "ytgfiaapmnelppaa", sum := "41aff7e9d7e4c50b3979aa02e6368ef70f6a1c26027c02e84308210a8b832bdf", func := "loop.example/g03225/laws.FnExactSignOf", spec := "fnExactSignOf", apart := false }
def FnExactSignOfSaid : Prop := fnExactSignOfRow.holds Try.pinned (OpenSpec.ofChange fnExactSignOfSpec)

/-- ITS FALSE NEIGHBOUR: 'it returns false'. Refute it at one input. -/
def fnExactSignOfWrong : ChangeSpec := { name := "fnExactSignOf", fn := fun _ => fun
  | [d] => { results := [.lit (.bool false)], args := [d] }
  | _ => none }
def FnExactSignOfWrongFalsely : Prop := fnExactSignOfRow.holds Try.pinned (OpenSpec.ofChange fnExactSignOfWrong)

/-- 'laws.FnExactLimitOf': WHATEVER THE INPUT: true; the input reads as it did. -/
def fnExactLimitOfSpec : ChangeSpec := { name := "fnExactLimitOf", fn := fun _ => fun
  | [d] => { results := [.lit (.bool true)], args := [d] }
  | _ => none }
def fnExactLimitOfRow : OpenClaim := { program := "ytgfiaapmnelppaa", sum := "41aff7e9d7e4c50b3979aa02e6368ef70f6a1c26027c02e84308210a8b832bdf", func := "loop.example/g03225/laws.FnExactLimitOf", spec := "fnExactLimitOf", apart := false }
def FnExactLimitOfSaid : Prop := fnExactLimitOfRow.holds Try.pinned (OpenSpec.ofChange fnExactLimitOfSpec)

/-- ITS FALSE NEIGHBOUR: 'it returns false'. Refute it at one input. -/
def fnExactLimitOfWrong : ChangeSpec := { name := "fnExactLimitOf", fn := fun _ => fun
  | [d] => { results := [.lit (.bool false)], args := [d] }
  | _ => none }
def FnExactLimitOfWrongFalsely : Prop := fnExactLimitOfRow.holds Try.pinned (OpenSpec.ofChange fnExactLimitOfWrong)

/-- 'laws.FnExactAgreeTrits': WHATEVER THE INPUT: true; the input reads as it did. -/
def fnExactAgreeTritsSpec : ChangeSpec := { name := "fnExactAgreeTrits", fn := fun _ => fun
  | [d1, d2] => { results := [.lit (.bool true)], args := [d1, d2] }
  | _ => none }
def fnExactAgreeTritsRow : OpenClaim := { program := "ytgfiaapmnelppaa", sum := "41aff7e9d7e4c50b3979aa02e6368ef70f6a1c26027c02e84308210a8b832bdf", func := "loop.example/g03225/laws.FnExactAgreeTrits", spec := "fnExactAgreeTrits", apart := false }
def FnExactAgreeTritsSaid : Prop := fnExactAgreeTritsRow.holds Try.pinned (OpenSpec.ofChange fnExactAgreeTritsSpec)

/-- ITS FALSE NEIGHBOUR: 'it returns false'. Refute it at one input. -/
def fnExactAgreeTritsWrong : ChangeSpec := { name := "fnExactAgreeTrits", fn := fun _ => fun
  | [d1, d2] => { results := [.lit (.bool false)], args := [d1, d2] }
  | _ => none }
def FnExactAgreeTritsWrongFalsely : Prop := fnExactAgreeTritsRow.holds Try.pinned (OpenSpec.ofChange fnExactAgreeTritsWrong)

/-- 'laws.FnExactMaxTrits': WHATEVER THE INPUT: true; the input reads as it did. -/
def fnExactMaxTritsSpec : ChangeSpec := { name := "fnExactMaxTrits", fn := fun _ => fun
  | [d1, d2] => { results := [.lit (.bool true)], args := [d1, d2] }
  | _ => none }
def fnExactMaxTritsRow : OpenClaim := { program := "ytgfiaapmnelppaa", sum := "41aff7e9d7e4c50b3979aa02e6368ef70f6a1c26027c02e84308210a8b832bdf", func := "loop.example/g03225/laws.FnExactMaxTrits", spec := "fnExactMaxTrits", apart := false }
def FnExactMaxTritsSaid : Prop := fnExactMaxTritsRow.holds Try.pinned (OpenSpec.ofChange fnExactMaxTritsSpec)

/-- ITS FALSE NEIGHBOUR: 'it returns false'. Refute it at one input. -/
def fnExactMaxTritsWrong : ChangeSpec := { name := "fnExactMaxTrits", fn := fun _ => fun
  | [d1, d2] => { results := [.lit (.bool false)], args := [d1, d2] }
  | _ => none }
def FnExactMaxTritsWrongFalsely : Prop := fnExactMaxTritsRow.holds Try.pinned (OpenSpec.ofChange fnExactMaxTritsWrong)

/-- 'laws.FnExactMinTrits': WHATEVER THE INPUT: true; the input reads as it did. -/
def fnExactMinTritsSpec : ChangeSpec := { name := "fnExactMinTrits", fn := fun _ => fun
  | [d1, d2] => { results := [.lit (.bool true)], args := [d1, d2] }
  | _ => none }
def fnExactMinTritsRow : OpenClaim := { program := "ytgfiaapmnelppaa", sum := "41aff7e9d7e4c50b3979aa02e6368ef70f6a1c26027c02e84308210a8b832bdf", func := "loop.example/g03225/laws.FnExactMinTrits", spec := "fnExactMinTrits", apart := false }
def FnExactMinTritsSaid : Prop := fnExactMinTritsRow.holds Try.pinned (OpenSpec.ofChange fnExactMinTritsSpec)

/-- ITS FALSE NEIGHBOUR: 'it returns false'. Refute it at one input. -/
def fnExactMinTritsWrong : ChangeSpec := { name := "fnExactMinTrits", fn := fun _ => fun
  | [d1, d2] => { results := [.lit (.bool false)], args := [d1, d2] }
  | _ => none }
def FnExactMinTritsWrongFalsely : Prop := fnExactMinTritsRow.holds Try.pinned (OpenSpec.ofChange fnExactMinTritsWrong)

/-- 'laws.FnExactTimesTrits': WHATEVER THE INPUT: true; the input reads as it did. -/
def fnExactTimesTritsSpec : ChangeSpec := { name := "fnExactTimesTrits", fn := fun _ => fun
  | [d1, d2] => { results := [.lit (.bool true)], args := [d1, d2] }
  | _ => none }
def fnExactTimesTritsRow : OpenClaim := { program := "ytgfiaapmnelppaa", sum := "41aff7e9d7e4c50b3979aa02e6368ef70f6a1c26027c02e84308210a8b832bdf", func := "loop.example/g03225/laws.FnExactTimesTrits", spec := "fnExactTimesTrits", apart := false }
def FnExactTimesTritsSaid : Prop := fnExactTimesTritsRow.holds Try.pinned (OpenSpec.ofChange fnExactTimesTritsSpec)

/-- ITS FALSE NEIGHBOUR: 'it returns false'. Refute it at one input. -/
def fnExactTimesTritsWrong : ChangeSpec := { name := "fnExactTimesTrits", fn := fun _ => fun
  | [d1, d2] => { results := [.lit (.bool false)], args := [d1, d2] }
  | _ => none }
def FnExactTimesTritsWrongFalsely : Prop := fnExactTimesTritsRow.holds Try.pinned (OpenSpec.ofChange fnExactTimesTritsWrong)

/-- 'laws.FnExactTurnTrit': WHATEVER THE INPUT: true; the input reads as it did. -/
def fnExactTurnTritSpec : ChangeSpec := { name := "fnExactTurnTrit", fn := fun _ => fun
  | [d] => { results := [.lit (.bool true)], args := [d] }
  | _ => none }
def fnExactTurnTritRow : OpenClaim := { program := "ytgfiaapmnelppaa", sum := "41aff7e9d7e4c50b3979aa02e6368ef70f6a1c26027c02e84308210a8b832bdf", func := "loop.example/g03225/laws.FnExactTurnTrit", spec := "fnExactTurnTrit", apart := false }
def FnExactTurnTritSaid : Prop := fnExactTurnTritRow.holds Try.pinned (OpenSpec.ofChange fnExactTurnTritSpec)

/-- ITS FALSE NEIGHBOUR: 'it returns false'. Refute it at one input. -/
def fnExactTurnTritWrong : ChangeSpec := { name := "fnExactTurnTrit", fn := fun _ => fun
  | [d] => { results := [.lit (.bool false)], args := [d] }
  | _ => none }
def FnExactTurnTritWrongFalsely : Prop := fnExactTurnTritRow.holds Try.pinned (OpenSpec.ofChange fnExactTurnTritWrong)

/-- 'laws.FnExactAnyTrits': WHATEVER THE INPUT: true; the input reads as it did. -/
def fnExactAnyTritsSpec : ChangeSpec := { name := "fnExactAnyTrits", fn := fun _ => fun
  | [d1, d2] => { results := [.lit (.bool true)], args := [d1, d2] }
  | _ => none }
def fnExactAnyTritsRow : OpenClaim := { program := "ytgfiaapmnelppaa", sum := "41aff7e9d7e4c50b3979aa02e6368ef70f6a1c26027c02e84308210a8b832bdf", func := "loop.example/g03225/laws.FnExactAnyTrits", spec := "fnExactAnyTrits", apart := false }
def FnExactAnyTritsSaid : Prop := fnExactAnyTritsRow.holds Try.pinned (OpenSpec.ofChange fnExactAnyTritsSpec)

/-- ITS FALSE NEIGHBOUR: 'it returns false'. Refute it at one input. -/
def fnExactAnyTritsWrong : ChangeSpec := { name := "fnExactAnyTrits", fn := fun _ => fun
  | [d1, d2] => { results := [.lit (.bool false)], args := [d1, d2] }
  | _ => none }
def FnExactAnyTritsWrongFalsely : Prop := fnExactAnyTritsRow.holds Try.pinned (OpenSpec.ofChange fnExactAnyTritsWrong)

/-- 'laws.FnExactHalfAdd': WHATEVER THE INPUT: true; the input reads as it did. -/
def fnExactHalfAddSpec : ChangeSpec := { name := "fnExactHalfAdd", fn := fun _ => fun
  | [d1, d2] => { results := [.lit (.bool true)], args := [d1, d2] }
  | _ => none }
def fnExactHalfAddRow : OpenClaim := { program := "ytgfiaapmnelppaa", sum := "41aff7e9d7e4c50b3979aa02e6368ef70f6a1c26027c02e84308210a8b832bdf", func := "loop.example/g03225/laws.FnExactHalfAdd", spec := "fnExactHalfAdd", apart := false }
def FnExactHalfAddSaid : Prop := fnExactHalfAddRow.holds Try.pinned (OpenSpec.ofChange fnExactHalfAddSpec)

/-- ITS FALSE NEIGHBOUR: 'it returns false'. Refute it at one input. -/
def fnExactHalfAddWrong : ChangeSpec := { name := "fnExactHalfAdd", fn := fun _ => fun
  | [d1, d2] => { results := [.lit (.bool false)], args := [d1, d2] }
  | _ => none }
def FnExactHalfAddWrongFalsely : Prop := fnExactHalfAddRow.holds Try.pinned (OpenSpec.ofChange fnExactHalfAddWrong)

/- THE SECOND FORM. 'bulk': how many values and letters a reading holds, each counted each time it is reached (what is shared counts as often as it is met; a slice's spare places count too). A statement '..UptoSaid' is the law's where the arguments, and the package variables that the reading takes, are together of bulk at most 1048576: NARROWER than '..Said'. Prove '..Said' where nothing that the law and all that it calls make is longer than what came in: it says more and counts as full. Else prove '..UptoSaid'. A law counts once. -/
mutual
def uptoBulk {H : Type} : DataW H → Nat
  | .lit (.string bytes) => bytes.length + 1
  | .lit _ => 1
  | .nil => 1
  | .ptr d => uptoBulk d + 1
  | .slice elems spare => uptoBulkAll elems + uptoBulkAll spare + 1
  | .agg parts => uptoBulkAll parts + 1
  | .iface _ d => uptoBulk d + 1
  | .map entries => uptoBulkEntries entries + 1
  | .held _ => 1
def uptoBulkAll {H : Type} : List (DataW H) → Nat
  | [] => 0
  | d :: r => uptoBulk d + uptoBulkAll r
def uptoBulkEntries {H : Type} : List (Lit × DataW H) → Nat
  | [] => 0
  | x :: r => uptoBulkEntry x + uptoBulkEntries r
def uptoBulkEntry {H : Type} : Lit × DataW H → Nat
  | (.string bytes, d) => bytes.length + uptoBulk d + 1
  | (_, d) => uptoBulk d + 1
 end
def uptoSmall : (H : Type) → List (DataW H) → Bool := fun _ ds => decide (uptoBulkAll ds ≤ 1048576)
def OpenSpec.upto (s : _root_.Go.ChangeSpec) : _root_.Go.OpenSpec := { _root_.Go.OpenSpec.ofChange s with cond := some uptoSmall }

/-- 'laws.FnExactConstants', WHERE WHAT IT READS IS OF BULK AT MOST 1048576: true; the input reads as it did. -/
def fnExactConstantsUptoRow : OpenClaim := { program := "ytgfiaapmnelppaa", sum := "41aff7e9d7e4c50b3979aa02e6368ef70f6a1c26027c02e84308210a8b832bdf", func := "loop.example/g03225/laws.FnExactConstants", spec := "fnExactConstants", apart := false, narrowed := true }
def FnExactConstantsUptoSaid : Prop := fnExactConstantsUptoRow.holds Try.pinned (OpenSpec.upto fnExactConstantsSpec)

/-- 'laws.FnExactIsTrit', WHERE WHAT IT READS IS OF BULK AT MOST 1048576: true; the input reads as it did. -/
def fnExactIsTritUptoRow : OpenClaim := { program := "ytgfiaapmnelppaa", sum := "41aff7e9d7e4c50b3979aa02e6368ef70f6a1c26027c02e84308210a8b832bdf", func := "loop.example/g03225/laws.FnExactIsTrit", spec := "fnExactIsTrit", apart := false, narrowed := true }
def FnExactIsTritUptoSaid : Prop := fnExactIsTritUptoRow.holds Try.pinned (OpenSpec.upto fnExactIsTritSpec)

/-- 'laws.FnExactNotTrit', WHERE WHAT IT READS IS OF BULK AT MOST 1048576: true; the input reads as it did. -/
def fnExactNotTritUptoRow : OpenClaim := { program := "ytgfiaapmnelppaa", sum := "41aff7e9d7e4c50b3979aa02e6368ef70f6a1c26027c02e84308210a8b832bdf", func := "loop.example/g03225/laws.FnExactNotTrit", spec := "fnExactNotTrit", apart := false, narrowed := true }
def FnExactNotTritUptoSaid : Prop := fnExactNotTritUptoRow.holds Try.pinned (OpenSpec.upto fnExactNotTritSpec)

/-- 'laws.FnExactSignOf', WHERE WHAT IT READS IS OF BULK AT MOST 1048576: true; the input reads as it did. -/
def fnExactSignOfUptoRow : OpenClaim := { program := "ytgfiaapmnelppaa", sum := "41aff7e9d7e4c50b3979aa02e6368ef70f6a1c26027c02e84308210a8b832bdf", func := "loop.example/g03225/laws.FnExactSignOf", spec := "fnExactSignOf", apart := false, narrowed := true }
def FnExactSignOfUptoSaid : Prop := fnExactSignOfUptoRow.holds Try.pinned (OpenSpec.upto fnExactSignOfSpec)

/-- 'laws.FnExactLimitOf', WHERE WHAT IT READS IS OF BULK AT MOST 1048576: true; the input reads as it did. -/
def fnExactLimitOfUptoRow : OpenClaim := { program := "ytgfiaapmnelppaa", sum := "41aff7e9d7e4c50b3979aa02e6368ef70f6a1c26027c02e84308210a8b832bdf", func := "loop.example/g03225/laws.FnExactLimitOf", spec := "fnExactLimitOf", apart := false, narrowed := true }
def FnExactLimitOfUptoSaid : Prop := fnExactLimitOfUptoRow.holds Try.pinned (OpenSpec.upto fnExactLimitOfSpec)

/-- 'laws.FnExactAgreeTrits', WHERE WHAT IT READS IS OF BULK AT MOST 1048576: true; the input reads as it did. -/
def fnExactAgreeTritsUptoRow : OpenClaim := { program := "ytgfiaapmnelppaa", sum := "41aff7e9d7e4c50b3979aa02e6368ef70f6a1c26027c02e84308210a8b832bdf", func := "loop.example/g03225/laws.FnExactAgreeTrits", spec := "fnExactAgreeTrits", apart := false, narrowed := true }
def FnExactAgreeTritsUptoSaid : Prop := fnExactAgreeTritsUptoRow.holds Try.pinned (OpenSpec.upto fnExactAgreeTritsSpec)

/-- 'laws.FnExactMaxTrits', WHERE WHAT IT READS IS OF BULK AT MOST 1048576: true; the input reads as it did. -/
def fnExactMaxTritsUptoRow : OpenClaim := { program := "ytgfiaapmnelppaa", sum := "41aff7e9d7e4c50b3979aa02e6368ef70f6a1c26027c02e84308210a8b832bdf", func := "loop.example/g03225/laws.FnExactMaxTrits", spec := "fnExactMaxTrits", apart := false, narrowed := true }
def FnExactMaxTritsUptoSaid : Prop := fnExactMaxTritsUptoRow.holds Try.pinned (OpenSpec.upto fnExactMaxTritsSpec)

/-- 'laws.FnExactMinTrits', WHERE WHAT IT READS IS OF BULK AT MOST 1048576: true; the input reads as it did. -/
def fnExactMinTritsUptoRow : OpenClaim := { program := "ytgfiaapmnelppaa", sum := "41aff7e9d7e4c50b3979aa02e6368ef70f6a1c26027c02e84308210a8b832bdf", func := "loop.example/g03225/laws.FnExactMinTrits", spec := "fnExactMinTrits", apart := false, narrowed := true }
def FnExactMinTritsUptoSaid : Prop := fnExactMinTritsUptoRow.holds Try.pinned (OpenSpec.upto fnExactMinTritsSpec)

/-- 'laws.FnExactTimesTrits', WHERE WHAT IT READS IS OF BULK AT MOST 1048576: true; the input reads as it did. -/
def fnExactTimesTritsUptoRow : OpenClaim := { program := "ytgfiaapmnelppaa", sum := "41aff7e9d7e4c50b3979aa02e6368ef70f6a1c26027c02e84308210a8b832bdf", func := "loop.example/g03225/laws.FnExactTimesTrits", spec := "fnExactTimesTrits", apart := false, narrowed := true }
def FnExactTimesTritsUptoSaid : Prop := fnExactTimesTritsUptoRow.holds Try.pinned (OpenSpec.upto fnExactTimesTritsSpec)

/-- 'laws.FnExactTurnTrit', WHERE WHAT IT READS IS OF BULK AT MOST 1048576: true; the input reads as it did. -/
def fnExactTurnTritUptoRow : OpenClaim := { program := "ytgfiaapmnelppaa", sum := "41aff7e9d7e4c50b3979aa02e6368ef70f6a1c26027c02e84308210a8b832bdf", func := "loop.example/g03225/laws.FnExactTurnTrit", spec := "fnExactTurnTrit", apart := false, narrowed := true }
def FnExactTurnTritUptoSaid : Prop := fnExactTurnTritUptoRow.holds Try.pinned (OpenSpec.upto fnExactTurnTritSpec)

/-- 'laws.FnExactAnyTrits', WHERE WHAT IT READS IS OF BULK AT MOST 1048576: true; the input reads as it did. -/
def fnExactAnyTritsUptoRow : OpenClaim := { program := "ytgfiaapmnelppaa", sum := "41aff7e9d7e4c50b3979aa02e6368ef70f6a1c26027c02e84308210a8b832bdf", func := "loop.example/g03225/laws.FnExactAnyTrits", spec := "fnExactAnyTrits", apart := false, narrowed := true }
def FnExactAnyTritsUptoSaid : Prop := fnExactAnyTritsUptoRow.holds Try.pinned (OpenSpec.upto fnExactAnyTritsSpec)

/-- 'laws.FnExactHalfAdd', WHERE WHAT IT READS IS OF BULK AT MOST 1048576: true; the input reads as it did. -/
def fnExactHalfAddUptoRow : OpenClaim := { program := "ytgfiaapmnelppaa", sum := "41aff7e9d7e4c50b3979aa02e6368ef70f6a1c26027c02e84308210a8b832bdf", func := "loop.example/g03225/laws.FnExactHalfAdd", spec := "fnExactHalfAdd", apart := false, narrowed := true }
def FnExactHalfAddUptoSaid : Prop := fnExactHalfAddUptoRow.holds Try.pinned (OpenSpec.upto fnExactHalfAddSpec)

end Rows
end Go.Proofs.Ytgfiaapmnelppaa
