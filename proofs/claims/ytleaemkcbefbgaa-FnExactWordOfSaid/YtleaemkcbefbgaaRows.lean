/-
  No cell of these rows narrows 'for every input' (looked for: loops, veiled, ifaces, maps, wideKeys, modest, calm, conditions, laid).
  DERIVED. THE GIVEN ROWS OF THIS SEAT. 12 by the template 'for every input the law returns true; each argument reads behind the call as it read before'; 0 by the template 'total and deterministic' (their statements: YtleaemkcbefbgaaTotals.lean).
  GIVEN WITH THE SEED: the statements are not yours to turn. If you find one false, say at which input.
  Laid BY PROGRAM, IN A SANDBOX (cutbox-rows.mjs): the forced cells as the released guide's own fill.sh prints them over the translation d871d246df4909f3… (all of the seat's roots in one cut). By AI agents, Wed Nov 11 2026. No macro, syntax, notation, axiom, sorry.
-/
import Derived.Test.YtleaemkcbefbgaaChecked
import GoSem.Claim
import GoSem.ClaimJoined
import GoSem.ClaimMapViews
import Derived.JoinedTies
import Derived.KernelRfl
namespace Go.Proofs.Ytleaemkcbefbgaa
/- THE CELL 'sum', in the pinned program and in every row, IS THE sha256 OF THE DUMP (.gsa) THAT YtleaemkcbefbgaaProg.lean LOADS. Nothing in Lean hashes anything: it is a label: what it is worth is what the hold of that sum in a sandbox is worth. -/
noncomputable def Try.pinned : Pinned := { name := "ytleaemkcbefbgaa", sum := "d871d246df4909f3e1ae1f8ec6dcc3583ccc661265a642b527897234e268306a", checked := Try.checked }
namespace Rows
def none {H : Type} : Left H := { results := [], args := [] }

/-- 'laws.FnExactIsRedundant': WHATEVER THE INPUT: true; the input reads as it did. -/
def fnExactIsRedundantSpec : ChangeSpec := { name := "fnExactIsRedundant", fn := fun _ => fun
  | [d] => { results := [.lit (.bool true)], args := [d] }
  | _ => none }
def fnExactIsRedundantRow : OpenClaim := { program := "ytleaemkcbefbgaa", sum := "d871d246df4909f3e1ae1f8ec6dcc3583ccc661265a642b527897234e268306a", func := "loop.example/g03225/laws.FnExactIsRedundant", spec := "fnExactIsRedundant", unfollowed := true, recurses := true, apart := false }
def FnExactIsRedundantSaid : Prop := fnExactIsRedundantRow.holds Try.pinned (OpenSpec.ofChange fnExactIsRedundantSpec)

/-- ITS FALSE NEIGHBOUR: 'it returns false'. Refute it at one input. -/
def fnExactIsRedundantWrong : ChangeSpec := { name := "fnExactIsRedundant", fn := fun _ => fun
  | [d] => { results := [.lit (.bool false)], args := [d] }
  | _ => none }
def FnExactIsRedundantWrongFalsely : Prop := fnExactIsRedundantRow.holds Try.pinned (OpenSpec.ofChange fnExactIsRedundantWrong)

/-- 'laws.FnExactIsWord': WHATEVER THE INPUT: true; the input reads as it did. -/
def fnExactIsWordSpec : ChangeSpec := { name := "fnExactIsWord", fn := fun _ => fun
  | [d] => { results := [.lit (.bool true)], args := [d] }
  | _ => none }
def fnExactIsWordRow : OpenClaim := { program := "ytleaemkcbefbgaa", sum := "d871d246df4909f3e1ae1f8ec6dcc3583ccc661265a642b527897234e268306a", func := "loop.example/g03225/laws.FnExactIsWord", spec := "fnExactIsWord", apart := false }
def FnExactIsWordSaid : Prop := fnExactIsWordRow.holds Try.pinned (OpenSpec.ofChange fnExactIsWordSpec)

/-- ITS FALSE NEIGHBOUR: 'it returns false'. Refute it at one input. -/
def fnExactIsWordWrong : ChangeSpec := { name := "fnExactIsWord", fn := fun _ => fun
  | [d] => { results := [.lit (.bool false)], args := [d] }
  | _ => none }
def FnExactIsWordWrongFalsely : Prop := fnExactIsWordRow.holds Try.pinned (OpenSpec.ofChange fnExactIsWordWrong)

/-- 'laws.FnExactLengthOf': WHATEVER THE INPUT: true; the input reads as it did. -/
def fnExactLengthOfSpec : ChangeSpec := { name := "fnExactLengthOf", fn := fun _ => fun
  | [d] => { results := [.lit (.bool true)], args := [d] }
  | _ => none }
def fnExactLengthOfRow : OpenClaim := { program := "ytleaemkcbefbgaa", sum := "d871d246df4909f3e1ae1f8ec6dcc3583ccc661265a642b527897234e268306a", func := "loop.example/g03225/laws.FnExactLengthOf", spec := "fnExactLengthOf", apart := false }
def FnExactLengthOfSaid : Prop := fnExactLengthOfRow.holds Try.pinned (OpenSpec.ofChange fnExactLengthOfSpec)

/-- ITS FALSE NEIGHBOUR: 'it returns false'. Refute it at one input. -/
def fnExactLengthOfWrong : ChangeSpec := { name := "fnExactLengthOf", fn := fun _ => fun
  | [d] => { results := [.lit (.bool false)], args := [d] }
  | _ => none }
def FnExactLengthOfWrongFalsely : Prop := fnExactLengthOfRow.holds Try.pinned (OpenSpec.ofChange fnExactLengthOfWrong)

/-- 'laws.FnExactFullAdd': WHATEVER THE INPUT: true; the input reads as it did. -/
def fnExactFullAddSpec : ChangeSpec := { name := "fnExactFullAdd", fn := fun _ => fun
  | [d1, d2, d3] => { results := [.lit (.bool true)], args := [d1, d2, d3] }
  | _ => none }
def fnExactFullAddRow : OpenClaim := { program := "ytleaemkcbefbgaa", sum := "d871d246df4909f3e1ae1f8ec6dcc3583ccc661265a642b527897234e268306a", func := "loop.example/g03225/laws.FnExactFullAdd", spec := "fnExactFullAdd", apart := false }
def FnExactFullAddSaid : Prop := fnExactFullAddRow.holds Try.pinned (OpenSpec.ofChange fnExactFullAddSpec)

/-- ITS FALSE NEIGHBOUR: 'it returns false'. Refute it at one input. -/
def fnExactFullAddWrong : ChangeSpec := { name := "fnExactFullAdd", fn := fun _ => fun
  | [d1, d2, d3] => { results := [.lit (.bool false)], args := [d1, d2, d3] }
  | _ => none }
def FnExactFullAddWrongFalsely : Prop := fnExactFullAddRow.holds Try.pinned (OpenSpec.ofChange fnExactFullAddWrong)

/-- 'laws.FnExactSumOf': WHATEVER THE INPUT: true; the input reads as it did. -/
def fnExactSumOfSpec : ChangeSpec := { name := "fnExactSumOf", fn := fun _ => fun
  | [d] => { results := [.lit (.bool true)], args := [d] }
  | _ => none }
def fnExactSumOfRow : OpenClaim := { program := "ytleaemkcbefbgaa", sum := "d871d246df4909f3e1ae1f8ec6dcc3583ccc661265a642b527897234e268306a", func := "loop.example/g03225/laws.FnExactSumOf", spec := "fnExactSumOf", apart := false }
def FnExactSumOfSaid : Prop := fnExactSumOfRow.holds Try.pinned (OpenSpec.ofChange fnExactSumOfSpec)

/-- ITS FALSE NEIGHBOUR: 'it returns false'. Refute it at one input. -/
def fnExactSumOfWrong : ChangeSpec := { name := "fnExactSumOf", fn := fun _ => fun
  | [d] => { results := [.lit (.bool false)], args := [d] }
  | _ => none }
def FnExactSumOfWrongFalsely : Prop := fnExactSumOfRow.holds Try.pinned (OpenSpec.ofChange fnExactSumOfWrong)

/-- 'laws.FnExactWeightOf': WHATEVER THE INPUT: true; the input reads as it did. -/
def fnExactWeightOfSpec : ChangeSpec := { name := "fnExactWeightOf", fn := fun _ => fun
  | [d] => { results := [.lit (.bool true)], args := [d] }
  | _ => none }
def fnExactWeightOfRow : OpenClaim := { program := "ytleaemkcbefbgaa", sum := "d871d246df4909f3e1ae1f8ec6dcc3583ccc661265a642b527897234e268306a", func := "loop.example/g03225/laws.FnExactWeightOf", spec := "fnExactWeightOf", apart := false }
def FnExactWeightOfSaid : Prop := fnExactWeightOfRow.holds Try.pinned (OpenSpec.ofChange fnExactWeightOfSpec)

/-- ITS FALSE NEIGHBOUR: 'it returns false'. Refute it at one input. -/
def fnExactWeightOfWrong : ChangeSpec := { name := "fnExactWeightOf", fn := fun _ => fun
  | [d] => { results := [.lit (.bool false)], args := [d] }
  | _ => none }
def FnExactWeightOfWrongFalsely : Prop := fnExactWeightOfRow.holds Try.pinned (OpenSpec.ofChange fnExactWeightOfWrong)

/-- 'laws.FnExactValueRedundant': WHATEVER THE INPUT: true; the input reads as it did. -/
def fnExactValueRedundantSpec : ChangeSpec := { name := "fnExactValueRedundant", fn := fun _ => fun
  | [d] => { results := [.lit (.bool true)], args := [d] }
  | _ => none }
def fnExactValueRedundantRow : OpenClaim := { program := "ytleaemkcbefbgaa", sum := "d871d246df4909f3e1ae1f8ec6dcc3583ccc661265a642b527897234e268306a", func := "loop.example/g03225/laws.FnExactValueRedundant", spec := "fnExactValueRedundant", unfollowed := true, recurses := true, apart := false }
def FnExactValueRedundantSaid : Prop := fnExactValueRedundantRow.holds Try.pinned (OpenSpec.ofChange fnExactValueRedundantSpec)

/-- ITS FALSE NEIGHBOUR: 'it returns false'. Refute it at one input. -/
def fnExactValueRedundantWrong : ChangeSpec := { name := "fnExactValueRedundant", fn := fun _ => fun
  | [d] => { results := [.lit (.bool false)], args := [d] }
  | _ => none }
def FnExactValueRedundantWrongFalsely : Prop := fnExactValueRedundantRow.holds Try.pinned (OpenSpec.ofChange fnExactValueRedundantWrong)

/-- 'laws.FnExactValueOf': WHATEVER THE INPUT: true; the input reads as it did. -/
def fnExactValueOfSpec : ChangeSpec := { name := "fnExactValueOf", fn := fun _ => fun
  | [d] => { results := [.lit (.bool true)], args := [d] }
  | _ => none }
def fnExactValueOfRow : OpenClaim := { program := "ytleaemkcbefbgaa", sum := "d871d246df4909f3e1ae1f8ec6dcc3583ccc661265a642b527897234e268306a", func := "loop.example/g03225/laws.FnExactValueOf", spec := "fnExactValueOf", apart := false }
def FnExactValueOfSaid : Prop := fnExactValueOfRow.holds Try.pinned (OpenSpec.ofChange fnExactValueOfSpec)

/-- ITS FALSE NEIGHBOUR: 'it returns false'. Refute it at one input. -/
def fnExactValueOfWrong : ChangeSpec := { name := "fnExactValueOf", fn := fun _ => fun
  | [d] => { results := [.lit (.bool false)], args := [d] }
  | _ => none }
def FnExactValueOfWrongFalsely : Prop := fnExactValueOfRow.holds Try.pinned (OpenSpec.ofChange fnExactValueOfWrong)

/-- 'laws.FnExactSignWord': WHATEVER THE INPUT: true; the input reads as it did. -/
def fnExactSignWordSpec : ChangeSpec := { name := "fnExactSignWord", fn := fun _ => fun
  | [d] => { results := [.lit (.bool true)], args := [d] }
  | _ => none }
def fnExactSignWordRow : OpenClaim := { program := "ytleaemkcbefbgaa", sum := "d871d246df4909f3e1ae1f8ec6dcc3583ccc661265a642b527897234e268306a", func := "loop.example/g03225/laws.FnExactSignWord", spec := "fnExactSignWord", apart := false }
def FnExactSignWordSaid : Prop := fnExactSignWordRow.holds Try.pinned (OpenSpec.ofChange fnExactSignWordSpec)

/-- ITS FALSE NEIGHBOUR: 'it returns false'. Refute it at one input. -/
def fnExactSignWordWrong : ChangeSpec := { name := "fnExactSignWord", fn := fun _ => fun
  | [d] => { results := [.lit (.bool false)], args := [d] }
  | _ => none }
def FnExactSignWordWrongFalsely : Prop := fnExactSignWordRow.holds Try.pinned (OpenSpec.ofChange fnExactSignWordWrong)

/-- 'laws.FnExactCompareWords': WHATEVER THE INPUT: true; the input reads as it did. -/
def fnExactCompareWordsSpec : ChangeSpec := { name := "fnExactCompareWords", fn := fun _ => fun
  | [d1, d2] => { results := [.lit (.bool true)], args := [d1, d2] }
  | _ => none }
def fnExactCompareWordsRow : OpenClaim := { program := "ytleaemkcbefbgaa", sum := "d871d246df4909f3e1ae1f8ec6dcc3583ccc661265a642b527897234e268306a", func := "loop.example/g03225/laws.FnExactCompareWords", spec := "fnExactCompareWords", apart := false }
def FnExactCompareWordsSaid : Prop := fnExactCompareWordsRow.holds Try.pinned (OpenSpec.ofChange fnExactCompareWordsSpec)

/-- ITS FALSE NEIGHBOUR: 'it returns false'. Refute it at one input. -/
def fnExactCompareWordsWrong : ChangeSpec := { name := "fnExactCompareWords", fn := fun _ => fun
  | [d1, d2] => { results := [.lit (.bool false)], args := [d1, d2] }
  | _ => none }
def FnExactCompareWordsWrongFalsely : Prop := fnExactCompareWordsRow.holds Try.pinned (OpenSpec.ofChange fnExactCompareWordsWrong)

/-- 'laws.FnExactFormatWord': WHATEVER THE INPUT: true; the input reads as it did. -/
def fnExactFormatWordSpec : ChangeSpec := { name := "fnExactFormatWord", fn := fun _ => fun
  | [d] => { results := [.lit (.bool true)], args := [d] }
  | _ => none }
def fnExactFormatWordRow : OpenClaim := { program := "ytleaemkcbefbgaa", sum := "d871d246df4909f3e1ae1f8ec6dcc3583ccc661265a642b527897234e268306a", func := "loop.example/g03225/laws.FnExactFormatWord", spec := "fnExactFormatWord", apart := false }
def FnExactFormatWordSaid : Prop := fnExactFormatWordRow.holds Try.pinned (OpenSpec.ofChange fnExactFormatWordSpec)

/-- ITS FALSE NEIGHBOUR: 'it returns false'. Refute it at one input. -/
def fnExactFormatWordWrong : ChangeSpec := { name := "fnExactFormatWord", fn := fun _ => fun
  | [d] => { results := [.lit (.bool false)], args := [d] }
  | _ => none }
def FnExactFormatWordWrongFalsely : Prop := fnExactFormatWordRow.holds Try.pinned (OpenSpec.ofChange fnExactFormatWordWrong)

/-- 'laws.FnExactWordOf': WHATEVER THE INPUT: true; the input reads as it did. -/
def fnExactWordOfSpec : ChangeSpec := { name := "fnExactWordOf", fn := fun _ => fun
  | [d1, d2] => { results := [.lit (.bool true)], args := [d1, d2] }
  | _ => none }
def fnExactWordOfRow : OpenClaim := { program := "ytleaemkcbefbgaa", sum := "d871d246df4909f3e1ae1f8ec6dcc3583ccc661265a642b527897234e268306a", func := "loop.example/g03225/laws.FnExactWordOf", spec := "fnExactWordOf", apart := false }
def FnExactWordOfSaid : Prop := fnExactWordOfRow.holds Try.pinned (OpenSpec.ofChange fnExactWordOfSpec)

/-- ITS FALSE NEIGHBOUR: 'it returns false'. Refute it at one input. -/
def fnExactWordOfWrong : ChangeSpec := { name := "fnExactWordOf", fn := fun _ => fun
  | [d1, d2] => { results := [.lit (.bool false)], args := [d1, d2] }
  | _ => none }
def FnExactWordOfWrongFalsely : Prop := fnExactWordOfRow.holds Try.pinned (OpenSpec.ofChange fnExactWordOfWrong)

/- THE SECOND FORM. 'bulk': how many values and letters a reading holds, each counted each time it is reached (what is shared counts as often as it is met; a slice's spare places count too). A statement '..UptoSaid' is the law's where the arguments, and the package variables that the reading takes, are together of bulk at most 1048576: NARROWER than '..Said'. Prove '..Said' where nothing that the law and all that it calls make is longer than what came in: it says more and counts as full. Else prove '..UptoSaid'. A law counts once. -/
mutual
def uptoBulk {H : Type} : DataW H → Nat
  | .lit (.string bytes) => bytes.length + 1
  | .lit _ => 1
  | .nil => 1
  | .ptr d => uptoBulk d + 1
  | .slice elems spare => uptoBulkAll elems + uptoBulkAll spare + 1
  | .agg parts => uptoBulkAll parts + 1
  | .iface _ d => uptoBulk d + 1
  | .map entries => uptoBulkEntries entries + 1
  | .held _ => 1
def uptoBulkAll {H : Type} : List (DataW H) → Nat
  | [] => 0
  | d :: r => uptoBulk d + uptoBulkAll r
def uptoBulkEntries {H : Type} : List (Lit × DataW H) → Nat
  | [] => 0
  | x :: r => uptoBulkEntry x + uptoBulkEntries r
def uptoBulkEntry {H : Type} : Lit × DataW H → Nat
  | (.string bytes, d) => bytes.length + uptoBulk d + 1
  | (_, d) => uptoBulk d + 1
 end
def uptoSmall : (H : Type) → List (DataW H) → Bool := fun _ ds => decide (uptoBulkAll ds ≤ 1048576)
def OpenSpec.upto (s : _root_.Go.ChangeSpec) : _root_.Go.OpenSpec := { _root_.Go.OpenSpec.ofChange s with cond := some uptoSmall }

/-- 'laws.FnExactIsRedundant', WHERE WHAT IT READS IS OF BULK AT MOST 1048576: true; the input reads as it did. -/
def fnExactIsRedundantUptoRow : OpenClaim := { program := "ytleaemkcbefbgaa", sum := "d871d246df4909f3e1ae1f8ec6dcc3583ccc661265a642b527897234e268306a", func := "loop.example/g03225/laws.FnExactIsRedundant", spec := "fnExactIsRedundant", unfollowed := true, recurses := true, apart := false, narrowed := true }
def FnExactIsRedundantUptoSaid : Prop := fnExactIsRedundantUptoRow.holds Try.pinned (OpenSpec.upto fnExactIsRedundantSpec)

/-- 'laws.FnExactIsWord', WHERE WHAT IT READS IS OF BULK AT MOST 1048576: true; the input reads as it did. -/
def fnExactIsWordUptoRow : OpenClaim := { program := "ytleaemkcbefbgaa", sum := "d871d246df4909f3e1ae1f8ec6dcc3583ccc661265a642b527897234e268306a", func := "loop.example/g03225/laws.FnExactIsWord", spec := "fnExactIsWord", apart := false, narrowed := true }
def FnExactIsWordUptoSaid : Prop := fnExactIsWordUptoRow.holds Try.pinned (OpenSpec.upto fnExactIsWordSpec)

/-- 'laws.FnExactLengthOf', WHERE WHAT IT READS IS OF BULK AT MOST 1048576: true; the input reads as it did. -/
def fnExactLengthOfUptoRow : OpenClaim := { program := "ytleaemkcbefbgaa", sum := "d871d246df4909f3e1ae1f8ec6dcc3583ccc661265a642b527897234e268306a", func := "loop.example/g03225/laws.FnExactLengthOf", spec := "fnExactLengthOf", apart := false, narrowed := true }
def FnExactLengthOfUptoSaid : Prop := fnExactLengthOfUptoRow.holds Try.pinned (OpenSpec.upto fnExactLengthOfSpec)

/-- 'laws.FnExactFullAdd', WHERE WHAT IT READS IS OF BULK AT MOST 1048576: true; the input reads as it did. -/
def fnExactFullAddUptoRow : OpenClaim := { program := "ytleaemkcbefbgaa", sum := "d871d246df4909f3e1ae1f8ec6dcc3583ccc661265a642b527897234e268306a", func := "loop.example/g03225/laws.FnExactFullAdd", spec := "fnExactFullAdd", apart := false, narrowed := true }
def FnExactFullAddUptoSaid : Prop := fnExactFullAddUptoRow.holds Try.pinned (OpenSpec.upto fnExactFullAddSpec)

/-- 'laws.FnExactSumOf', WHERE WHAT IT READS IS OF BULK AT MOST 1048576: true; the input reads as it did. -/
def fnExactSumOfUptoRow : OpenClaim := { program := "ytleaemkcbefbgaa", sum := "d871d246df4909f3e1ae1f8ec6dcc3583ccc661265a642b527897234e268306a", func := "loop.example/g03225/laws.FnExactSumOf", spec := "fnExactSumOf", apart := false, narrowed := true }
def FnExactSumOfUptoSaid : Prop := fnExactSumOfUptoRow.holds Try.pinned (OpenSpec.upto fnExactSumOfSpec)

/-- 'laws.FnExactWeightOf', WHERE WHAT IT READS IS OF BULK AT MOST 1048576: true; the input reads as it did. -/
def fnExactWeightOfUptoRow : OpenClaim := { program := "ytleaemkcbefbgaa", sum := "d871d246df4909f3e1ae1f8ec6dcc3583ccc661265a642b527897234e268306a", func := "loop.example/g03225/laws.FnExactWeightOf", spec := "fnExactWeightOf", apart := false, narrowed := true }
def FnExactWeightOfUptoSaid : Prop := fnExactWeightOfUptoRow.holds Try.pinned (OpenSpec.upto fnExactWeightOfSpec)

/-- 'laws.FnExactValueRedundant', WHERE WHAT IT READS IS OF BULK AT MOST 1048576: true; the input reads as it did. -/
def fnExactValueRedundantUptoRow : OpenClaim := { program := "ytleaemkcbefbgaa", sum := "d871d246df4909f3e1ae1f8ec6dcc3583ccc661265a642b527897234e268306a", func := "loop.example/g03225/laws.FnExactValueRedundant", spec := "fnExactValueRedundant", unfollowed := true, recurses := true, apart := false, narrowed := true }
def FnExactValueRedundantUptoSaid : Prop := fnExactValueRedundantUptoRow.holds Try.pinned (OpenSpec.upto fnExactValueRedundantSpec)

/-- 'laws.FnExactValueOf', WHERE WHAT IT READS IS OF BULK AT MOST 1048576: true; the input reads as it did. -/
def fnExactValueOfUptoRow : OpenClaim := { program := "ytleaemkcbefbgaa", sum := "d871d246df4909f3e1ae1f8ec6dcc3583ccc661265a642b527897234e268306a", func := "loop.example/g03225/laws.FnExactValueOf", spec := "fnExactValueOf", apart := false, narrowed := true }
def FnExactValueOfUptoSaid : Prop := fnExactValueOfUptoRow.holds Try.pinned (OpenSpec.upto fnExactValueOfSpec)

/-- 'laws.FnExactSignWord', WHERE WHAT IT READS IS OF BULK AT MOST 1048576: true; the input reads as it did. -/
def fnExactSignWordUptoRow : OpenClaim := { program := "ytleaemkcbefbgaa", sum := "d871d246df4909f3e1ae1f8ec6dcc3583ccc661265a642b527897234e268306a", func := "loop.example/g03225/laws.FnExactSignWord", spec := "fnExactSignWord", apart := false, narrowed := true }
def FnExactSignWordUptoSaid : Prop := fnExactSignWordUptoRow.holds Try.pinned (OpenSpec.upto fnExactSignWordSpec)

/-- 'laws.FnExactCompareWords', WHERE WHAT IT READS IS OF BULK AT MOST 1048576: true; the input reads as it did. -/
def fnExactCompareWordsUptoRow : OpenClaim := { program := "ytleaemkcbefbgaa", sum := "d871d246df4909f3e1ae1f8ec6dcc3583ccc661265a642b527897234e268306a", func := "loop.example/g03225/laws.FnExactCompareWords", spec := "fnExactCompareWords", apart := false, narrowed := true }
def FnExactCompareWordsUptoSaid : Prop := fnExactCompareWordsUptoRow.holds Try.pinned (OpenSpec.upto fnExactCompareWordsSpec)

/-- 'laws.FnExactFormatWord', WHERE WHAT IT READS IS OF BULK AT MOST 1048576: true; the input reads as it did. -/
def fnExactFormatWordUptoRow : OpenClaim := { program := "ytleaemkcbefbgaa", sum := "d871d246df4909f3e1ae1f8ec6dcc3583ccc661265a642b527897234e268306a", func := "loop.example/g03225/laws.FnExactFormatWord", spec := "fnExactFormatWord", apart := false, narrowed := true }
def FnExactFormatWordUptoSaid : Prop := fnExactFormatWordUptoRow.holds Try.pinned (OpenSpec.upto fnExactFormatWordSpec)

/-- 'laws.FnExactWordOf', WHERE WHAT IT READS IS OF BULK AT MOST 1048576: true; the input reads as it did. -/
def fnExactWordOfUptoRow : OpenClaim := { program := "ytleaemkcbefbgaa", sum := "d871d246df4909f3e1ae1f8ec6dcc3583ccc661265a642b527897234e268306a", func := "loop.example/g03225/laws.FnExactWordOf", spec := "fnExactWordOf", apart := false, narrowed := true }
def FnExactWordOfUptoSaid : Prop := fnExactWordOfUptoRow.holds Try.pinned (OpenSpec.upto fnExactWordOfSpec)

end Rows
end Go.Proofs.Ytleaemkcbefbgaa
