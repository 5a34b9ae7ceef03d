/-
  No cell of these rows narrows 'for every input' (looked for: loops, veiled, ifaces, maps, wideKeys, modest, calm, conditions, laid).
  DERIVED. THE GIVEN ROWS OF THIS SEAT. 11 by the template 'for every input the law returns true; each argument reads behind the call as it read before'; 0 by the template 'total and deterministic' (their statements: YtjbcjkpbggaknaaTotals.lean).
  GIVEN WITH THE SEED: the statements are not yours to turn. If you find one false, say at which input.
  Laid BY PROGRAM, IN A SANDBOX (cutbox-rows.mjs): the forced cells as the released guide's own fill.sh prints them over the translation cd0e2f490a06ff8a… (all of the seat's roots in one cut). By AI agents, Wed Nov 11 2026. No macro, syntax, notation, axiom, sorry.
-/
import Derived.Test.YtjbcjkpbggaknaaChecked
import GoSem.Claim
import GoSem.ClaimJoined
import GoSem.ClaimMapViews
import Derived.JoinedTies
import Derived.KernelRfl
namespace Go.Proofs.Ytjbcjkpbggaknaa
/- THE CELL 'sum', in the pinned program and in every row, IS THE sha256 OF THE DUMP (.gsa) THAT YtjbcjkpbggaknaaProg.lean LOADS. Nothing in Lean hashes anything: it is a label: what it is worth is what the hold of that sum in a sandbox is worth. -/
noncomputable def Try.pinned : Pinned := { name := "ytjbcjkpbggaknaa", sum := "cd0e2f490a06ff8ab3c50f69ed6e844c5bf5195790c8c75da8492987736922f7", checked := Try.checked }
namespace Rows
def none {H : Type} : Left H := { results := [], args := [] }

/-- 'laws.FnExactSliceWord': WHATEVER THE INPUT: true; the input reads as it did. -/
def fnExactSliceWordSpec : ChangeSpec := { name := "fnExactSliceWord", fn := fun _ => fun
  | [d1, d2, d3] => { results := [.lit (.bool true)], args := [d1, d2, d3] }
  | _ => none }
def fnExactSliceWordRow : OpenClaim := { program := "ytjbcjkpbggaknaa", sum := "cd0e2f490a06ff8ab3c50f69ed6e844c5bf5195790c8c75da8492987736922f7", func := "loop.example/g03225/laws.FnExactSliceWord", spec := "fnExactSliceWord", apart := false }
def FnExactSliceWordSaid : Prop := fnExactSliceWordRow.holds Try.pinned (OpenSpec.ofChange fnExactSliceWordSpec)

/-- ITS FALSE NEIGHBOUR: 'it returns false'. Refute it at one input. -/
def fnExactSliceWordWrong : ChangeSpec := { name := "fnExactSliceWord", fn := fun _ => fun
  | [d1, d2, d3] => { results := [.lit (.bool false)], args := [d1, d2, d3] }
  | _ => none }
def FnExactSliceWordWrongFalsely : Prop := fnExactSliceWordRow.holds Try.pinned (OpenSpec.ofChange fnExactSliceWordWrong)

/-- 'laws.FnExactNegateWord': WHATEVER THE INPUT: true; the input reads as it did. -/
def fnExactNegateWordSpec : ChangeSpec := { name := "fnExactNegateWord", fn := fun _ => fun
  | [d] => { results := [.lit (.bool true)], args := [d] }
  | _ => none }
def fnExactNegateWordRow : OpenClaim := { program := "ytjbcjkpbggaknaa", sum := "cd0e2f490a06ff8ab3c50f69ed6e844c5bf5195790c8c75da8492987736922f7", func := "loop.example/g03225/laws.FnExactNegateWord", spec := "fnExactNegateWord", apart := false }
def FnExactNegateWordSaid : Prop := fnExactNegateWordRow.holds Try.pinned (OpenSpec.ofChange fnExactNegateWordSpec)

/-- ITS FALSE NEIGHBOUR: 'it returns false'. Refute it at one input. -/
def fnExactNegateWordWrong : ChangeSpec := { name := "fnExactNegateWord", fn := fun _ => fun
  | [d] => { results := [.lit (.bool false)], args := [d] }
  | _ => none }
def FnExactNegateWordWrongFalsely : Prop := fnExactNegateWordRow.holds Try.pinned (OpenSpec.ofChange fnExactNegateWordWrong)

/-- 'laws.FnExactReverseWord': WHATEVER THE INPUT: true; the input reads as it did. -/
def fnExactReverseWordSpec : ChangeSpec := { name := "fnExactReverseWord", fn := fun _ => fun
  | [d] => { results := [.lit (.bool true)], args := [d] }
  | _ => none }
def fnExactReverseWordRow : OpenClaim := { program := "ytjbcjkpbggaknaa", sum := "cd0e2f490a06ff8ab3c50f69ed6e844c5bf5195790c8c75da8492987736922f7", func := "loop.example/g03225/laws.FnExactReverseWord", spec := "fnExactReverseWord", apart := false }
def FnExactReverseWordSaid : Prop := fnExactReverseWordRow.holds Try.pinned (OpenSpec.ofChange fnExactReverseWordSpec)

/-- ITS FALSE NEIGHBOUR: 'it returns false'. Refute it at one input. -/
def fnExactReverseWordWrong : ChangeSpec := { name := "fnExactReverseWord", fn := fun _ => fun
  | [d] => { results := [.lit (.bool false)], args := [d] }
  | _ => none }
def FnExactReverseWordWrongFalsely : Prop := fnExactReverseWordRow.holds Try.pinned (OpenSpec.ofChange fnExactReverseWordWrong)

/-- 'laws.FnExactAddRedundant': WHATEVER THE INPUT: true; the input reads as it did. -/
def fnExactAddRedundantSpec : ChangeSpec := { name := "fnExactAddRedundant", fn := fun _ => fun
  | [d1, d2] => { results := [.lit (.bool true)], args := [d1, d2] }
  | _ => none }
def fnExactAddRedundantRow : OpenClaim := { program := "ytjbcjkpbggaknaa", sum := "cd0e2f490a06ff8ab3c50f69ed6e844c5bf5195790c8c75da8492987736922f7", func := "loop.example/g03225/laws.FnExactAddRedundant", spec := "fnExactAddRedundant", unfollowed := true, recurses := true, apart := false }
def FnExactAddRedundantSaid : Prop := fnExactAddRedundantRow.holds Try.pinned (OpenSpec.ofChange fnExactAddRedundantSpec)

/-- ITS FALSE NEIGHBOUR: 'it returns false'. Refute it at one input. -/
def fnExactAddRedundantWrong : ChangeSpec := { name := "fnExactAddRedundant", fn := fun _ => fun
  | [d1, d2] => { results := [.lit (.bool false)], args := [d1, d2] }
  | _ => none }
def FnExactAddRedundantWrongFalsely : Prop := fnExactAddRedundantRow.holds Try.pinned (OpenSpec.ofChange fnExactAddRedundantWrong)

/-- 'laws.FnExactJoinWords': WHATEVER THE INPUT: true; the input reads as it did. -/
def fnExactJoinWordsSpec : ChangeSpec := { name := "fnExactJoinWords", fn := fun _ => fun
  | [d1, d2] => { results := [.lit (.bool true)], args := [d1, d2] }
  | _ => none }
def fnExactJoinWordsRow : OpenClaim := { program := "ytjbcjkpbggaknaa", sum := "cd0e2f490a06ff8ab3c50f69ed6e844c5bf5195790c8c75da8492987736922f7", func := "loop.example/g03225/laws.FnExactJoinWords", spec := "fnExactJoinWords", apart := false }
def FnExactJoinWordsSaid : Prop := fnExactJoinWordsRow.holds Try.pinned (OpenSpec.ofChange fnExactJoinWordsSpec)

/-- ITS FALSE NEIGHBOUR: 'it returns false'. Refute it at one input. -/
def fnExactJoinWordsWrong : ChangeSpec := { name := "fnExactJoinWords", fn := fun _ => fun
  | [d1, d2] => { results := [.lit (.bool false)], args := [d1, d2] }
  | _ => none }
def FnExactJoinWordsWrongFalsely : Prop := fnExactJoinWordsRow.holds Try.pinned (OpenSpec.ofChange fnExactJoinWordsWrong)

/-- 'laws.FnExactRoundWord': WHATEVER THE INPUT: true; the input reads as it did. -/
def fnExactRoundWordSpec : ChangeSpec := { name := "fnExactRoundWord", fn := fun _ => fun
  | [d1, d2] => { results := [.lit (.bool true)], args := [d1, d2] }
  | _ => none }
def fnExactRoundWordRow : OpenClaim := { program := "ytjbcjkpbggaknaa", sum := "cd0e2f490a06ff8ab3c50f69ed6e844c5bf5195790c8c75da8492987736922f7", func := "loop.example/g03225/laws.FnExactRoundWord", spec := "fnExactRoundWord", apart := false }
def FnExactRoundWordSaid : Prop := fnExactRoundWordRow.holds Try.pinned (OpenSpec.ofChange fnExactRoundWordSpec)

/-- ITS FALSE NEIGHBOUR: 'it returns false'. Refute it at one input. -/
def fnExactRoundWordWrong : ChangeSpec := { name := "fnExactRoundWord", fn := fun _ => fun
  | [d1, d2] => { results := [.lit (.bool false)], args := [d1, d2] }
  | _ => none }
def FnExactRoundWordWrongFalsely : Prop := fnExactRoundWordRow.holds Try.pinned (OpenSpec.ofChange fnExactRoundWordWrong)

/-- 'laws.FnExactParseWord': WHATEVER THE INPUT: true; the input reads as it did. -/
def fnExactParseWordSpec : ChangeSpec := { name := "fnExactParseWord", fn := fun _ => fun
  | [d] => { results := [.lit (.bool true)], args := [d] }
  | _ => none }
def fnExactParseWordRow : OpenClaim := { program := "ytjbcjkpbggaknaa", sum := "cd0e2f490a06ff8ab3c50f69ed6e844c5bf5195790c8c75da8492987736922f7", func := "loop.example/g03225/laws.FnExactParseWord", spec := "fnExactParseWord", apart := false }
def FnExactParseWordSaid : Prop := fnExactParseWordRow.holds Try.pinned (OpenSpec.ofChange fnExactParseWordSpec)

/-- ITS FALSE NEIGHBOUR: 'it returns false'. Refute it at one input. -/
def fnExactParseWordWrong : ChangeSpec := { name := "fnExactParseWord", fn := fun _ => fun
  | [d] => { results := [.lit (.bool false)], args := [d] }
  | _ => none }
def FnExactParseWordWrongFalsely : Prop := fnExactParseWordRow.holds Try.pinned (OpenSpec.ofChange fnExactParseWordWrong)

/-- 'laws.FnExactShiftWord': WHATEVER THE INPUT: true; the input reads as it did. -/
def fnExactShiftWordSpec : ChangeSpec := { name := "fnExactShiftWord", fn := fun _ => fun
  | [d1, d2] => { results := [.lit (.bool true)], args := [d1, d2] }
  | _ => none }
def fnExactShiftWordRow : OpenClaim := { program := "ytjbcjkpbggaknaa", sum := "cd0e2f490a06ff8ab3c50f69ed6e844c5bf5195790c8c75da8492987736922f7", func := "loop.example/g03225/laws.FnExactShiftWord", spec := "fnExactShiftWord", apart := false }
def FnExactShiftWordSaid : Prop := fnExactShiftWordRow.holds Try.pinned (OpenSpec.ofChange fnExactShiftWordSpec)

/-- ITS FALSE NEIGHBOUR: 'it returns false'. Refute it at one input. -/
def fnExactShiftWordWrong : ChangeSpec := { name := "fnExactShiftWord", fn := fun _ => fun
  | [d1, d2] => { results := [.lit (.bool false)], args := [d1, d2] }
  | _ => none }
def FnExactShiftWordWrongFalsely : Prop := fnExactShiftWordRow.holds Try.pinned (OpenSpec.ofChange fnExactShiftWordWrong)

/-- 'laws.FnExactCarrySave': WHATEVER THE INPUT: true; the input reads as it did. -/
def fnExactCarrySaveSpec : ChangeSpec := { name := "fnExactCarrySave", fn := fun _ => fun
  | [d1, d2, d3] => { results := [.lit (.bool true)], args := [d1, d2, d3] }
  | _ => none }
def fnExactCarrySaveRow : OpenClaim := { program := "ytjbcjkpbggaknaa", sum := "cd0e2f490a06ff8ab3c50f69ed6e844c5bf5195790c8c75da8492987736922f7", func := "loop.example/g03225/laws.FnExactCarrySave", spec := "fnExactCarrySave", unfollowed := true, recurses := true, apart := false }
def FnExactCarrySaveSaid : Prop := fnExactCarrySaveRow.holds Try.pinned (OpenSpec.ofChange fnExactCarrySaveSpec)

/-- ITS FALSE NEIGHBOUR: 'it returns false'. Refute it at one input. -/
def fnExactCarrySaveWrong : ChangeSpec := { name := "fnExactCarrySave", fn := fun _ => fun
  | [d1, d2, d3] => { results := [.lit (.bool false)], args := [d1, d2, d3] }
  | _ => none }
def FnExactCarrySaveWrongFalsely : Prop := fnExactCarrySaveRow.holds Try.pinned (OpenSpec.ofChange fnExactCarrySaveWrong)

/-- 'laws.FnExactAddWords': WHATEVER THE INPUT: true; the input reads as it did. -/
def fnExactAddWordsSpec : ChangeSpec := { name := "fnExactAddWords", fn := fun _ => fun
  | [d1, d2, d3] => { results := [.lit (.bool true)], args := [d1, d2, d3] }
  | _ => none }
def fnExactAddWordsRow : OpenClaim := { program := "ytjbcjkpbggaknaa", sum := "cd0e2f490a06ff8ab3c50f69ed6e844c5bf5195790c8c75da8492987736922f7", func := "loop.example/g03225/laws.FnExactAddWords", spec := "fnExactAddWords", unfollowed := true, recurses := true, apart := false }
def FnExactAddWordsSaid : Prop := fnExactAddWordsRow.holds Try.pinned (OpenSpec.ofChange fnExactAddWordsSpec)

/-- ITS FALSE NEIGHBOUR: 'it returns false'. Refute it at one input. -/
def fnExactAddWordsWrong : ChangeSpec := { name := "fnExactAddWords", fn := fun _ => fun
  | [d1, d2, d3] => { results := [.lit (.bool false)], args := [d1, d2, d3] }
  | _ => none }
def FnExactAddWordsWrongFalsely : Prop := fnExactAddWordsRow.holds Try.pinned (OpenSpec.ofChange fnExactAddWordsWrong)

/-- 'laws.FnExactExtendWord': WHATEVER THE INPUT: true; the input reads as it did. -/
def fnExactExtendWordSpec : ChangeSpec := { name := "fnExactExtendWord", fn := fun _ => fun
  | [d1, d2] => { results := [.lit (.bool true)], args := [d1, d2] }
  | _ => none }
def fnExactExtendWordRow : OpenClaim := { program := "ytjbcjkpbggaknaa", sum := "cd0e2f490a06ff8ab3c50f69ed6e844c5bf5195790c8c75da8492987736922f7", func := "loop.example/g03225/laws.FnExactExtendWord", spec := "fnExactExtendWord", apart := false }
def FnExactExtendWordSaid : Prop := fnExactExtendWordRow.holds Try.pinned (OpenSpec.ofChange fnExactExtendWordSpec)

/-- ITS FALSE NEIGHBOUR: 'it returns false'. Refute it at one input. -/
def fnExactExtendWordWrong : ChangeSpec := { name := "fnExactExtendWord", fn := fun _ => fun
  | [d1, d2] => { results := [.lit (.bool false)], args := [d1, d2] }
  | _ => none }
def FnExactExtendWordWrongFalsely : Prop := fnExactExtendWordRow.holds Try.pinned (OpenSpec.ofChange fnExactExtendWordWrong)

/- THE SECOND FORM. 'bulk': how many values and letters a reading holds, each counted each time it is reached (what is shared counts as often as it is met; a slice's spare places count too). A statement '..UptoSaid' is the law's where the arguments, and the package variables that the reading takes, are together of bulk at most 1048576: NARROWER than '..Said'. Prove '..Said' where nothing that the law and all that it calls make is longer than what came in: it says more and counts as full. Else prove '..UptoSaid'. A law counts once. -/
mutual
def uptoBulk {H : Type} : DataW H → Nat
  | .lit (.string bytes) => bytes.length + 1
  | .lit _ => 1
  | .nil => 1
  | .ptr d => uptoBulk d + 1
  | .slice elems spare => uptoBulkAll elems + uptoBulkAll spare + 1
  | .agg parts => uptoBulkAll parts + 1
  | .iface _ d => uptoBulk d + 1
  | .map entries => uptoBulkEntries entries + 1
  | .held _ => 1
def uptoBulkAll {H : Type} : List (DataW H) → Nat
  | [] => 0
  | d :: r => uptoBulk d + uptoBulkAll r
def uptoBulkEntries {H : Type} : List (Lit × DataW H) → Nat
  | [] => 0
  | x :: r => uptoBulkEntry x + uptoBulkEntries r
def uptoBulkEntry {H : Type} : Lit × DataW H → Nat
  | (.string bytes, d) => bytes.length + uptoBulk d + 1
  | (_, d) => uptoBulk d + 1
 end
def uptoSmall : (H : Type) → List (DataW H) → Bool := fun _ ds => decide (uptoBulkAll ds ≤ 1048576)
def OpenSpec.upto (s : _root_.Go.ChangeSpec) : _root_.Go.OpenSpec := { _root_.Go.OpenSpec.ofChange s with cond := some uptoSmall }

/-- 'laws.FnExactSliceWord', WHERE WHAT IT READS IS OF BULK AT MOST 1048576: true; the input reads as it did. -/
def fnExactSliceWordUptoRow : OpenClaim := { program := "ytjbcjkpbggaknaa", sum := "cd0e2f490a06ff8ab3c50f69ed6e844c5bf5195790c8c75da8492987736922f7", func := "loop.example/g03225/laws.FnExactSliceWord", spec := "fnExactSliceWord", apart := false, narrowed := true }
def FnExactSliceWordUptoSaid : Prop := fnExactSliceWordUptoRow.holds Try.pinned (OpenSpec.upto fnExactSliceWordSpec)

/-- 'laws.FnExactNegateWord', WHERE WHAT IT READS IS OF BULK AT MOST 1048576: true; the input reads as it did. -/
def fnExactNegateWordUptoRow : OpenClaim := { program := "ytjbcjkpbggaknaa", sum := "cd0e2f490a06ff8ab3c50f69ed6e844c5bf5195790c8c75da8492987736922f7", func := "loop.example/g03225/laws.FnExactNegateWord", spec := "fnExactNegateWord", apart := false, narrowed := true }
def FnExactNegateWordUptoSaid : Prop := fnExactNegateWordUptoRow.holds Try.pinned (OpenSpec.upto fnExactNegateWordSpec)

/-- 'laws.FnExactReverseWord', WHERE WHAT IT READS IS OF BULK AT MOST 1048576: true; the input reads as it did. -/
def fnExactReverseWordUptoRow : OpenClaim := { program := "ytjbcjkpbggaknaa", sum := "cd0e2f490a06ff8ab3c50f69ed6e844c5bf5195790c8c75da8492987736922f7", func := "loop.example/g03225/laws.FnExactReverseWord", spec := "fnExactReverseWord", apart := false, narrowed := true }
def FnExactReverseWordUptoSaid : Prop := fnExactReverseWordUptoRow.holds Try.pinned (OpenSpec.upto fnExactReverseWordSpec)

/-- 'laws.FnExactAddRedundant', WHERE WHAT IT READS IS OF BULK AT MOST 1048576: true; the input reads as it did. -/
def fnExactAddRedundantUptoRow : OpenClaim := { program := "ytjbcjkpbggaknaa", sum := "cd0e2f490a06ff8ab3c50f69ed6e844c5bf5195790c8c75da8492987736922f7", func := "loop.example/g03225/laws.FnExactAddRedundant", spec := "fnExactAddRedundant", unfollowed := true, recurses := true, apart := false, narrowed := true }
def FnExactAddRedundantUptoSaid : Prop := fnExactAddRedundantUptoRow.holds Try.pinned (OpenSpec.upto fnExactAddRedundantSpec)

/-- 'laws.FnExactJoinWords', WHERE WHAT IT READS IS OF BULK AT MOST 1048576: true; the input reads as it did. -/
def fnExactJoinWordsUptoRow : OpenClaim := { program := "ytjbcjkpbggaknaa", sum := "cd0e2f490a06ff8ab3c50f69ed6e844c5bf5195790c8c75da8492987736922f7", func := "loop.example/g03225/laws.FnExactJoinWords", spec := "fnExactJoinWords", apart := false, narrowed := true }
def FnExactJoinWordsUptoSaid : Prop := fnExactJoinWordsUptoRow.holds Try.pinned (OpenSpec.upto fnExactJoinWordsSpec)

/-- 'laws.FnExactRoundWord', WHERE WHAT IT READS IS OF BULK AT MOST 1048576: true; the input reads as it did. -/
def fnExactRoundWordUptoRow : OpenClaim := { program := "ytjbcjkpbggaknaa", sum := "cd0e2f490a06ff8ab3c50f69ed6e844c5bf5195790c8c75da8492987736922f7", func := "loop.example/g03225/laws.FnExactRoundWord", spec := "fnExactRoundWord", apart := false, narrowed := true }
def FnExactRoundWordUptoSaid : Prop := fnExactRoundWordUptoRow.holds Try.pinned (OpenSpec.upto fnExactRoundWordSpec)

/-- 'laws.FnExactParseWord', WHERE WHAT IT READS IS OF BULK AT MOST 1048576: true; the input reads as it did. -/
def fnExactParseWordUptoRow : OpenClaim := { program := "ytjbcjkpbggaknaa", sum := "cd0e2f490a06ff8ab3c50f69ed6e844c5bf5195790c8c75da8492987736922f7", func := "loop.example/g03225/laws.FnExactParseWord", spec := "fnExactParseWord", apart := false, narrowed := true }
def FnExactParseWordUptoSaid : Prop := fnExactParseWordUptoRow.holds Try.pinned (OpenSpec.upto fnExactParseWordSpec)

/-- 'laws.FnExactShiftWord', WHERE WHAT IT READS IS OF BULK AT MOST 1048576: true; the input reads as it did. -/
def fnExactShiftWordUptoRow : OpenClaim := { program := "ytjbcjkpbggaknaa", sum := "cd0e2f490a06ff8ab3c50f69ed6e844c5bf5195790c8c75da8492987736922f7", func := "loop.example/g03225/laws.FnExactShiftWord", spec := "fnExactShiftWord", apart := false, narrowed := true }
def FnExactShiftWordUptoSaid : Prop := fnExactShiftWordUptoRow.holds Try.pinned (OpenSpec.upto fnExactShiftWordSpec)

/-- 'laws.FnExactCarrySave', WHERE WHAT IT READS IS OF BULK AT MOST 1048576: true; the input reads as it did. -/
def fnExactCarrySaveUptoRow : OpenClaim := { program := "ytjbcjkpbggaknaa", sum := "cd0e2f490a06ff8ab3c50f69ed6e844c5bf5195790c8c75da8492987736922f7", func := "loop.example/g03225/laws.FnExactCarrySave", spec := "fnExactCarrySave", unfollowed := true, recurses := true, apart := false, narrowed := true }
def FnExactCarrySaveUptoSaid : Prop := fnExactCarrySaveUptoRow.holds Try.pinned (OpenSpec.upto fnExactCarrySaveSpec)

/-- 'laws.FnExactAddWords', WHERE WHAT IT READS IS OF BULK AT MOST 1048576: true; the input reads as it did. -/
def fnExactAddWordsUptoRow : OpenClaim := { program := "ytjbcjkpbggaknaa", sum := "cd0e2f490a06ff8ab3c50f69ed6e844c5bf5195790c8c75da8492987736922f7", func := "loop.example/g03225/laws.FnExactAddWords", spec := "fnExactAddWords", unfollowed := true, recurses := true, apart := false, narrowed := true }
def FnExactAddWordsUptoSaid : Prop := fnExactAddWordsUptoRow.holds Try.pinned (OpenSpec.upto fnExactAddWordsSpec)

/-- 'laws.FnExactExtendWord', WHERE WHAT IT READS IS OF BULK AT MOST 1048576: true; the input reads as it did. -/
def fnExactExtendWordUptoRow : OpenClaim := { program := "ytjbcjkpbggaknaa", sum := "cd0e2f490a06ff8ab3c50f69ed6e844c5bf5195790c8c75da8492987736922f7", func := "loop.example/g03225/laws.FnExactExtendWord", spec := "fnExactExtendWord", apart := false, narrowed := true }
def FnExactExtendWordUptoSaid : Prop := fnExactExtendWordUptoRow.holds Try.pinned (OpenSpec.upto fnExactExtendWordSpec)

end Rows
end Go.Proofs.Ytjbcjkpbggaknaa
