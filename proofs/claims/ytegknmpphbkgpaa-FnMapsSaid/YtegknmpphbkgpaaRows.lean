/-
  No cell of these rows narrows 'for every input' (looked for: loops, veiled, ifaces, maps, wideKeys, modest, calm, conditions, laid).
  DERIVED. THE GIVEN ROWS OF THIS SEAT. 12 by the template 'for every input the law returns true; each argument reads behind the call as it read before'; 0 by the template 'total and deterministic' (their statements: YtegknmpphbkgpaaTotals.lean).
  GIVEN WITH THE SEED: the statements are not yours to turn. If you find one false, say at which input.
  Laid BY PROGRAM, IN A SANDBOX (cutbox-rows.mjs): the forced cells as the released guide's own fill.sh prints them over the translation 99e2809e547d3f91… (all of the seat's roots in one cut). By AI agents, Wed Nov 11 2026. No macro, syntax, notation, axiom, sorry.
-/
import Derived.Test.YtegknmpphbkgpaaChecked
import GoSem.Claim
import GoSem.ClaimJoined
import GoSem.ClaimMapViews
import Derived.JoinedTies
import Derived.KernelRfl
namespace Go.Proofs.Ytegknmpphbkgpaa
/- THE CELL 'sum', in the pinned program and in every row, IS THE sha256 OF THE DUMP (.gsa) THAT YtegknmpphbkgpaaProg.lean LOADS. Nothing in Lean hashes anything: it is a label: what it is worth is what the hold of that sum in a sandbox is worth. -/
noncomputable def Try.pinned : Pinned := { name := "ytegknmpphbkgpaa", sum := "99e2809e547d3f919cd79a7b93675ce3314a909e7b68051e7ccec68e27db5100", checked := Try.checked }
namespace Rows
def none {H : Type} : Left H := { results := [], args := [] }

/-- 'laws.FnExactIsTable': WHATEVER THE INPUT: true; the input reads as it did. -/
def fnExactIsTableSpec : ChangeSpec := { name := "fnExactIsTable", fn := fun _ => fun
  | [d] => { results := [.lit (.bool true)], args := [d] }
  | _ => none }
def fnExactIsTableRow : OpenClaim := { program := "ytegknmpphbkgpaa", sum := "99e2809e547d3f919cd79a7b93675ce3314a909e7b68051e7ccec68e27db5100", func := "loop.example/g03225/laws.FnExactIsTable", spec := "fnExactIsTable", apart := false }
def FnExactIsTableSaid : Prop := fnExactIsTableRow.holds Try.pinned (OpenSpec.ofChange fnExactIsTableSpec)

/-- ITS FALSE NEIGHBOUR: 'it returns false'. Refute it at one input. -/
def fnExactIsTableWrong : ChangeSpec := { name := "fnExactIsTable", fn := fun _ => fun
  | [d] => { results := [.lit (.bool false)], args := [d] }
  | _ => none }
def FnExactIsTableWrongFalsely : Prop := fnExactIsTableRow.holds Try.pinned (OpenSpec.ofChange fnExactIsTableWrong)

/-- 'laws.FnExactLookUp': WHATEVER THE INPUT: true; the input reads as it did. -/
def fnExactLookUpSpec : ChangeSpec := { name := "fnExactLookUp", fn := fun _ => fun
  | [d1, d2, d3] => { results := [.lit (.bool true)], args := [d1, d2, d3] }
  | _ => none }
def fnExactLookUpRow : OpenClaim := { program := "ytegknmpphbkgpaa", sum := "99e2809e547d3f919cd79a7b93675ce3314a909e7b68051e7ccec68e27db5100", func := "loop.example/g03225/laws.FnExactLookUp", spec := "fnExactLookUp", apart := false }
def FnExactLookUpSaid : Prop := fnExactLookUpRow.holds Try.pinned (OpenSpec.ofChange fnExactLookUpSpec)

/-- ITS FALSE NEIGHBOUR: 'it returns false'. Refute it at one input. -/
def fnExactLookUpWrong : ChangeSpec := { name := "fnExactLookUp", fn := fun _ => fun
  | [d1, d2, d3] => { results := [.lit (.bool false)], args := [d1, d2, d3] }
  | _ => none }
def FnExactLookUpWrongFalsely : Prop := fnExactLookUpRow.holds Try.pinned (OpenSpec.ofChange fnExactLookUpWrong)

/-- 'laws.FnExactThenMap': WHATEVER THE INPUT: true; the input reads as it did. -/
def fnExactThenMapSpec : ChangeSpec := { name := "fnExactThenMap", fn := fun _ => fun
  | [d1, d2] => { results := [.lit (.bool true)], args := [d1, d2] }
  | _ => none }
def fnExactThenMapRow : OpenClaim := { program := "ytegknmpphbkgpaa", sum := "99e2809e547d3f919cd79a7b93675ce3314a909e7b68051e7ccec68e27db5100", func := "loop.example/g03225/laws.FnExactThenMap", spec := "fnExactThenMap", apart := false }
def FnExactThenMapSaid : Prop := fnExactThenMapRow.holds Try.pinned (OpenSpec.ofChange fnExactThenMapSpec)

/-- ITS FALSE NEIGHBOUR: 'it returns false'. Refute it at one input. -/
def fnExactThenMapWrong : ChangeSpec := { name := "fnExactThenMap", fn := fun _ => fun
  | [d1, d2] => { results := [.lit (.bool false)], args := [d1, d2] }
  | _ => none }
def FnExactThenMapWrongFalsely : Prop := fnExactThenMapRow.holds Try.pinned (OpenSpec.ofChange fnExactThenMapWrong)

/-- 'laws.FnExactFormatTable': WHATEVER THE INPUT: true; the input reads as it did. -/
def fnExactFormatTableSpec : ChangeSpec := { name := "fnExactFormatTable", fn := fun _ => fun
  | [d] => { results := [.lit (.bool true)], args := [d] }
  | _ => none }
def fnExactFormatTableRow : OpenClaim := { program := "ytegknmpphbkgpaa", sum := "99e2809e547d3f919cd79a7b93675ce3314a909e7b68051e7ccec68e27db5100", func := "loop.example/g03225/laws.FnExactFormatTable", spec := "fnExactFormatTable", apart := false }
def FnExactFormatTableSaid : Prop := fnExactFormatTableRow.holds Try.pinned (OpenSpec.ofChange fnExactFormatTableSpec)

/-- ITS FALSE NEIGHBOUR: 'it returns false'. Refute it at one input. -/
def fnExactFormatTableWrong : ChangeSpec := { name := "fnExactFormatTable", fn := fun _ => fun
  | [d] => { results := [.lit (.bool false)], args := [d] }
  | _ => none }
def FnExactFormatTableWrongFalsely : Prop := fnExactFormatTableRow.holds Try.pinned (OpenSpec.ofChange fnExactFormatTableWrong)

/-- 'laws.FnExactIsMonotone': WHATEVER THE INPUT: true; the input reads as it did. -/
def fnExactIsMonotoneSpec : ChangeSpec := { name := "fnExactIsMonotone", fn := fun _ => fun
  | [d] => { results := [.lit (.bool true)], args := [d] }
  | _ => none }
def fnExactIsMonotoneRow : OpenClaim := { program := "ytegknmpphbkgpaa", sum := "99e2809e547d3f919cd79a7b93675ce3314a909e7b68051e7ccec68e27db5100", func := "loop.example/g03225/laws.FnExactIsMonotone", spec := "fnExactIsMonotone", apart := false }
def FnExactIsMonotoneSaid : Prop := fnExactIsMonotoneRow.holds Try.pinned (OpenSpec.ofChange fnExactIsMonotoneSpec)

/-- ITS FALSE NEIGHBOUR: 'it returns false'. Refute it at one input. -/
def fnExactIsMonotoneWrong : ChangeSpec := { name := "fnExactIsMonotone", fn := fun _ => fun
  | [d] => { results := [.lit (.bool false)], args := [d] }
  | _ => none }
def FnExactIsMonotoneWrongFalsely : Prop := fnExactIsMonotoneRow.holds Try.pinned (OpenSpec.ofChange fnExactIsMonotoneWrong)

/-- 'laws.FnExactParseTable': WHATEVER THE INPUT: true; the input reads as it did. -/
def fnExactParseTableSpec : ChangeSpec := { name := "fnExactParseTable", fn := fun _ => fun
  | [d] => { results := [.lit (.bool true)], args := [d] }
  | _ => none }
def fnExactParseTableRow : OpenClaim := { program := "ytegknmpphbkgpaa", sum := "99e2809e547d3f919cd79a7b93675ce3314a909e7b68051e7ccec68e27db5100", func := "loop.example/g03225/laws.FnExactParseTable", spec := "fnExactParseTable", apart := false }
def FnExactParseTableSaid : Prop := fnExactParseTableRow.holds Try.pinned (OpenSpec.ofChange fnExactParseTableSpec)

/-- ITS FALSE NEIGHBOUR: 'it returns false'. Refute it at one input. -/
def fnExactParseTableWrong : ChangeSpec := { name := "fnExactParseTable", fn := fun _ => fun
  | [d] => { results := [.lit (.bool false)], args := [d] }
  | _ => none }
def FnExactParseTableWrongFalsely : Prop := fnExactParseTableRow.holds Try.pinned (OpenSpec.ofChange fnExactParseTableWrong)

/-- 'laws.FnExactMapOf': WHATEVER THE INPUT: true; the input reads as it did. -/
def fnExactMapOfSpec : ChangeSpec := { name := "fnExactMapOf", fn := fun _ => fun
  | [d1, d2] => { results := [.lit (.bool true)], args := [d1, d2] }
  | _ => none }
def fnExactMapOfRow : OpenClaim := { program := "ytegknmpphbkgpaa", sum := "99e2809e547d3f919cd79a7b93675ce3314a909e7b68051e7ccec68e27db5100", func := "loop.example/g03225/laws.FnExactMapOf", spec := "fnExactMapOf", apart := false }
def FnExactMapOfSaid : Prop := fnExactMapOfRow.holds Try.pinned (OpenSpec.ofChange fnExactMapOfSpec)

/-- ITS FALSE NEIGHBOUR: 'it returns false'. Refute it at one input. -/
def fnExactMapOfWrong : ChangeSpec := { name := "fnExactMapOf", fn := fun _ => fun
  | [d1, d2] => { results := [.lit (.bool false)], args := [d1, d2] }
  | _ => none }
def FnExactMapOfWrongFalsely : Prop := fnExactMapOfRow.holds Try.pinned (OpenSpec.ofChange fnExactMapOfWrong)

/-- 'laws.FnExactDualTable': WHATEVER THE INPUT: true; the input reads as it did. -/
def fnExactDualTableSpec : ChangeSpec := { name := "fnExactDualTable", fn := fun _ => fun
  | [d] => { results := [.lit (.bool true)], args := [d] }
  | _ => none }
def fnExactDualTableRow : OpenClaim := { program := "ytegknmpphbkgpaa", sum := "99e2809e547d3f919cd79a7b93675ce3314a909e7b68051e7ccec68e27db5100", func := "loop.example/g03225/laws.FnExactDualTable", spec := "fnExactDualTable", unfollowed := true, recurses := true, apart := false }
def FnExactDualTableSaid : Prop := fnExactDualTableRow.holds Try.pinned (OpenSpec.ofChange fnExactDualTableSpec)

/-- ITS FALSE NEIGHBOUR: 'it returns false'. Refute it at one input. -/
def fnExactDualTableWrong : ChangeSpec := { name := "fnExactDualTable", fn := fun _ => fun
  | [d] => { results := [.lit (.bool false)], args := [d] }
  | _ => none }
def FnExactDualTableWrongFalsely : Prop := fnExactDualTableRow.holds Try.pinned (OpenSpec.ofChange fnExactDualTableWrong)

/-- 'laws.FnExactSwapTable': WHATEVER THE INPUT: true; the input reads as it did. -/
def fnExactSwapTableSpec : ChangeSpec := { name := "fnExactSwapTable", fn := fun _ => fun
  | [d] => { results := [.lit (.bool true)], args := [d] }
  | _ => none }
def fnExactSwapTableRow : OpenClaim := { program := "ytegknmpphbkgpaa", sum := "99e2809e547d3f919cd79a7b93675ce3314a909e7b68051e7ccec68e27db5100", func := "loop.example/g03225/laws.FnExactSwapTable", spec := "fnExactSwapTable", unfollowed := true, recurses := true, apart := false }
def FnExactSwapTableSaid : Prop := fnExactSwapTableRow.holds Try.pinned (OpenSpec.ofChange fnExactSwapTableSpec)

/-- ITS FALSE NEIGHBOUR: 'it returns false'. Refute it at one input. -/
def fnExactSwapTableWrong : ChangeSpec := { name := "fnExactSwapTable", fn := fun _ => fun
  | [d] => { results := [.lit (.bool false)], args := [d] }
  | _ => none }
def FnExactSwapTableWrongFalsely : Prop := fnExactSwapTableRow.holds Try.pinned (OpenSpec.ofChange fnExactSwapTableWrong)

/-- 'laws.FnExactTableOf': WHATEVER THE INPUT: true; the input reads as it did. -/
def fnExactTableOfSpec : ChangeSpec := { name := "fnExactTableOf", fn := fun _ => fun
  | [d] => { results := [.lit (.bool true)], args := [d] }
  | _ => none }
def fnExactTableOfRow : OpenClaim := { program := "ytegknmpphbkgpaa", sum := "99e2809e547d3f919cd79a7b93675ce3314a909e7b68051e7ccec68e27db5100", func := "loop.example/g03225/laws.FnExactTableOf", spec := "fnExactTableOf", unfollowed := true, recurses := true, apart := false }
def FnExactTableOfSaid : Prop := fnExactTableOfRow.holds Try.pinned (OpenSpec.ofChange fnExactTableOfSpec)

/-- ITS FALSE NEIGHBOUR: 'it returns false'. Refute it at one input. -/
def fnExactTableOfWrong : ChangeSpec := { name := "fnExactTableOf", fn := fun _ => fun
  | [d] => { results := [.lit (.bool false)], args := [d] }
  | _ => none }
def FnExactTableOfWrongFalsely : Prop := fnExactTableOfRow.holds Try.pinned (OpenSpec.ofChange fnExactTableOfWrong)

/-- 'laws.FnTables': WHATEVER THE INPUT: true; the input reads as it did. -/
def fnTablesSpec : ChangeSpec := { name := "fnTables", fn := fun _ => fun
  | [d] => { results := [.lit (.bool true)], args := [d] }
  | _ => none }
def fnTablesRow : OpenClaim := { program := "ytegknmpphbkgpaa", sum := "99e2809e547d3f919cd79a7b93675ce3314a909e7b68051e7ccec68e27db5100", func := "loop.example/g03225/laws.FnTables", spec := "fnTables", unfollowed := true, recurses := true, apart := false }
def FnTablesSaid : Prop := fnTablesRow.holds Try.pinned (OpenSpec.ofChange fnTablesSpec)

/-- ITS FALSE NEIGHBOUR: 'it returns false'. Refute it at one input. -/
def fnTablesWrong : ChangeSpec := { name := "fnTables", fn := fun _ => fun
  | [d] => { results := [.lit (.bool false)], args := [d] }
  | _ => none }
def FnTablesWrongFalsely : Prop := fnTablesRow.holds Try.pinned (OpenSpec.ofChange fnTablesWrong)

/-- 'laws.FnMaps': WHATEVER THE INPUT: true; the input reads as it did. -/
def fnMapsSpec : ChangeSpec := { name := "fnMaps", fn := fun _ => fun
  | [d] => { results := [.lit (.bool true)], args := [d] }
  | _ => none }
def fnMapsRow : OpenClaim := { program := "ytegknmpphbkgpaa", sum := "99e2809e547d3f919cd79a7b93675ce3314a909e7b68051e7ccec68e27db5100", func := "loop.example/g03225/laws.FnMaps", spec := "fnMaps", unfollowed := true, recurses := true, apart := false }
def FnMapsSaid : Prop := fnMapsRow.holds Try.pinned (OpenSpec.ofChange fnMapsSpec)

/-- ITS FALSE NEIGHBOUR: 'it returns false'. Refute it at one input. -/
def fnMapsWrong : ChangeSpec := { name := "fnMaps", fn := fun _ => fun
  | [d] => { results := [.lit (.bool false)], args := [d] }
  | _ => none }
def FnMapsWrongFalsely : Prop := fnMapsRow.holds Try.pinned (OpenSpec.ofChange fnMapsWrong)

/- THE SECOND FORM. 'bulk': how many values and letters a reading holds, each counted each time it is reached (what is shared counts as often as it is met; a slice's spare places count too). A statement '..UptoSaid' is the law's where the arguments, and the package variables that the reading takes, are together of bulk at most 1048576: NARROWER than '..Said'. Prove '..Said' where nothing that the law and all that it calls make is longer than what came in: it says more and counts as full. Else prove '..UptoSaid'. A law counts once. -/
mutual
def uptoBulk {H : Type} : DataW H → Nat
  | .lit (.string bytes) => bytes.length + 1
  | .lit _ => 1
  | .nil => 1
  | .ptr d => uptoBulk d + 1
  | .slice elems spare => uptoBulkAll elems + uptoBulkAll spare + 1
  | .agg parts => uptoBulkAll parts + 1
  | .iface _ d => uptoBulk d + 1
  | .map entries => uptoBulkEntries entries + 1
  | .held _ => 1
def uptoBulkAll {H : Type} : List (DataW H) → Nat
  | [] => 0
  | d :: r => uptoBulk d + uptoBulkAll r
def uptoBulkEntries {H : Type} : List (Lit × DataW H) → Nat
  | [] => 0
  | x :: r => uptoBulkEntry x + uptoBulkEntries r
def uptoBulkEntry {H : Type} : Lit × DataW H → Nat
  | (.string bytes, d) => bytes.length + uptoBulk d + 1
  | (_, d) => uptoBulk d + 1
 end
def uptoSmall : (H : Type) → List (DataW H) → Bool := fun _ ds => decide (uptoBulkAll ds ≤ 1048576)
def OpenSpec.upto (s : _root_.Go.ChangeSpec) : _root_.Go.OpenSpec := { _root_.Go.OpenSpec.ofChange s with cond := some uptoSmall }

/-- 'laws.FnExactIsTable', WHERE WHAT IT READS IS OF BULK AT MOST 1048576: true; the input reads as it did. -/
def fnExactIsTableUptoRow : OpenClaim := { program := "ytegknmpphbkgpaa", sum := "99e2809e547d3f919cd79a7b93675ce3314a909e7b68051e7ccec68e27db5100", func := "loop.example/g03225/laws.FnExactIsTable", spec := "fnExactIsTable", apart := false, narrowed := true }
def FnExactIsTableUptoSaid : Prop := fnExactIsTableUptoRow.holds Try.pinned (OpenSpec.upto fnExactIsTableSpec)

/-- 'laws.FnExactLookUp', WHERE WHAT IT READS IS OF BULK AT MOST 1048576: true; the input reads as it did. -/
def fnExactLookUpUptoRow : OpenClaim := { program := "ytegknmpphbkgpaa", sum := "99e2809e547d3f919cd79a7b93675ce3314a909e7b68051e7ccec68e27db5100", func := "loop.example/g03225/laws.FnExactLookUp", spec := "fnExactLookUp", apart := false, narrowed := true }
def FnExactLookUpUptoSaid : Prop := fnExactLookUpUptoRow.holds Try.pinned (OpenSpec.upto fnExactLookUpSpec)

/-- 'laws.FnExactThenMap', WHERE WHAT IT READS IS OF BULK AT MOST 1048576: true; the input reads as it did. -/
def fnExactThenMapUptoRow : OpenClaim := { program := "ytegknmpphbkgpaa", sum := "99e2809e547d3f919cd79a7b93675ce3314a909e7b68051e7ccec68e27db5100", func := "loop.example/g03225/laws.FnExactThenMap", spec := "fnExactThenMap", apart := false, narrowed := true }
def FnExactThenMapUptoSaid : Prop := fnExactThenMapUptoRow.holds Try.pinned (OpenSpec.upto fnExactThenMapSpec)

/-- 'laws.FnExactFormatTable', WHERE WHAT IT READS IS OF BULK AT MOST 1048576: true; the input reads as it did. -/
def fnExactFormatTableUptoRow : OpenClaim := { program := "ytegknmpphbkgpaa", sum := "99e2809e547d3f919cd79a7b93675ce3314a909e7b68051e7ccec68e27db5100", func := "loop.example/g03225/laws.FnExactFormatTable", spec := "fnExactFormatTable", apart := false, narrowed := true }
def FnExactFormatTableUptoSaid : Prop := fnExactFormatTableUptoRow.holds Try.pinned (OpenSpec.upto fnExactFormatTableSpec)

/-- 'laws.FnExactIsMonotone', WHERE WHAT IT READS IS OF BULK AT MOST 1048576: true; the input reads as it did. -/
def fnExactIsMonotoneUptoRow : OpenClaim := { program := "ytegknmpphbkgpaa", sum := "99e2809e547d3f919cd79a7b93675ce3314a909e7b68051e7ccec68e27db5100", func := "loop.example/g03225/laws.FnExactIsMonotone", spec := "fnExactIsMonotone", apart := false, narrowed := true }
def FnExactIsMonotoneUptoSaid : Prop := fnExactIsMonotoneUptoRow.holds Try.pinned (OpenSpec.upto fnExactIsMonotoneSpec)

/-- 'laws.FnExactParseTable', WHERE WHAT IT READS IS OF BULK AT MOST 1048576: true; the input reads as it did. -/
def fnExactParseTableUptoRow : OpenClaim := { program := "ytegknmpphbkgpaa", sum := "99e2809e547d3f919cd79a7b93675ce3314a909e7b68051e7ccec68e27db5100", func := "loop.example/g03225/laws.FnExactParseTable", spec := "fnExactParseTable", apart := false, narrowed := true }
def FnExactParseTableUptoSaid : Prop := fnExactParseTableUptoRow.holds Try.pinned (OpenSpec.upto fnExactParseTableSpec)

/-- 'laws.FnExactMapOf', WHERE WHAT IT READS IS OF BULK AT MOST 1048576: true; the input reads as it did. -/
def fnExactMapOfUptoRow : OpenClaim := { program := "ytegknmpphbkgpaa", sum := "99e2809e547d3f919cd79a7b93675ce3314a909e7b68051e7ccec68e27db5100", func := "loop.example/g03225/laws.FnExactMapOf", spec := "fnExactMapOf", apart := false, narrowed := true }
def FnExactMapOfUptoSaid : Prop := fnExactMapOfUptoRow.holds Try.pinned (OpenSpec.upto fnExactMapOfSpec)

/-- 'laws.FnExactDualTable', WHERE WHAT IT READS IS OF BULK AT MOST 1048576: true; the input reads as it did. -/
def fnExactDualTableUptoRow : OpenClaim := { program := "ytegknmpphbkgpaa", sum := "99e2809e547d3f919cd79a7b93675ce3314a909e7b68051e7ccec68e27db5100", func := "loop.example/g03225/laws.FnExactDualTable", spec := "fnExactDualTable", unfollowed := true, recurses := true, apart := false, narrowed := true }
def FnExactDualTableUptoSaid : Prop := fnExactDualTableUptoRow.holds Try.pinned (OpenSpec.upto fnExactDualTableSpec)

/-- 'laws.FnExactSwapTable', WHERE WHAT IT READS IS OF BULK AT MOST 1048576: true; the input reads as it did. -/
def fnExactSwapTableUptoRow : OpenClaim := { program := "ytegknmpphbkgpaa", sum := "99e2809e547d3f919cd79a7b93675ce3314a909e7b68051e7ccec68e27db5100", func := "loop.example/g03225/laws.FnExactSwapTable", spec := "fnExactSwapTable", unfollowed := true, recurses := true, apart := false, narrowed := true }
def FnExactSwapTableUptoSaid : Prop := fnExactSwapTableUptoRow.holds Try.pinned (OpenSpec.upto fnExactSwapTableSpec)

/-- 'laws.FnExactTableOf', WHERE WHAT IT READS IS OF BULK AT MOST 1048576: true; the input reads as it did. -/
def fnExactTableOfUptoRow : OpenClaim := { program := "ytegknmpphbkgpaa", sum := "99e2809e547d3f919cd79a7b93675ce3314a909e7b68051e7ccec68e27db5100", func := "loop.example/g03225/laws.FnExactTableOf", spec := "fnExactTableOf", unfollowed := true, recurses := true, apart := false, narrowed := true }
def FnExactTableOfUptoSaid : Prop := fnExactTableOfUptoRow.holds Try.pinned (OpenSpec.upto fnExactTableOfSpec)

/-- 'laws.FnTables', WHERE WHAT IT READS IS OF BULK AT MOST 1048576: true; the input reads as it did. -/
def fnTablesUptoRow : OpenClaim := { program := "ytegknmpphbkgpaa", sum := "99e2809e547d3f919cd79a7b93675ce3314a909e7b68051e7ccec68e27db5100", func := "loop.example/g03225/laws.FnTables", spec := "fnTables", unfollowed := true, recurses := true, apart := false, narrowed := true }
def FnTablesUptoSaid : Prop := fnTablesUptoRow.holds Try.pinned (OpenSpec.upto fnTablesSpec)

/-- 'laws.FnMaps', WHERE WHAT IT READS IS OF BULK AT MOST 1048576: true; the input reads as it did. -/
def fnMapsUptoRow : OpenClaim := { program := "ytegknmpphbkgpaa", sum := "99e2809e547d3f919cd79a7b93675ce3314a909e7b68051e7ccec68e27db5100", func := "loop.example/g03225/laws.FnMaps", spec := "fnMaps", unfollowed := true, recurses := true, apart := false, narrowed := true }
def FnMapsUptoSaid : Prop := fnMapsUptoRow.holds Try.pinned (OpenSpec.upto fnMapsSpec)

end Rows
end Go.Proofs.Ytegknmpphbkgpaa
