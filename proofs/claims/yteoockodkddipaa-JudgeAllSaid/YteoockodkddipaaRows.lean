/-
  No cell of these rows narrows 'for every input' (looked for: loops, veiled, ifaces, maps, wideKeys, modest, calm, conditions, laid).
  DERIVED. THE GIVEN ROWS OF THIS SEAT. 3 by the template 'for every input the law returns true; each argument reads behind the call as it read before'; 0 by the template 'total and deterministic' (their statements: YteoockodkddipaaTotals.lean).
  GIVEN WITH THE SEED: the statements are not yours to turn. If you find one false, say at which input.
  Laid BY PROGRAM, IN A SANDBOX (cutbox-rows.mjs): the forced cells as the released guide's own fill.sh prints them over the translation 6fdaac8daad54dd3… (all of the seat's roots in one cut). By AI agents, Wed Nov 11 2026. No macro, syntax, notation, axiom, sorry.
-/
import Derived.Test.YteoockodkddipaaChecked
import GoSem.Claim
import GoSem.ClaimJoined
import GoSem.ClaimMapViews
import Derived.JoinedTies
import Derived.KernelRfl
namespace Go.Proofs.Yteoockodkddipaa
/- THE CELL 'sum', in the pinned program and in every row, IS THE sha256 OF THE DUMP (.gsa) THAT YteoockodkddipaaProg.lean LOADS. Nothing in Lean hashes anything: it is a label: what it is worth is what the hold of that sum in a sandbox is worth. -/
noncomputable def Try.pinned : Pinned := { name := "yteoockodkddipaa", sum := "6fdaac8daad54dd3a0bac6d292e4edd620d1ddc8928244fe413e221e27eae819", checked := Try.checked }
namespace Rows
def none {H : Type} : Left H := { results := [], args := [] }

/-- 'asterismlaw28.JudgeAll': WHATEVER THE INPUT: true; the input reads as it did. -/
def judgeAllSpec : ChangeSpec := { name := "judgeAll", fn := fun _ => fun
  | [d1, d2, d3, d4, d5, d6] => { results := [.lit (.bool true)], args := [d1, d2, d3, d4, d5, d6] }
  | _ => none }
def judgeAllRow : OpenClaim := { program := "yteoockodkddipaa", sum := "6fdaac8daad54dd3a0bac6d292e4edd620d1ddc8928244fe413e221e27eae819", func := "asterism/asterismlaw28.JudgeAll", spec := "judgeAll", inPlace := ["math/bits.Add64"], unfollowed := true, recurses := true, apart := false }
def JudgeAllSaid : Prop := judgeAllRow.holds Try.pinned (OpenSpec.ofChange judgeAllSpec)

/-- ITS FALSE NEIGHBOUR: 'it returns false'. Refute it at one input. -/
def judgeAllWrong : ChangeSpec := { name := "judgeAll", fn := fun _ => fun
  | [d1, d2, d3, d4, d5, d6] => { results := [.lit (.bool false)], args := [d1, d2, d3, d4, d5, d6] }
  | _ => none }
def JudgeAllWrongFalsely : Prop := judgeAllRow.holds Try.pinned (OpenSpec.ofChange judgeAllWrong)

/-- 'asterismlaw28.JudgeSorted': WHATEVER THE INPUT: true; the input reads as it did. -/
def judgeSortedSpec : ChangeSpec := { name := "judgeSorted", fn := fun _ => fun
  | [d1, d2] => { results := [.lit (.bool true)], args := [d1, d2] }
  | _ => none }
def judgeSortedRow : OpenClaim := { program := "yteoockodkddipaa", sum := "6fdaac8daad54dd3a0bac6d292e4edd620d1ddc8928244fe413e221e27eae819", func := "asterism/asterismlaw28.JudgeSorted", spec := "judgeSorted", inPlace := ["math/bits.Add64"], unfollowed := true, recurses := true, apart := false }
def JudgeSortedSaid : Prop := judgeSortedRow.holds Try.pinned (OpenSpec.ofChange judgeSortedSpec)

/-- ITS FALSE NEIGHBOUR: 'it returns false'. Refute it at one input. -/
def judgeSortedWrong : ChangeSpec := { name := "judgeSorted", fn := fun _ => fun
  | [d1, d2] => { results := [.lit (.bool false)], args := [d1, d2] }
  | _ => none }
def JudgeSortedWrongFalsely : Prop := judgeSortedRow.holds Try.pinned (OpenSpec.ofChange judgeSortedWrong)

/-- 'asterismlaw8.SchemaAll': WHATEVER THE INPUT: true; the input reads as it did. -/
def schemaAllSpec : ChangeSpec := { name := "schemaAll", fn := fun _ => fun
  | [d1, d2, d3] => { results := [.lit (.bool true)], args := [d1, d2, d3] }
  | _ => none }
def schemaAllRow : OpenClaim := { program := "yteoockodkddipaa", sum := "6fdaac8daad54dd3a0bac6d292e4edd620d1ddc8928244fe413e221e27eae819", func := "asterism/asterismlaw8.SchemaAll", spec := "schemaAll", unfollowed := true, recurses := true, apart := false }
def SchemaAllSaid : Prop := schemaAllRow.holds Try.pinned (OpenSpec.ofChange schemaAllSpec)

/-- ITS FALSE NEIGHBOUR: 'it returns false'. Refute it at one input. -/
def schemaAllWrong : ChangeSpec := { name := "schemaAll", fn := fun _ => fun
  | [d1, d2, d3] => { results := [.lit (.bool false)], args := [d1, d2, d3] }
  | _ => none }
def SchemaAllWrongFalsely : Prop := schemaAllRow.holds Try.pinned (OpenSpec.ofChange schemaAllWrong)

/- THE SECOND FORM. 'bulk': how many values and letters a reading holds, each counted each time it is reached (what is shared counts as often as it is met; a slice's spare places count too). A statement '..UptoSaid' is the law's where the arguments, and the package variables that the reading takes, are together of bulk at most 1048576: NARROWER than '..Said'. Prove '..Said' where nothing that the law and all that it calls make is longer than what came in: it says more and counts as full. Else prove '..UptoSaid'. A law counts once. -/
mutual
def uptoBulk {H : Type} : DataW H → Nat
  | .lit (.string bytes) => bytes.length + 1
  | .lit _ => 1
  | .nil => 1
  | .ptr d => uptoBulk d + 1
  | .slice elems spare => uptoBulkAll elems + uptoBulkAll spare + 1
  | .agg parts => uptoBulkAll parts + 1
  | .iface _ d => uptoBulk d + 1
  | .map entries => uptoBulkEntries entries + 1
  | .held _ => 1
def uptoBulkAll {H : Type} : List (DataW H) → Nat
  | [] => 0
  | d :: r => uptoBulk d + uptoBulkAll r
def uptoBulkEntries {H : Type} : List (Lit × DataW H) → Nat
  | [] => 0
  | x :: r => uptoBulkEntry x + uptoBulkEntries r
def uptoBulkEntry {H : Type} : Lit × DataW H → Nat
  | (.string bytes, d) => bytes.length + uptoBulk d + 1
  | (_, d) => uptoBulk d + 1
 end
def uptoSmall : (H : Type) → List (DataW H) → Bool := fun _ ds => decide (uptoBulkAll ds ≤ 1048576)
def OpenSpec.upto (s : _root_.Go.ChangeSpec) : _root_.Go.OpenSpec := { _root_.Go.OpenSpec.ofChange s with cond := some uptoSmall }

/-- 'asterismlaw28.JudgeAll', WHERE WHAT IT READS IS OF BULK AT MOST 1048576: true; the input reads as it did. -/
def judgeAllUptoRow : OpenClaim := { program := "yteoockodkddipaa", sum := "6fdaac8daad54dd3a0bac6d292e4edd620d1ddc8928244fe413e221e27eae819", func := "asterism/asterismlaw28.JudgeAll", spec := "judgeAll", inPlace := ["math/bits.Add64"], unfollowed := true, recurses := true, apart := false, narrowed := true }
def JudgeAllUptoSaid : Prop := judgeAllUptoRow.holds Try.pinned (OpenSpec.upto judgeAllSpec)

/-- 'asterismlaw28.JudgeSorted', WHERE WHAT IT READS IS OF BULK AT MOST 1048576: true; the input reads as it did. -/
def judgeSortedUptoRow : OpenClaim := { program := "yteoockodkddipaa", sum := "6fdaac8daad54dd3a0bac6d292e4edd620d1ddc8928244fe413e221e27eae819", func := "asterism/asterismlaw28.JudgeSorted", spec := "judgeSorted", inPlace := ["math/bits.Add64"], unfollowed := true, recurses := true, apart := false, narrowed := true }
def JudgeSortedUptoSaid : Prop := judgeSortedUptoRow.holds Try.pinned (OpenSpec.upto judgeSortedSpec)

/-- 'asterismlaw8.SchemaAll', WHERE WHAT IT READS IS OF BULK AT MOST 1048576: true; the input reads as it did. -/
def schemaAllUptoRow : OpenClaim := { program := "yteoockodkddipaa", sum := "6fdaac8daad54dd3a0bac6d292e4edd620d1ddc8928244fe413e221e27eae819", func := "asterism/asterismlaw8.SchemaAll", spec := "schemaAll", unfollowed := true, recurses := true, apart := false, narrowed := true }
def SchemaAllUptoSaid : Prop := schemaAllUptoRow.holds Try.pinned (OpenSpec.upto schemaAllSpec)

end Rows
end Go.Proofs.Yteoockodkddipaa
