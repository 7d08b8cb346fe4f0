/-
  No cell of these rows narrows 'for every input' (looked for: loops, veiled, ifaces, maps, wideKeys, modest, calm, conditions, laid).
  DERIVED. THE GIVEN ROWS OF THIS SEAT. 6 by the template 'for every input the law returns true; each argument reads behind the call as it read before'; 0 by the template 'total and deterministic' (their statements: YtpgcmcdpgobdlaaTotals.lean).
  GIVEN WITH THE SEED: the statements are not yours to turn. If you find one false, say at which input.
  Laid BY PROGRAM, IN A SANDBOX (cutbox-rows.mjs): the forced cells as the released guide's own fill.sh prints them over the translation 27826c7897ed6507… (all of the seat's roots in one cut). By AI agents, Wed Nov 11 2026. No macro, syntax, notation, axiom, sorry.
-/
import Derived.Test.YtpgcmcdpgobdlaaChecked
import GoSem.Claim
import GoSem.ClaimJoined
import GoSem.ClaimMapViews
import Derived.JoinedTies
import Derived.KernelRfl
namespace Go.Proofs.Ytpgcmcdpgobdlaa
/- THE CELL 'sum', in the pinned program and in every row, IS THE sha256 OF THE DUMP (.gsa) THAT YtpgcmcdpgobdlaaProg.lean LOADS. Nothing in Lean hashes anything: it is a label: what it is worth is what the hold of that sum in a sandbox is worth. -/
noncomputable def Try.pinned : Pinned := { name := "ytpgcmcdpgobdlaa", sum := "27826c7897ed6507e4d8cf21bd7da83ba8b18b5730504464ff7b9dd3fc683dac", checked := Try.checked }
namespace Rows
def none {H : Type} : Left H := { results := [], args := [] }

/-- 'asterismlaw28.JudgeAll': WHATEVER THE INPUT: true; the input reads as it did. -/
def judgeAllSpec : ChangeSpec := { name := "judgeAll", fn := fun _ => fun
  | [d1, d2, d3, d4, d5, d6] => { results := [.lit (.bool true)], args := [d1, d2, d3, d4, d5, d6] }
  | _ => none }
def judgeAllRow : OpenClaim := { program := "ytpgcmcdpgobdlaa", sum := "27826c7897ed6507e4d8cf21bd7da83ba8b18b5730504464ff7b9dd3fc683dac", func := "asterism/asterismlaw28.JudgeAll", spec := "judgeAll", inPlace := ["math/bits.Add64"], unfollowed := true, recurses := true, apart := false }
def JudgeAllSaid : Prop := judgeAllRow.holds Try.pinned (OpenSpec.ofChange judgeAllSpec)

/-- ITS FALSE NEIGHBOUR: 'it returns false'. Refute it at one input. -/
def judgeAllWrong : ChangeSpec := { name := "judgeAll", fn := fun _ => fun
  | [d1, d2, d3, d4, d5, d6] => { results := [.lit (.bool false)], args := [d1, d2, d3, d4, d5, d6] }
  | _ => none }
def JudgeAllWrongFalsely : Prop := judgeAllRow.holds Try.pinned (OpenSpec.ofChange judgeAllWrong)

/-- 'asterismlaw28.JudgeSorted': WHATEVER THE INPUT: true; the input reads as it did. -/
def judgeSortedSpec : ChangeSpec := { name := "judgeSorted", fn := fun _ => fun
  | [d1, d2] => { results := [.lit (.bool true)], args := [d1, d2] }
  | _ => none }
def judgeSortedRow : OpenClaim := { program := "ytpgcmcdpgobdlaa", sum := "27826c7897ed6507e4d8cf21bd7da83ba8b18b5730504464ff7b9dd3fc683dac", func := "asterism/asterismlaw28.JudgeSorted", spec := "judgeSorted", inPlace := ["math/bits.Add64"], unfollowed := true, recurses := true, apart := false }
def JudgeSortedSaid : Prop := judgeSortedRow.holds Try.pinned (OpenSpec.ofChange judgeSortedSpec)

/-- ITS FALSE NEIGHBOUR: 'it returns false'. Refute it at one input. -/
def judgeSortedWrong : ChangeSpec := { name := "judgeSorted", fn := fun _ => fun
  | [d1, d2] => { results := [.lit (.bool false)], args := [d1, d2] }
  | _ => none }
def JudgeSortedWrongFalsely : Prop := judgeSortedRow.holds Try.pinned (OpenSpec.ofChange judgeSortedWrong)

/-- 'asterismlaw8.SchemaAll': WHATEVER THE INPUT: true; the input reads as it did. -/
def schemaAllSpec : ChangeSpec := { name := "schemaAll", fn := fun _ => fun
  | [d1, d2, d3] => { results := [.lit (.bool true)], args := [d1, d2, d3] }
  | _ => none }
def schemaAllRow : OpenClaim := { program := "ytpgcmcdpgobdlaa", sum := "27826c7897ed6507e4d8cf21bd7da83ba8b18b5730504464ff7b9dd3fc683dac", func := "asterism/asterismlaw8.SchemaAll", spec := "schemaAll", unfollowed := true, recurses := true, apart := false }
def SchemaAllSaid : Prop := schemaAllRow.holds Try.pinned (OpenSpec.ofChange schemaAllSpec)

/-- ITS FALSE NEIGHBOUR: 'it returns false'. Refute it at one input. -/
def schemaAllWrong : ChangeSpec := { name := "schemaAll", fn := fun _ => fun
  | [d1, d2, d3] => { results := [.lit (.bool false)], args := [d1, d2, d3] }
  | _ => none }
def SchemaAllWrongFalsely : Prop := schemaAllRow.holds Try.pinned (OpenSpec.ofChange schemaAllWrong)

/-- 'asterismlaw8.SchemaNone': WHATEVER THE INPUT: true; the input reads as it did. -/
def schemaNoneSpec : ChangeSpec := { name := "schemaNone", fn := fun _ => fun
  | [] => { results := [.lit (.bool true)], args := [] }
  | _ => none }
def schemaNoneRow : OpenClaim := { program := "ytpgcmcdpgobdlaa", sum := "27826c7897ed6507e4d8cf21bd7da83ba8b18b5730504464ff7b9dd3fc683dac", func := "asterism/asterismlaw8.SchemaNone", spec := "schemaNone", unfollowed := true, recurses := true, apart := false }
def SchemaNoneSaid : Prop := schemaNoneRow.holds Try.pinned (OpenSpec.ofChange schemaNoneSpec)

/-- ITS FALSE NEIGHBOUR: 'it returns false'. Refute it at one input. -/
def schemaNoneWrong : ChangeSpec := { name := "schemaNone", fn := fun _ => fun
  | [] => { results := [.lit (.bool false)], args := [] }
  | _ => none }
def SchemaNoneWrongFalsely : Prop := schemaNoneRow.holds Try.pinned (OpenSpec.ofChange schemaNoneWrong)

/-- 'asterismlaw8.SchemaRefs': WHATEVER THE INPUT: true; the input reads as it did. -/
def schemaRefsSpec : ChangeSpec := { name := "schemaRefs", fn := fun _ => fun
  | [d1, d2, d3, d4] => { results := [.lit (.bool true)], args := [d1, d2, d3, d4] }
  | _ => none }
def schemaRefsRow : OpenClaim := { program := "ytpgcmcdpgobdlaa", sum := "27826c7897ed6507e4d8cf21bd7da83ba8b18b5730504464ff7b9dd3fc683dac", func := "asterism/asterismlaw8.SchemaRefs", spec := "schemaRefs", unfollowed := true, recurses := true, apart := false }
def SchemaRefsSaid : Prop := schemaRefsRow.holds Try.pinned (OpenSpec.ofChange schemaRefsSpec)

/-- ITS FALSE NEIGHBOUR: 'it returns false'. Refute it at one input. -/
def schemaRefsWrong : ChangeSpec := { name := "schemaRefs", fn := fun _ => fun
  | [d1, d2, d3, d4] => { results := [.lit (.bool false)], args := [d1, d2, d3, d4] }
  | _ => none }
def SchemaRefsWrongFalsely : Prop := schemaRefsRow.holds Try.pinned (OpenSpec.ofChange schemaRefsWrong)

/-- 'asterismlaw8.SchemaLimits': WHATEVER THE INPUT: true; the input reads as it did. -/
def schemaLimitsSpec : ChangeSpec := { name := "schemaLimits", fn := fun _ => fun
  | [d1, d2, d3] => { results := [.lit (.bool true)], args := [d1, d2, d3] }
  | _ => none }
def schemaLimitsRow : OpenClaim := { program := "ytpgcmcdpgobdlaa", sum := "27826c7897ed6507e4d8cf21bd7da83ba8b18b5730504464ff7b9dd3fc683dac", func := "asterism/asterismlaw8.SchemaLimits", spec := "schemaLimits", unfollowed := true, recurses := true, apart := false }
def SchemaLimitsSaid : Prop := schemaLimitsRow.holds Try.pinned (OpenSpec.ofChange schemaLimitsSpec)

/-- ITS FALSE NEIGHBOUR: 'it returns false'. Refute it at one input. -/
def schemaLimitsWrong : ChangeSpec := { name := "schemaLimits", fn := fun _ => fun
  | [d1, d2, d3] => { results := [.lit (.bool false)], args := [d1, d2, d3] }
  | _ => none }
def SchemaLimitsWrongFalsely : Prop := schemaLimitsRow.holds Try.pinned (OpenSpec.ofChange schemaLimitsWrong)

/- THE SECOND FORM. 'bulk': how many values and letters a reading holds, each counted each time it is reached (what is shared counts as often as it is met; a slice's spare places count too). A statement '..UptoSaid' is the law's where the arguments, and the package variables that the reading takes, are together of bulk at most 1048576: NARROWER than '..Said'. Prove '..Said' where nothing that the law and all that it calls make is longer than what came in: it says more and counts as full. Else prove '..UptoSaid'. A law counts once. -/
mutual
def uptoBulk {H : Type} : DataW H → Nat
  | .lit (.string bytes) => bytes.length + 1
  | .lit _ => 1
  | .nil => 1
  | .ptr d => uptoBulk d + 1
  | .slice elems spare => uptoBulkAll elems + uptoBulkAll spare + 1
  | .agg parts => uptoBulkAll parts + 1
  | .iface _ d => uptoBulk d + 1
  | .map entries => uptoBulkEntries entries + 1
  | .held _ => 1
def uptoBulkAll {H : Type} : List (DataW H) → Nat
  | [] => 0
  | d :: r => uptoBulk d + uptoBulkAll r
def uptoBulkEntries {H : Type} : List (Lit × DataW H) → Nat
  | [] => 0
  | x :: r => uptoBulkEntry x + uptoBulkEntries r
def uptoBulkEntry {H : Type} : Lit × DataW H → Nat
  | (.string bytes, d) => bytes.length + uptoBulk d + 1
  | (_, d) => uptoBulk d + 1
 end
def uptoSmall : (H : Type) → List (DataW H) → Bool := fun _ ds => decide (uptoBulkAll ds ≤ 1048576)
def OpenSpec.upto (s : _root_.Go.ChangeSpec) : _root_.Go.OpenSpec := { _root_.Go.OpenSpec.ofChange s with cond := some uptoSmall }

/-- 'asterismlaw28.JudgeAll', WHERE WHAT IT READS IS OF BULK AT MOST 1048576: true; the input reads as it did. -/
def judgeAllUptoRow : OpenClaim := { program := "ytpgcmcdpgobdlaa", sum := "27826c7897ed6507e4d8cf21bd7da83ba8b18b5730504464ff7b9dd3fc683dac", func := "asterism/asterismlaw28.JudgeAll", spec := "judgeAll", inPlace := ["math/bits.Add64"], unfollowed := true, recurses := true, apart := false, narrowed := true }
def JudgeAllUptoSaid : Prop := judgeAllUptoRow.holds Try.pinned (OpenSpec.upto judgeAllSpec)

/-- 'asterismlaw28.JudgeSorted', WHERE WHAT IT READS IS OF BULK AT MOST 1048576: true; the input reads as it did. -/
def judgeSortedUptoRow : OpenClaim := { program := "ytpgcmcdpgobdlaa", sum := "27826c7897ed6507e4d8cf21bd7da83ba8b18b5730504464ff7b9dd3fc683dac", func := "asterism/asterismlaw28.JudgeSorted", spec := "judgeSorted", inPlace := ["math/bits.Add64"], unfollowed := true, recurses := true, apart := false, narrowed := true }
def JudgeSortedUptoSaid : Prop := judgeSortedUptoRow.holds Try.pinned (OpenSpec.upto judgeSortedSpec)

/-- 'asterismlaw8.SchemaAll', WHERE WHAT IT READS IS OF BULK AT MOST 1048576: true; the input reads as it did. -/
def schemaAllUptoRow : OpenClaim := { program := "ytpgcmcdpgobdlaa", sum := "27826c7897ed6507e4d8cf21bd7da83ba8b18b5730504464ff7b9dd3fc683dac", func := "asterism/asterismlaw8.SchemaAll", spec := "schemaAll", unfollowed := true, recurses := true, apart := false, narrowed := true }
def SchemaAllUptoSaid : Prop := schemaAllUptoRow.holds Try.pinned (OpenSpec.upto schemaAllSpec)

/-- 'asterismlaw8.SchemaNone', WHERE WHAT IT READS IS OF BULK AT MOST 1048576: true; the input reads as it did. -/
def schemaNoneUptoRow : OpenClaim := { program := "ytpgcmcdpgobdlaa", sum := "27826c7897ed6507e4d8cf21bd7da83ba8b18b5730504464ff7b9dd3fc683dac", func := "asterism/asterismlaw8.SchemaNone", spec := "schemaNone", unfollowed := true, recurses := true, apart := false, narrowed := true }
def SchemaNoneUptoSaid : Prop := schemaNoneUptoRow.holds Try.pinned (OpenSpec.upto schemaNoneSpec)

/-- 'asterismlaw8.SchemaRefs', WHERE WHAT IT READS IS OF BULK AT MOST 1048576: true; the input reads as it did. -/
def schemaRefsUptoRow : OpenClaim := { program := "ytpgcmcdpgobdlaa", sum := "27826c7897ed6507e4d8cf21bd7da83ba8b18b5730504464ff7b9dd3fc683dac", func := "asterism/asterismlaw8.SchemaRefs", spec := "schemaRefs", unfollowed := true, recurses := true, apart := false, narrowed := true }
def SchemaRefsUptoSaid : Prop := schemaRefsUptoRow.holds Try.pinned (OpenSpec.upto schemaRefsSpec)

/-- 'asterismlaw8.SchemaLimits', WHERE WHAT IT READS IS OF BULK AT MOST 1048576: true; the input reads as it did. -/
def schemaLimitsUptoRow : OpenClaim := { program := "ytpgcmcdpgobdlaa", sum := "27826c7897ed6507e4d8cf21bd7da83ba8b18b5730504464ff7b9dd3fc683dac", func := "asterism/asterismlaw8.SchemaLimits", spec := "schemaLimits", unfollowed := true, recurses := true, apart := false, narrowed := true }
def SchemaLimitsUptoSaid : Prop := schemaLimitsUptoRow.holds Try.pinned (OpenSpec.upto schemaLimitsSpec)

end Rows
end Go.Proofs.Ytpgcmcdpgobdlaa
