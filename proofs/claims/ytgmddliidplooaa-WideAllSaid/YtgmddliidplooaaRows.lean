/-
  No cell of these rows narrows 'for every input' (looked for: loops, veiled, ifaces, maps, wideKeys, modest, calm, conditions, laid).
  DERIVED. THE GIVEN ROWS OF THIS SEAT. 6 by the template 'for every input the law returns true; each argument reads behind the call as it read before'; 0 by the template 'total and deterministic' (their statements: YtgmddliidplooaaTotals.lean).
  GIVEN WITH THE SEED: the statements are not yours to turn. If you find one false, say at which input.
  Laid BY PROGRAM, IN A SANDBOX (cutbox-rows.mjs): the forced cells as the released guide's own fill.sh prints them over the translation 1ced0a591d865849… (all of the seat's roots in one cut). By AI agents, Wed Nov 11 2026. No macro, syntax, notation, axiom, sorry.
-/
import Derived.Test.YtgmddliidplooaaChecked
import GoSem.Claim
import GoSem.ClaimJoined
import GoSem.ClaimMapViews
import Derived.JoinedTies
import Derived.KernelRfl
namespace Go.Proofs.Ytgmddliidplooaa
/- THE CELL 'sum', in the pinned program and in every row, IS THE sha256 OF THE DUMP (.gsa) THAT YtgmddliidplooaaProg.lean LOADS. Nothing in Lean hashes anything: it is a label: what it is worth is what the hold of that sum in a sandbox is worth. -/
noncomputable def Try.pinned : Pinned := { name := "ytgmddliidplooaa", sum := "1ced0a591d8658497d21ea103b718ae2f2b809fb0009828666e14d9e1077fc01", checked := Try.checked }
namespace Rows
def none {H : Type} : Left H := { results := [], args := [] }

/-- 'asterismlaw0.Names': WHATEVER THE INPUT: true; the input reads as it did. -/
def namesSpec : ChangeSpec := { name := "names", fn := fun _ => fun
  | [] => { results := [.lit (.bool true)], args := [] }
  | _ => none }
def namesRow : OpenClaim := { program := "ytgmddliidplooaa", sum := "1ced0a591d8658497d21ea103b718ae2f2b809fb0009828666e14d9e1077fc01", func := "asterism/asterismlaw0.Names", spec := "names", apart := false }
def NamesSaid : Prop := namesRow.holds Try.pinned (OpenSpec.ofChange namesSpec)

/-- ITS FALSE NEIGHBOUR: 'it returns false'. Refute it at one input. -/
def namesWrong : ChangeSpec := { name := "names", fn := fun _ => fun
  | [] => { results := [.lit (.bool false)], args := [] }
  | _ => none }
def NamesWrongFalsely : Prop := namesRow.holds Try.pinned (OpenSpec.ofChange namesWrong)

/-- 'asterismlaw23.SetsAll': WHATEVER THE INPUT: true; the input reads as it did. -/
def setsAllSpec : ChangeSpec := { name := "setsAll", fn := fun _ => fun
  | [d1, d2, d3, d4] => { results := [.lit (.bool true)], args := [d1, d2, d3, d4] }
  | _ => none }
def setsAllRow : OpenClaim := { program := "ytgmddliidplooaa", sum := "1ced0a591d8658497d21ea103b718ae2f2b809fb0009828666e14d9e1077fc01", func := "asterism/asterismlaw23.SetsAll", spec := "setsAll", apart := false }
def SetsAllSaid : Prop := setsAllRow.holds Try.pinned (OpenSpec.ofChange setsAllSpec)

/-- ITS FALSE NEIGHBOUR: 'it returns false'. Refute it at one input. -/
def setsAllWrong : ChangeSpec := { name := "setsAll", fn := fun _ => fun
  | [d1, d2, d3, d4] => { results := [.lit (.bool false)], args := [d1, d2, d3, d4] }
  | _ => none }
def SetsAllWrongFalsely : Prop := setsAllRow.holds Try.pinned (OpenSpec.ofChange setsAllWrong)

/-- 'asterismlaw23.SetsLaws': WHATEVER THE INPUT: true; the input reads as it did. -/
def setsLawsSpec : ChangeSpec := { name := "setsLaws", fn := fun _ => fun
  | [d1, d2, d3, d4] => { results := [.lit (.bool true)], args := [d1, d2, d3, d4] }
  | _ => none }
def setsLawsRow : OpenClaim := { program := "ytgmddliidplooaa", sum := "1ced0a591d8658497d21ea103b718ae2f2b809fb0009828666e14d9e1077fc01", func := "asterism/asterismlaw23.SetsLaws", spec := "setsLaws", apart := false }
def SetsLawsSaid : Prop := setsLawsRow.holds Try.pinned (OpenSpec.ofChange setsLawsSpec)

/-- ITS FALSE NEIGHBOUR: 'it returns false'. Refute it at one input. -/
def setsLawsWrong : ChangeSpec := { name := "setsLaws", fn := fun _ => fun
  | [d1, d2, d3, d4] => { results := [.lit (.bool false)], args := [d1, d2, d3, d4] }
  | _ => none }
def SetsLawsWrongFalsely : Prop := setsLawsRow.holds Try.pinned (OpenSpec.ofChange setsLawsWrong)

/-- 'asterismlaw2.WideNum': WHATEVER THE INPUT: true; the input reads as it did. -/
def wideNumSpec : ChangeSpec := { name := "wideNum", fn := fun _ => fun
  | [d1, d2] => { results := [.lit (.bool true)], args := [d1, d2] }
  | _ => none }
def wideNumRow : OpenClaim := { program := "ytgmddliidplooaa", sum := "1ced0a591d8658497d21ea103b718ae2f2b809fb0009828666e14d9e1077fc01", func := "asterism/asterismlaw2.WideNum", spec := "wideNum", inPlace := ["math/bits.Add64", "math/bits.Sub64"], named := ["math/bits.divideError", "math/bits.overflowError"], apart := false }
def WideNumSaid : Prop := wideNumRow.holds Try.pinned (OpenSpec.ofChange wideNumSpec)

/-- ITS FALSE NEIGHBOUR: 'it returns false'. Refute it at one input. -/
def wideNumWrong : ChangeSpec := { name := "wideNum", fn := fun _ => fun
  | [d1, d2] => { results := [.lit (.bool false)], args := [d1, d2] }
  | _ => none }
def WideNumWrongFalsely : Prop := wideNumRow.holds Try.pinned (OpenSpec.ofChange wideNumWrong)

/-- 'asterismlaw2.WideAll': WHATEVER THE INPUT: true; the input reads as it did. -/
def wideAllSpec : ChangeSpec := { name := "wideAll", fn := fun _ => fun
  | [d1, d2, d3] => { results := [.lit (.bool true)], args := [d1, d2, d3] }
  | _ => none }
def wideAllRow : OpenClaim := { program := "ytgmddliidplooaa", sum := "1ced0a591d8658497d21ea103b718ae2f2b809fb0009828666e14d9e1077fc01", func := "asterism/asterismlaw2.WideAll", spec := "wideAll", inPlace := ["math/bits.Add64", "math/bits.Sub64"], named := ["math/bits.divideError", "math/bits.overflowError"], apart := false }
def WideAllSaid : Prop := wideAllRow.holds Try.pinned (OpenSpec.ofChange wideAllSpec)

/-- ITS FALSE NEIGHBOUR: 'it returns false'. Refute it at one input. -/
def wideAllWrong : ChangeSpec := { name := "wideAll", fn := fun _ => fun
  | [d1, d2, d3] => { results := [.lit (.bool false)], args := [d1, d2, d3] }
  | _ => none }
def WideAllWrongFalsely : Prop := wideAllRow.holds Try.pinned (OpenSpec.ofChange wideAllWrong)

/-- 'asterismlaw2.WideQuo': WHATEVER THE INPUT: true; the input reads as it did. -/
def wideQuoSpec : ChangeSpec := { name := "wideQuo", fn := fun _ => fun
  | [d1, d2, d3, d4] => { results := [.lit (.bool true)], args := [d1, d2, d3, d4] }
  | _ => none }
def wideQuoRow : OpenClaim := { program := "ytgmddliidplooaa", sum := "1ced0a591d8658497d21ea103b718ae2f2b809fb0009828666e14d9e1077fc01", func := "asterism/asterismlaw2.WideQuo", spec := "wideQuo", inPlace := ["math/bits.Add64", "math/bits.Sub64"], named := ["math/bits.divideError", "math/bits.overflowError"], apart := false }
def WideQuoSaid : Prop := wideQuoRow.holds Try.pinned (OpenSpec.ofChange wideQuoSpec)

/-- ITS FALSE NEIGHBOUR: 'it returns false'. Refute it at one input. -/
def wideQuoWrong : ChangeSpec := { name := "wideQuo", fn := fun _ => fun
  | [d1, d2, d3, d4] => { results := [.lit (.bool false)], args := [d1, d2, d3, d4] }
  | _ => none }
def WideQuoWrongFalsely : Prop := wideQuoRow.holds Try.pinned (OpenSpec.ofChange wideQuoWrong)

/- THE SECOND FORM. 'bulk': how many values and letters a reading holds, each counted each time it is reached (what is shared counts as often as it is met; a slice's spare places count too). A statement '..UptoSaid' is the law's where the arguments, and the package variables that the reading takes, are together of bulk at most 1048576: NARROWER than '..Said'. Prove '..Said' where nothing that the law and all that it calls make is longer than what came in: it says more and counts as full. Else prove '..UptoSaid'. A law counts once. -/
mutual
def uptoBulk {H : Type} : DataW H → Nat
  | .lit (.string bytes) => bytes.length + 1
  | .lit _ => 1
  | .nil => 1
  | .ptr d => uptoBulk d + 1
  | .slice elems spare => uptoBulkAll elems + uptoBulkAll spare + 1
  | .agg parts => uptoBulkAll parts + 1
  | .iface _ d => uptoBulk d + 1
  | .map entries => uptoBulkEntries entries + 1
  | .held _ => 1
def uptoBulkAll {H : Type} : List (DataW H) → Nat
  | [] => 0
  | d :: r => uptoBulk d + uptoBulkAll r
def uptoBulkEntries {H : Type} : List (Lit × DataW H) → Nat
  | [] => 0
  | x :: r => uptoBulkEntry x + uptoBulkEntries r
def uptoBulkEntry {H : Type} : Lit × DataW H → Nat
  | (.string bytes, d) => bytes.length + uptoBulk d + 1
  | (_, d) => uptoBulk d + 1
 end
def uptoSmall : (H : Type) → List (DataW H) → Bool := fun _ ds => decide (uptoBulkAll ds ≤ 1048576)
def OpenSpec.upto (s : _root_.Go.ChangeSpec) : _root_.Go.OpenSpec := { _root_.Go.OpenSpec.ofChange s with cond := some uptoSmall }

/-- 'asterismlaw0.Names', WHERE WHAT IT READS IS OF BULK AT MOST 1048576: true; the input reads as it did. -/
def namesUptoRow : OpenClaim := { program := "ytgmddliidplooaa", sum := "1ced0a591d8658497d21ea103b718ae2f2b809fb0009828666e14d9e1077fc01", func := "asterism/asterismlaw0.Names", spec := "names", apart := false, narrowed := true }
def NamesUptoSaid : Prop := namesUptoRow.holds Try.pinned (OpenSpec.upto namesSpec)

/-- 'asterismlaw23.SetsAll', WHERE WHAT IT READS IS OF BULK AT MOST 1048576: true; the input reads as it did. -/
def setsAllUptoRow : OpenClaim := { program := "ytgmddliidplooaa", sum := "1ced0a591d8658497d21ea103b718ae2f2b809fb0009828666e14d9e1077fc01", func := "asterism/asterismlaw23.SetsAll", spec := "setsAll", apart := false, narrowed := true }
def SetsAllUptoSaid : Prop := setsAllUptoRow.holds Try.pinned (OpenSpec.upto setsAllSpec)

/-- 'asterismlaw23.SetsLaws', WHERE WHAT IT READS IS OF BULK AT MOST 1048576: true; the input reads as it did. -/
def setsLawsUptoRow : OpenClaim := { program := "ytgmddliidplooaa", sum := "1ced0a591d8658497d21ea103b718ae2f2b809fb0009828666e14d9e1077fc01", func := "asterism/asterismlaw23.SetsLaws", spec := "setsLaws", apart := false, narrowed := true }
def SetsLawsUptoSaid : Prop := setsLawsUptoRow.holds Try.pinned (OpenSpec.upto setsLawsSpec)

/-- 'asterismlaw2.WideNum', WHERE WHAT IT READS IS OF BULK AT MOST 1048576: true; the input reads as it did. -/
def wideNumUptoRow : OpenClaim := { program := "ytgmddliidplooaa", sum := "1ced0a591d8658497d21ea103b718ae2f2b809fb0009828666e14d9e1077fc01", func := "asterism/asterismlaw2.WideNum", spec := "wideNum", inPlace := ["math/bits.Add64", "math/bits.Sub64"], named := ["math/bits.divideError", "math/bits.overflowError"], apart := false, narrowed := true }
def WideNumUptoSaid : Prop := wideNumUptoRow.holds Try.pinned (OpenSpec.upto wideNumSpec)

/-- 'asterismlaw2.WideAll', WHERE WHAT IT READS IS OF BULK AT MOST 1048576: true; the input reads as it did. -/
def wideAllUptoRow : OpenClaim := { program := "ytgmddliidplooaa", sum := "1ced0a591d8658497d21ea103b718ae2f2b809fb0009828666e14d9e1077fc01", func := "asterism/asterismlaw2.WideAll", spec := "wideAll", inPlace := ["math/bits.Add64", "math/bits.Sub64"], named := ["math/bits.divideError", "math/bits.overflowError"], apart := false, narrowed := true }
def WideAllUptoSaid : Prop := wideAllUptoRow.holds Try.pinned (OpenSpec.upto wideAllSpec)

/-- 'asterismlaw2.WideQuo', WHERE WHAT IT READS IS OF BULK AT MOST 1048576: true; the input reads as it did. -/
def wideQuoUptoRow : OpenClaim := { program := "ytgmddliidplooaa", sum := "1ced0a591d8658497d21ea103b718ae2f2b809fb0009828666e14d9e1077fc01", func := "asterism/asterismlaw2.WideQuo", spec := "wideQuo", inPlace := ["math/bits.Add64", "math/bits.Sub64"], named := ["math/bits.divideError", "math/bits.overflowError"], apart := false, narrowed := true }
def WideQuoUptoSaid : Prop := wideQuoUptoRow.holds Try.pinned (OpenSpec.upto wideQuoSpec)

end Rows
end Go.Proofs.Ytgmddliidplooaa
