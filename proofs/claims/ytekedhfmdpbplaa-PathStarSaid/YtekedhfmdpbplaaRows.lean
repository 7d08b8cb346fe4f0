/-
  No cell of these rows narrows 'for every input' (looked for: loops, veiled, ifaces, maps, wideKeys, modest, calm, conditions, laid).
  DERIVED. THE GIVEN ROWS OF THIS SEAT. 8 by the template 'for every input the law returns true; each argument reads behind the call as it read before'; 0 by the template 'total and deterministic' (their statements: YtekedhfmdpbplaaTotals.lean).
  GIVEN WITH THE SEED: the statements are not yours to turn. If you find one false, say at which input.
  Laid BY PROGRAM, IN A SANDBOX (cutbox-rows.mjs): the forced cells as the released guide's own fill.sh prints them over the translation 1071d6fbd504a223… (all of the seat's roots in one cut). By AI agents, Wed Nov 11 2026. No macro, syntax, notation, axiom, sorry.
-/
import Derived.Test.YtekedhfmdpbplaaChecked
import GoSem.Claim
import GoSem.ClaimJoined
import GoSem.ClaimMapViews
import Derived.JoinedTies
import Derived.KernelRfl
namespace Go.Proofs.Ytekedhfmdpbplaa
/- THE CELL 'sum', in the pinned program and in every row, IS THE sha256 OF THE DUMP (.gsa) THAT YtekedhfmdpbplaaProg.lean LOADS. Nothing in Lean hashes anything: it is a label: what it is worth is what the hold of that sum in a sandbox is worth. -/
noncomputable def Try.pinned : Pinned := { name := "ytekedhfmdpbplaa", sum := "1071d6fbd504a22345c73fb7f7751ca54143ce05c46ddc1fed1dba374c48e4ee", checked := Try.checked }
namespace Rows
def none {H : Type} : Left H := { results := [], args := [] }

/-- 'asterismlaw8.SchemaAll': WHATEVER THE INPUT: true; the input reads as it did. -/
def schemaAllSpec : ChangeSpec := { name := "schemaAll", fn := fun _ => fun
  | [d1, d2, d3] => { results := [.lit (.bool true)], args := [d1, d2, d3] }
  | _ => none }
def schemaAllRow : OpenClaim := { program := "ytekedhfmdpbplaa", sum := "1071d6fbd504a22345c73fb7f7751ca54143ce05c46ddc1fed1dba374c48e4ee", func := "asterism/asterismlaw8.SchemaAll", spec := "schemaAll", unfollowed := true, recurses := true, apart := false }
def SchemaAllSaid : Prop := schemaAllRow.holds Try.pinned (OpenSpec.ofChange schemaAllSpec)

/-- ITS FALSE NEIGHBOUR: 'it returns false'. Refute it at one input. -/
def schemaAllWrong : ChangeSpec := { name := "schemaAll", fn := fun _ => fun
  | [d1, d2, d3] => { results := [.lit (.bool false)], args := [d1, d2, d3] }
  | _ => none }
def SchemaAllWrongFalsely : Prop := schemaAllRow.holds Try.pinned (OpenSpec.ofChange schemaAllWrong)

/-- 'asterismlaw9.PathAll': WHATEVER THE INPUT: true; the input reads as it did. -/
def pathAllSpec : ChangeSpec := { name := "pathAll", fn := fun _ => fun
  | [d1, d2, d3, d4] => { results := [.lit (.bool true)], args := [d1, d2, d3, d4] }
  | _ => none }
def pathAllRow : OpenClaim := { program := "ytekedhfmdpbplaa", sum := "1071d6fbd504a22345c73fb7f7751ca54143ce05c46ddc1fed1dba374c48e4ee", func := "asterism/asterismlaw9.PathAll", spec := "pathAll", inPlace := ["internal/abi.NoEscape", "internal/bytealg.MakeNoZero"], unfollowed := true, recurses := true, apart := false }
def PathAllSaid : Prop := pathAllRow.holds Try.pinned (OpenSpec.ofChange pathAllSpec)

/-- ITS FALSE NEIGHBOUR: 'it returns false'. Refute it at one input. -/
def pathAllWrong : ChangeSpec := { name := "pathAll", fn := fun _ => fun
  | [d1, d2, d3, d4] => { results := [.lit (.bool false)], args := [d1, d2, d3, d4] }
  | _ => none }
def PathAllWrongFalsely : Prop := pathAllRow.holds Try.pinned (OpenSpec.ofChange pathAllWrong)

/-- 'asterismlaw9.PathEach': WHATEVER THE INPUT: true; the input reads as it did. -/
def pathEachSpec : ChangeSpec := { name := "pathEach", fn := fun _ => fun
  | [d1, d2] => { results := [.lit (.bool true)], args := [d1, d2] }
  | _ => none }
def pathEachRow : OpenClaim := { program := "ytekedhfmdpbplaa", sum := "1071d6fbd504a22345c73fb7f7751ca54143ce05c46ddc1fed1dba374c48e4ee", func := "asterism/asterismlaw9.PathEach", spec := "pathEach", inPlace := ["internal/abi.NoEscape", "internal/bytealg.MakeNoZero"], unfollowed := true, recurses := true, apart := false }
def PathEachSaid : Prop := pathEachRow.holds Try.pinned (OpenSpec.ofChange pathEachSpec)

/-- ITS FALSE NEIGHBOUR: 'it returns false'. Refute it at one input. -/
def pathEachWrong : ChangeSpec := { name := "pathEach", fn := fun _ => fun
  | [d1, d2] => { results := [.lit (.bool false)], args := [d1, d2] }
  | _ => none }
def PathEachWrongFalsely : Prop := pathEachRow.holds Try.pinned (OpenSpec.ofChange pathEachWrong)

/-- 'asterismlaw9.PathStar': WHATEVER THE INPUT: true; the input reads as it did. -/
def pathStarSpec : ChangeSpec := { name := "pathStar", fn := fun _ => fun
  | [d1, d2] => { results := [.lit (.bool true)], args := [d1, d2] }
  | _ => none }
def pathStarRow : OpenClaim := { program := "ytekedhfmdpbplaa", sum := "1071d6fbd504a22345c73fb7f7751ca54143ce05c46ddc1fed1dba374c48e4ee", func := "asterism/asterismlaw9.PathStar", spec := "pathStar", inPlace := ["internal/abi.NoEscape", "internal/bytealg.MakeNoZero"], unfollowed := true, recurses := true, apart := false }
def PathStarSaid : Prop := pathStarRow.holds Try.pinned (OpenSpec.ofChange pathStarSpec)

/-- ITS FALSE NEIGHBOUR: 'it returns false'. Refute it at one input. -/
def pathStarWrong : ChangeSpec := { name := "pathStar", fn := fun _ => fun
  | [d1, d2] => { results := [.lit (.bool false)], args := [d1, d2] }
  | _ => none }
def PathStarWrongFalsely : Prop := pathStarRow.holds Try.pinned (OpenSpec.ofChange pathStarWrong)

/-- 'asterismlaw9.PathDeep': WHATEVER THE INPUT: true; the input reads as it did. -/
def pathDeepSpec : ChangeSpec := { name := "pathDeep", fn := fun _ => fun
  | [d1, d2] => { results := [.lit (.bool true)], args := [d1, d2] }
  | _ => none }
def pathDeepRow : OpenClaim := { program := "ytekedhfmdpbplaa", sum := "1071d6fbd504a22345c73fb7f7751ca54143ce05c46ddc1fed1dba374c48e4ee", func := "asterism/asterismlaw9.PathDeep", spec := "pathDeep", inPlace := ["internal/abi.NoEscape", "internal/bytealg.MakeNoZero"], unfollowed := true, recurses := true, apart := false }
def PathDeepSaid : Prop := pathDeepRow.holds Try.pinned (OpenSpec.ofChange pathDeepSpec)

/-- ITS FALSE NEIGHBOUR: 'it returns false'. Refute it at one input. -/
def pathDeepWrong : ChangeSpec := { name := "pathDeep", fn := fun _ => fun
  | [d1, d2] => { results := [.lit (.bool false)], args := [d1, d2] }
  | _ => none }
def PathDeepWrongFalsely : Prop := pathDeepRow.holds Try.pinned (OpenSpec.ofChange pathDeepWrong)

/-- 'asterismlaw9.PathOrder': WHATEVER THE INPUT: true; the input reads as it did. -/
def pathOrderSpec : ChangeSpec := { name := "pathOrder", fn := fun _ => fun
  | [d1, d2, d3] => { results := [.lit (.bool true)], args := [d1, d2, d3] }
  | _ => none }
def pathOrderRow : OpenClaim := { program := "ytekedhfmdpbplaa", sum := "1071d6fbd504a22345c73fb7f7751ca54143ce05c46ddc1fed1dba374c48e4ee", func := "asterism/asterismlaw9.PathOrder", spec := "pathOrder", inPlace := ["internal/abi.NoEscape", "internal/bytealg.MakeNoZero"], unfollowed := true, recurses := true, apart := false }
def PathOrderSaid : Prop := pathOrderRow.holds Try.pinned (OpenSpec.ofChange pathOrderSpec)

/-- ITS FALSE NEIGHBOUR: 'it returns false'. Refute it at one input. -/
def pathOrderWrong : ChangeSpec := { name := "pathOrder", fn := fun _ => fun
  | [d1, d2, d3] => { results := [.lit (.bool false)], args := [d1, d2, d3] }
  | _ => none }
def PathOrderWrongFalsely : Prop := pathOrderRow.holds Try.pinned (OpenSpec.ofChange pathOrderWrong)

/-- 'asterismlaw10.DepMust': WHATEVER THE INPUT: true; the input reads as it did. -/
def depMustSpec : ChangeSpec := { name := "depMust", fn := fun _ => fun
  | [d1, d2] => { results := [.lit (.bool true)], args := [d1, d2] }
  | _ => none }
def depMustRow : OpenClaim := { program := "ytekedhfmdpbplaa", sum := "1071d6fbd504a22345c73fb7f7751ca54143ce05c46ddc1fed1dba374c48e4ee", func := "asterism/asterismlaw10.DepMust", spec := "depMust", inPlace := ["internal/abi.NoEscape", "internal/bytealg.MakeNoZero"], unfollowed := true, recurses := true, apart := false }
def DepMustSaid : Prop := depMustRow.holds Try.pinned (OpenSpec.ofChange depMustSpec)

/-- ITS FALSE NEIGHBOUR: 'it returns false'. Refute it at one input. -/
def depMustWrong : ChangeSpec := { name := "depMust", fn := fun _ => fun
  | [d1, d2] => { results := [.lit (.bool false)], args := [d1, d2] }
  | _ => none }
def DepMustWrongFalsely : Prop := depMustRow.holds Try.pinned (OpenSpec.ofChange depMustWrong)

/-- 'asterismlaw10.DepChain': WHATEVER THE INPUT: true; the input reads as it did. -/
def depChainSpec : ChangeSpec := { name := "depChain", fn := fun _ => fun
  | [d1, d2, d3] => { results := [.lit (.bool true)], args := [d1, d2, d3] }
  | _ => none }
def depChainRow : OpenClaim := { program := "ytekedhfmdpbplaa", sum := "1071d6fbd504a22345c73fb7f7751ca54143ce05c46ddc1fed1dba374c48e4ee", func := "asterism/asterismlaw10.DepChain", spec := "depChain", inPlace := ["internal/abi.NoEscape", "internal/bytealg.MakeNoZero"], unfollowed := true, recurses := true, apart := false }
def DepChainSaid : Prop := depChainRow.holds Try.pinned (OpenSpec.ofChange depChainSpec)

/-- ITS FALSE NEIGHBOUR: 'it returns false'. Refute it at one input. -/
def depChainWrong : ChangeSpec := { name := "depChain", fn := fun _ => fun
  | [d1, d2, d3] => { results := [.lit (.bool false)], args := [d1, d2, d3] }
  | _ => none }
def DepChainWrongFalsely : Prop := depChainRow.holds Try.pinned (OpenSpec.ofChange depChainWrong)

/- THE SECOND FORM. 'bulk': how many values and letters a reading holds, each counted each time it is reached (what is shared counts as often as it is met; a slice's spare places count too). A statement '..UptoSaid' is the law's where the arguments, and the package variables that the reading takes, are together of bulk at most 1048576: NARROWER than '..Said'. Prove '..Said' where nothing that the law and all that it calls make is longer than what came in: it says more and counts as full. Else prove '..UptoSaid'. A law counts once. -/
mutual
def uptoBulk {H : Type} : DataW H → Nat
  | .lit (.string bytes) => bytes.length + 1
  | .lit _ => 1
  | .nil => 1
  | .ptr d => uptoBulk d + 1
  | .slice elems spare => uptoBulkAll elems + uptoBulkAll spare + 1
  | .agg parts => uptoBulkAll parts + 1
  | .iface _ d => uptoBulk d + 1
  | .map entries => uptoBulkEntries entries + 1
  | .held _ => 1
def uptoBulkAll {H : Type} : List (DataW H) → Nat
  | [] => 0
  | d :: r => uptoBulk d + uptoBulkAll r
def uptoBulkEntries {H : Type} : List (Lit × DataW H) → Nat
  | [] => 0
  | x :: r => uptoBulkEntry x + uptoBulkEntries r
def uptoBulkEntry {H : Type} : Lit × DataW H → Nat
  | (.string bytes, d) => bytes.length + uptoBulk d + 1
  | (_, d) => uptoBulk d + 1
 end
def uptoSmall : (H : Type) → List (DataW H) → Bool := fun _ ds => decide (uptoBulkAll ds ≤ 1048576)
def OpenSpec.upto (s : _root_.Go.ChangeSpec) : _root_.Go.OpenSpec := { _root_.Go.OpenSpec.ofChange s with cond := some uptoSmall }

/-- 'asterismlaw8.SchemaAll', WHERE WHAT IT READS IS OF BULK AT MOST 1048576: true; the input reads as it did. -/
def schemaAllUptoRow : OpenClaim := { program := "ytekedhfmdpbplaa", sum := "1071d6fbd504a22345c73fb7f7751ca54143ce05c46ddc1fed1dba374c48e4ee", func := "asterism/asterismlaw8.SchemaAll", spec := "schemaAll", unfollowed := true, recurses := true, apart := false, narrowed := true }
def SchemaAllUptoSaid : Prop := schemaAllUptoRow.holds Try.pinned (OpenSpec.upto schemaAllSpec)

/-- 'asterismlaw9.PathAll', WHERE WHAT IT READS IS OF BULK AT MOST 1048576: true; the input reads as it did. -/
def pathAllUptoRow : OpenClaim := { program := "ytekedhfmdpbplaa", sum := "1071d6fbd504a22345c73fb7f7751ca54143ce05c46ddc1fed1dba374c48e4ee", func := "asterism/asterismlaw9.PathAll", spec := "pathAll", inPlace := ["internal/abi.NoEscape", "internal/bytealg.MakeNoZero"], unfollowed := true, recurses := true, apart := false, narrowed := true }
def PathAllUptoSaid : Prop := pathAllUptoRow.holds Try.pinned (OpenSpec.upto pathAllSpec)

/-- 'asterismlaw9.PathEach', WHERE WHAT IT READS IS OF BULK AT MOST 1048576: true; the input reads as it did. -/
def pathEachUptoRow : OpenClaim := { program := "ytekedhfmdpbplaa", sum := "1071d6fbd504a22345c73fb7f7751ca54143ce05c46ddc1fed1dba374c48e4ee", func := "asterism/asterismlaw9.PathEach", spec := "pathEach", inPlace := ["internal/abi.NoEscape", "internal/bytealg.MakeNoZero"], unfollowed := true, recurses := true, apart := false, narrowed := true }
def PathEachUptoSaid : Prop := pathEachUptoRow.holds Try.pinned (OpenSpec.upto pathEachSpec)

/-- 'asterismlaw9.PathStar', WHERE WHAT IT READS IS OF BULK AT MOST 1048576: true; the input reads as it did. -/
def pathStarUptoRow : OpenClaim := { program := "ytekedhfmdpbplaa", sum := "1071d6fbd504a22345c73fb7f7751ca54143ce05c46ddc1fed1dba374c48e4ee", func := "asterism/asterismlaw9.PathStar", spec := "pathStar", inPlace := ["internal/abi.NoEscape", "internal/bytealg.MakeNoZero"], unfollowed := true, recurses := true, apart := false, narrowed := true }
def PathStarUptoSaid : Prop := pathStarUptoRow.holds Try.pinned (OpenSpec.upto pathStarSpec)

/-- 'asterismlaw9.PathDeep', WHERE WHAT IT READS IS OF BULK AT MOST 1048576: true; the input reads as it did. -/
def pathDeepUptoRow : OpenClaim := { program := "ytekedhfmdpbplaa", sum := "1071d6fbd504a22345c73fb7f7751ca54143ce05c46ddc1fed1dba374c48e4ee", func := "asterism/asterismlaw9.PathDeep", spec := "pathDeep", inPlace := ["internal/abi.NoEscape", "internal/bytealg.MakeNoZero"], unfollowed := true, recurses := true, apart := false, narrowed := true }
def PathDeepUptoSaid : Prop := pathDeepUptoRow.holds Try.pinned (OpenSpec.upto pathDeepSpec)

/-- 'asterismlaw9.PathOrder', WHERE WHAT IT READS IS OF BULK AT MOST 1048576: true; the input reads as it did. -/
def pathOrderUptoRow : OpenClaim := { program := "ytekedhfmdpbplaa", sum := "1071d6fbd504a22345c73fb7f7751ca54143ce05c46ddc1fed1dba374c48e4ee", func := "asterism/asterismlaw9.PathOrder", spec := "pathOrder", inPlace := ["internal/abi.NoEscape", "internal/bytealg.MakeNoZero"], unfollowed := true, recurses := true, apart := false, narrowed := true }
def PathOrderUptoSaid : Prop := pathOrderUptoRow.holds Try.pinned (OpenSpec.upto pathOrderSpec)

/-- 'asterismlaw10.DepMust', WHERE WHAT IT READS IS OF BULK AT MOST 1048576: true; the input reads as it did. -/
def depMustUptoRow : OpenClaim := { program := "ytekedhfmdpbplaa", sum := "1071d6fbd504a22345c73fb7f7751ca54143ce05c46ddc1fed1dba374c48e4ee", func := "asterism/asterismlaw10.DepMust", spec := "depMust", inPlace := ["internal/abi.NoEscape", "internal/bytealg.MakeNoZero"], unfollowed := true, recurses := true, apart := false, narrowed := true }
def DepMustUptoSaid : Prop := depMustUptoRow.holds Try.pinned (OpenSpec.upto depMustSpec)

/-- 'asterismlaw10.DepChain', WHERE WHAT IT READS IS OF BULK AT MOST 1048576: true; the input reads as it did. -/
def depChainUptoRow : OpenClaim := { program := "ytekedhfmdpbplaa", sum := "1071d6fbd504a22345c73fb7f7751ca54143ce05c46ddc1fed1dba374c48e4ee", func := "asterism/asterismlaw10.DepChain", spec := "depChain", inPlace := ["internal/abi.NoEscape", "internal/bytealg.MakeNoZero"], unfollowed := true, recurses := true, apart := false, narrowed := true }
def DepChainUptoSaid : Prop := depChainUptoRow.holds Try.pinned (OpenSpec.upto depChainSpec)

end Rows
end Go.Proofs.Ytekedhfmdpbplaa
