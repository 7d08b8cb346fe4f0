/-
  No cell of these rows narrows 'for every input' (looked for: loops, veiled, ifaces, maps, wideKeys, modest, calm, conditions, laid).
  DERIVED. THE GIVEN ROWS OF THIS SEAT. 7 by the template 'for every input the law returns true; each argument reads behind the call as it read before'; 0 by the template 'total and deterministic' (their statements: YtkfdfenaaidkkaaTotals.lean).
  GIVEN WITH THE SEED: the statements are not yours to turn. If you find one false, say at which input.
  Laid BY PROGRAM, IN A SANDBOX (cutbox-rows.mjs): the forced cells as the released guide's own fill.sh prints them over the translation 0c053eba3c1f336c… (all of the seat's roots in one cut). By AI agents, Wed Nov 11 2026. No macro, syntax, notation, axiom, sorry.
-/
import Derived.Test.YtkfdfenaaidkkaaChecked
import GoSem.Claim
import GoSem.ClaimJoined
import GoSem.ClaimMapViews
import Derived.JoinedTies
import Derived.KernelRfl
namespace Go.Proofs.Ytkfdfenaaidkkaa
/- THE CELL 'sum', in the pinned program and in every row, IS THE sha256 OF THE DUMP (.gsa) THAT YtkfdfenaaidkkaaProg.lean LOADS. Nothing in Lean hashes anything: it is a label: what it is worth is what the hold of that sum in a sandbox is worth. -/
noncomputable def Try.pinned : Pinned := { name := "ytkfdfenaaidkkaa", sum := "0c053eba3c1f336c613a26637f74d23bb01614ed2f528b81c9e436bcbb32dca0", checked := Try.checked }
namespace Rows
def none {H : Type} : Left H := { results := [], args := [] }

/-- 'asterismlaw5.DictAll': WHATEVER THE INPUT: true; the input reads as it did. -/
def dictAllSpec : ChangeSpec := { name := "dictAll", fn := fun _ => fun
  | [d1, d2, d3] => { results := [.lit (.bool true)], args := [d1, d2, d3] }
  | _ => none }
def dictAllRow : OpenClaim := { program := "ytkfdfenaaidkkaa", sum := "0c053eba3c1f336c613a26637f74d23bb01614ed2f528b81c9e436bcbb32dca0", func := "asterism/asterismlaw5.DictAll", spec := "dictAll", inPlace := ["internal/bytealg.abigen_runtime_cmpstring", "slices.overlaps[asterism/omap.pair[string, int]]"], unfollowed := true, recurses := true, apart := false }
def DictAllSaid : Prop := dictAllRow.holds Try.pinned (OpenSpec.ofChange dictAllSpec)

/-- ITS FALSE NEIGHBOUR: 'it returns false'. Refute it at one input. -/
def dictAllWrong : ChangeSpec := { name := "dictAll", fn := fun _ => fun
  | [d1, d2, d3] => { results := [.lit (.bool false)], args := [d1, d2, d3] }
  | _ => none }
def DictAllWrongFalsely : Prop := dictAllRow.holds Try.pinned (OpenSpec.ofChange dictAllWrong)

/-- 'asterismlaw5.DictOrder': WHATEVER THE INPUT: true; the input reads as it did. -/
def dictOrderSpec : ChangeSpec := { name := "dictOrder", fn := fun _ => fun
  | [d1, d2] => { results := [.lit (.bool true)], args := [d1, d2] }
  | _ => none }
def dictOrderRow : OpenClaim := { program := "ytkfdfenaaidkkaa", sum := "0c053eba3c1f336c613a26637f74d23bb01614ed2f528b81c9e436bcbb32dca0", func := "asterism/asterismlaw5.DictOrder", spec := "dictOrder", inPlace := ["internal/bytealg.abigen_runtime_cmpstring", "slices.overlaps[asterism/omap.pair[string, int]]"], unfollowed := true, recurses := true, apart := false }
def DictOrderSaid : Prop := dictOrderRow.holds Try.pinned (OpenSpec.ofChange dictOrderSpec)

/-- ITS FALSE NEIGHBOUR: 'it returns false'. Refute it at one input. -/
def dictOrderWrong : ChangeSpec := { name := "dictOrder", fn := fun _ => fun
  | [d1, d2] => { results := [.lit (.bool false)], args := [d1, d2] }
  | _ => none }
def DictOrderWrongFalsely : Prop := dictOrderRow.holds Try.pinned (OpenSpec.ofChange dictOrderWrong)

/-- 'asterismlaw5.DictNone': WHATEVER THE INPUT: true; the input reads as it did. -/
def dictNoneSpec : ChangeSpec := { name := "dictNone", fn := fun _ => fun
  | [] => { results := [.lit (.bool true)], args := [] }
  | _ => none }
def dictNoneRow : OpenClaim := { program := "ytkfdfenaaidkkaa", sum := "0c053eba3c1f336c613a26637f74d23bb01614ed2f528b81c9e436bcbb32dca0", func := "asterism/asterismlaw5.DictNone", spec := "dictNone", inPlace := ["internal/bytealg.abigen_runtime_cmpstring", "slices.overlaps[asterism/omap.pair[string, int]]"], unfollowed := true, recurses := true, apart := false }
def DictNoneSaid : Prop := dictNoneRow.holds Try.pinned (OpenSpec.ofChange dictNoneSpec)

/-- ITS FALSE NEIGHBOUR: 'it returns false'. Refute it at one input. -/
def dictNoneWrong : ChangeSpec := { name := "dictNone", fn := fun _ => fun
  | [] => { results := [.lit (.bool false)], args := [] }
  | _ => none }
def DictNoneWrongFalsely : Prop := dictNoneRow.holds Try.pinned (OpenSpec.ofChange dictNoneWrong)

/-- 'asterismlaw5.DictMany': WHATEVER THE INPUT: true; the input reads as it did. -/
def dictManySpec : ChangeSpec := { name := "dictMany", fn := fun _ => fun
  | [d1, d2, d3] => { results := [.lit (.bool true)], args := [d1, d2, d3] }
  | _ => none }
def dictManyRow : OpenClaim := { program := "ytkfdfenaaidkkaa", sum := "0c053eba3c1f336c613a26637f74d23bb01614ed2f528b81c9e436bcbb32dca0", func := "asterism/asterismlaw5.DictMany", spec := "dictMany", inPlace := ["internal/bytealg.abigen_runtime_cmpstring", "slices.overlaps[asterism/omap.pair[string, int]]"], unfollowed := true, recurses := true, apart := false }
def DictManySaid : Prop := dictManyRow.holds Try.pinned (OpenSpec.ofChange dictManySpec)

/-- ITS FALSE NEIGHBOUR: 'it returns false'. Refute it at one input. -/
def dictManyWrong : ChangeSpec := { name := "dictMany", fn := fun _ => fun
  | [d1, d2, d3] => { results := [.lit (.bool false)], args := [d1, d2, d3] }
  | _ => none }
def DictManyWrongFalsely : Prop := dictManyRow.holds Try.pinned (OpenSpec.ofChange dictManyWrong)

/-- 'asterismlaw6.ColumnAll': WHATEVER THE INPUT: true; the input reads as it did. -/
def columnAllSpec : ChangeSpec := { name := "columnAll", fn := fun _ => fun
  | [d1, d2, d3] => { results := [.lit (.bool true)], args := [d1, d2, d3] }
  | _ => none }
def columnAllRow : OpenClaim := { program := "ytkfdfenaaidkkaa", sum := "0c053eba3c1f336c613a26637f74d23bb01614ed2f528b81c9e436bcbb32dca0", func := "asterism/asterismlaw6.ColumnAll", spec := "columnAll", inPlace := ["internal/bytealg.abigen_runtime_cmpstring", "slices.overlaps[asterism/omap.pair[string, int]]"], unfollowed := true, recurses := true, apart := false }
def ColumnAllSaid : Prop := columnAllRow.holds Try.pinned (OpenSpec.ofChange columnAllSpec)

/-- ITS FALSE NEIGHBOUR: 'it returns false'. Refute it at one input. -/
def columnAllWrong : ChangeSpec := { name := "columnAll", fn := fun _ => fun
  | [d1, d2, d3] => { results := [.lit (.bool false)], args := [d1, d2, d3] }
  | _ => none }
def ColumnAllWrongFalsely : Prop := columnAllRow.holds Try.pinned (OpenSpec.ofChange columnAllWrong)

/-- 'asterismlaw6.ColumnNone': WHATEVER THE INPUT: true; the input reads as it did. -/
def columnNoneSpec : ChangeSpec := { name := "columnNone", fn := fun _ => fun
  | [] => { results := [.lit (.bool true)], args := [] }
  | _ => none }
def columnNoneRow : OpenClaim := { program := "ytkfdfenaaidkkaa", sum := "0c053eba3c1f336c613a26637f74d23bb01614ed2f528b81c9e436bcbb32dca0", func := "asterism/asterismlaw6.ColumnNone", spec := "columnNone", inPlace := ["internal/bytealg.abigen_runtime_cmpstring", "slices.overlaps[asterism/omap.pair[string, int]]"], unfollowed := true, recurses := true, apart := false }
def ColumnNoneSaid : Prop := columnNoneRow.holds Try.pinned (OpenSpec.ofChange columnNoneSpec)

/-- ITS FALSE NEIGHBOUR: 'it returns false'. Refute it at one input. -/
def columnNoneWrong : ChangeSpec := { name := "columnNone", fn := fun _ => fun
  | [] => { results := [.lit (.bool false)], args := [] }
  | _ => none }
def ColumnNoneWrongFalsely : Prop := columnNoneRow.holds Try.pinned (OpenSpec.ofChange columnNoneWrong)

/-- 'asterismlaw6.ColumnWords': WHATEVER THE INPUT: true; the input reads as it did. -/
def columnWordsSpec : ChangeSpec := { name := "columnWords", fn := fun _ => fun
  | [d1, d2] => { results := [.lit (.bool true)], args := [d1, d2] }
  | _ => none }
def columnWordsRow : OpenClaim := { program := "ytkfdfenaaidkkaa", sum := "0c053eba3c1f336c613a26637f74d23bb01614ed2f528b81c9e436bcbb32dca0", func := "asterism/asterismlaw6.ColumnWords", spec := "columnWords", inPlace := ["internal/bytealg.abigen_runtime_cmpstring", "slices.overlaps[asterism/omap.pair[string, int]]"], unfollowed := true, recurses := true, apart := false }
def ColumnWordsSaid : Prop := columnWordsRow.holds Try.pinned (OpenSpec.ofChange columnWordsSpec)

/-- ITS FALSE NEIGHBOUR: 'it returns false'. Refute it at one input. -/
def columnWordsWrong : ChangeSpec := { name := "columnWords", fn := fun _ => fun
  | [d1, d2] => { results := [.lit (.bool false)], args := [d1, d2] }
  | _ => none }
def ColumnWordsWrongFalsely : Prop := columnWordsRow.holds Try.pinned (OpenSpec.ofChange columnWordsWrong)

/- THE SECOND FORM. 'bulk': how many values and letters a reading holds, each counted each time it is reached (what is shared counts as often as it is met; a slice's spare places count too). A statement '..UptoSaid' is the law's where the arguments, and the package variables that the reading takes, are together of bulk at most 1048576: NARROWER than '..Said'. Prove '..Said' where nothing that the law and all that it calls make is longer than what came in: it says more and counts as full. Else prove '..UptoSaid'. A law counts once. -/
mutual
def uptoBulk {H : Type} : DataW H → Nat
  | .lit (.string bytes) => bytes.length + 1
  | .lit _ => 1
  | .nil => 1
  | .ptr d => uptoBulk d + 1
  | .slice elems spare => uptoBulkAll elems + uptoBulkAll spare + 1
  | .agg parts => uptoBulkAll parts + 1
  | .iface _ d => uptoBulk d + 1
  | .map entries => uptoBulkEntries entries + 1
  | .held _ => 1
def uptoBulkAll {H : Type} : List (DataW H) → Nat
  | [] => 0
  | d :: r => uptoBulk d + uptoBulkAll r
def uptoBulkEntries {H : Type} : List (Lit × DataW H) → Nat
  | [] => 0
  | x :: r => uptoBulkEntry x + uptoBulkEntries r
def uptoBulkEntry {H : Type} : Lit × DataW H → Nat
  | (.string bytes, d) => bytes.length + uptoBulk d + 1
  | (_, d) => uptoBulk d + 1
 end
def uptoSmall : (H : Type) → List (DataW H) → Bool := fun _ ds => decide (uptoBulkAll ds ≤ 1048576)
def OpenSpec.upto (s : _root_.Go.ChangeSpec) : _root_.Go.OpenSpec := { _root_.Go.OpenSpec.ofChange s with cond := some uptoSmall }

/-- 'asterismlaw5.DictAll', WHERE WHAT IT READS IS OF BULK AT MOST 1048576: true; the input reads as it did. -/
def dictAllUptoRow : OpenClaim := { program := "ytkfdfenaaidkkaa", sum := "0c053eba3c1f336c613a26637f74d23bb01614ed2f528b81c9e436bcbb32dca0", func := "asterism/asterismlaw5.DictAll", spec := "dictAll", inPlace := ["internal/bytealg.abigen_runtime_cmpstring", "slices.overlaps[asterism/omap.pair[string, int]]"], unfollowed := true, recurses := true, apart := false, narrowed := true }
def DictAllUptoSaid : Prop := dictAllUptoRow.holds Try.pinned (OpenSpec.upto dictAllSpec)

/-- 'asterismlaw5.DictOrder', WHERE WHAT IT READS IS OF BULK AT MOST 1048576: true; the input reads as it did. -/
def dictOrderUptoRow : OpenClaim := { program := "ytkfdfenaaidkkaa", sum := "0c053eba3c1f336c613a26637f74d23bb01614ed2f528b81c9e436bcbb32dca0", func := "asterism/asterismlaw5.DictOrder", spec := "dictOrder", inPlace := ["internal/bytealg.abigen_runtime_cmpstring", "slices.overlaps[asterism/omap.pair[string, int]]"], unfollowed := true, recurses := true, apart := false, narrowed := true }
def DictOrderUptoSaid : Prop := dictOrderUptoRow.holds Try.pinned (OpenSpec.upto dictOrderSpec)

/-- 'asterismlaw5.DictNone', WHERE WHAT IT READS IS OF BULK AT MOST 1048576: true; the input reads as it did. -/
def dictNoneUptoRow : OpenClaim := { program := "ytkfdfenaaidkkaa", sum := "0c053eba3c1f336c613a26637f74d23bb01614ed2f528b81c9e436bcbb32dca0", func := "asterism/asterismlaw5.DictNone", spec := "dictNone", inPlace := ["internal/bytealg.abigen_runtime_cmpstring", "slices.overlaps[asterism/omap.pair[string, int]]"], unfollowed := true, recurses := true, apart := false, narrowed := true }
def DictNoneUptoSaid : Prop := dictNoneUptoRow.holds Try.pinned (OpenSpec.upto dictNoneSpec)

/-- 'asterismlaw5.DictMany', WHERE WHAT IT READS IS OF BULK AT MOST 1048576: true; the input reads as it did. -/
def dictManyUptoRow : OpenClaim := { program := "ytkfdfenaaidkkaa", sum := "0c053eba3c1f336c613a26637f74d23bb01614ed2f528b81c9e436bcbb32dca0", func := "asterism/asterismlaw5.DictMany", spec := "dictMany", inPlace := ["internal/bytealg.abigen_runtime_cmpstring", "slices.overlaps[asterism/omap.pair[string, int]]"], unfollowed := true, recurses := true, apart := false, narrowed := true }
def DictManyUptoSaid : Prop := dictManyUptoRow.holds Try.pinned (OpenSpec.upto dictManySpec)

/-- 'asterismlaw6.ColumnAll', WHERE WHAT IT READS IS OF BULK AT MOST 1048576: true; the input reads as it did. -/
def columnAllUptoRow : OpenClaim := { program := "ytkfdfenaaidkkaa", sum := "0c053eba3c1f336c613a26637f74d23bb01614ed2f528b81c9e436bcbb32dca0", func := "asterism/asterismlaw6.ColumnAll", spec := "columnAll", inPlace := ["internal/bytealg.abigen_runtime_cmpstring", "slices.overlaps[asterism/omap.pair[string, int]]"], unfollowed := true, recurses := true, apart := false, narrowed := true }
def ColumnAllUptoSaid : Prop := columnAllUptoRow.holds Try.pinned (OpenSpec.upto columnAllSpec)

/-- 'asterismlaw6.ColumnNone', WHERE WHAT IT READS IS OF BULK AT MOST 1048576: true; the input reads as it did. -/
def columnNoneUptoRow : OpenClaim := { program := "ytkfdfenaaidkkaa", sum := "0c053eba3c1f336c613a26637f74d23bb01614ed2f528b81c9e436bcbb32dca0", func := "asterism/asterismlaw6.ColumnNone", spec := "columnNone", inPlace := ["internal/bytealg.abigen_runtime_cmpstring", "slices.overlaps[asterism/omap.pair[string, int]]"], unfollowed := true, recurses := true, apart := false, narrowed := true }
def ColumnNoneUptoSaid : Prop := columnNoneUptoRow.holds Try.pinned (OpenSpec.upto columnNoneSpec)

/-- 'asterismlaw6.ColumnWords', WHERE WHAT IT READS IS OF BULK AT MOST 1048576: true; the input reads as it did. -/
def columnWordsUptoRow : OpenClaim := { program := "ytkfdfenaaidkkaa", sum := "0c053eba3c1f336c613a26637f74d23bb01614ed2f528b81c9e436bcbb32dca0", func := "asterism/asterismlaw6.ColumnWords", spec := "columnWords", inPlace := ["internal/bytealg.abigen_runtime_cmpstring", "slices.overlaps[asterism/omap.pair[string, int]]"], unfollowed := true, recurses := true, apart := false, narrowed := true }
def ColumnWordsUptoSaid : Prop := columnWordsUptoRow.holds Try.pinned (OpenSpec.upto columnWordsSpec)

end Rows
end Go.Proofs.Ytkfdfenaaidkkaa
