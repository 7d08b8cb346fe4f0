/-
  No cell of these rows narrows 'for every input' (looked for: loops, veiled, ifaces, maps, wideKeys, modest, calm, conditions, laid).
  DERIVED. THE GIVEN ROWS OF THIS SEAT. 7 by the template 'for every input the law returns true; each argument reads behind the call as it read before'; 0 by the template 'total and deterministic' (their statements: YtcbojoeijpeadaaTotals.lean).
  GIVEN WITH THE SEED: the statements are not yours to turn. If you find one false, say at which input.
  Laid BY PROGRAM, IN A SANDBOX (cutbox-rows.mjs): the forced cells as the released guide's own fill.sh prints them over the translation af2d43231f7ba717… (all of the seat's roots in one cut). By AI agents, Wed Nov 11 2026. No macro, syntax, notation, axiom, sorry.
-/
import Derived.Test.YtcbojoeijpeadaaChecked
import GoSem.Claim
import GoSem.ClaimJoined
import GoSem.ClaimMapViews
import Derived.JoinedTies
import Derived.KernelRfl
namespace Go.Proofs.Ytcbojoeijpeadaa
/- THE CELL 'sum', in the pinned program and in every row, IS THE sha256 OF THE DUMP (.gsa) THAT YtcbojoeijpeadaaProg.lean LOADS. Nothing in Lean hashes anything: it is a label: what it is worth is what the hold of that sum in a sandbox is worth. -/
noncomputable def Try.pinned : Pinned := { name := "ytcbojoeijpeadaa", sum := "af2d43231f7ba71746c51ef7bd53909600fb6146b7d0c25447c8ea67df8210de", checked := Try.checked }
namespace Rows
def none {H : Type} : Left H := { results := [], args := [] }

/-- 'asterismlaw4.MapAll': WHATEVER THE INPUT: true; the input reads as it did. -/
def mapAllSpec : ChangeSpec := { name := "mapAll", fn := fun _ => fun
  | [d1, d2] => { results := [.lit (.bool true)], args := [d1, d2] }
  | _ => none }
def mapAllRow : OpenClaim := { program := "ytcbojoeijpeadaa", sum := "af2d43231f7ba71746c51ef7bd53909600fb6146b7d0c25447c8ea67df8210de", func := "asterism/asterismlaw4.MapAll", spec := "mapAll", inPlace := ["slices.overlaps[asterism/omap.pair[int, string]]", "slices.overlaps[asterism/omap.pair[int, int]]"], unfollowed := true, recurses := true, apart := false }
def MapAllSaid : Prop := mapAllRow.holds Try.pinned (OpenSpec.ofChange mapAllSpec)

/-- ITS FALSE NEIGHBOUR: 'it returns false'. Refute it at one input. -/
def mapAllWrong : ChangeSpec := { name := "mapAll", fn := fun _ => fun
  | [d1, d2] => { results := [.lit (.bool false)], args := [d1, d2] }
  | _ => none }
def MapAllWrongFalsely : Prop := mapAllRow.holds Try.pinned (OpenSpec.ofChange mapAllWrong)

/-- 'asterismlaw4.MapOther': WHATEVER THE INPUT: true; the input reads as it did. -/
def mapOtherSpec : ChangeSpec := { name := "mapOther", fn := fun _ => fun
  | [d1, d2] => { results := [.lit (.bool true)], args := [d1, d2] }
  | _ => none }
def mapOtherRow : OpenClaim := { program := "ytcbojoeijpeadaa", sum := "af2d43231f7ba71746c51ef7bd53909600fb6146b7d0c25447c8ea67df8210de", func := "asterism/asterismlaw4.MapOther", spec := "mapOther", inPlace := ["slices.overlaps[asterism/omap.pair[int, string]]", "slices.overlaps[asterism/omap.pair[int, int]]"], unfollowed := true, recurses := true, apart := false }
def MapOtherSaid : Prop := mapOtherRow.holds Try.pinned (OpenSpec.ofChange mapOtherSpec)

/-- ITS FALSE NEIGHBOUR: 'it returns false'. Refute it at one input. -/
def mapOtherWrong : ChangeSpec := { name := "mapOther", fn := fun _ => fun
  | [d1, d2] => { results := [.lit (.bool false)], args := [d1, d2] }
  | _ => none }
def MapOtherWrongFalsely : Prop := mapOtherRow.holds Try.pinned (OpenSpec.ofChange mapOtherWrong)

/-- 'asterismlaw4.MapLeft': WHATEVER THE INPUT: true; the input reads as it did. -/
def mapLeftSpec : ChangeSpec := { name := "mapLeft", fn := fun _ => fun
  | [d1, d2] => { results := [.lit (.bool true)], args := [d1, d2] }
  | _ => none }
def mapLeftRow : OpenClaim := { program := "ytcbojoeijpeadaa", sum := "af2d43231f7ba71746c51ef7bd53909600fb6146b7d0c25447c8ea67df8210de", func := "asterism/asterismlaw4.MapLeft", spec := "mapLeft", inPlace := ["slices.overlaps[asterism/omap.pair[int, string]]", "slices.overlaps[asterism/omap.pair[int, int]]"], unfollowed := true, recurses := true, apart := false }
def MapLeftSaid : Prop := mapLeftRow.holds Try.pinned (OpenSpec.ofChange mapLeftSpec)

/-- ITS FALSE NEIGHBOUR: 'it returns false'. Refute it at one input. -/
def mapLeftWrong : ChangeSpec := { name := "mapLeft", fn := fun _ => fun
  | [d1, d2] => { results := [.lit (.bool false)], args := [d1, d2] }
  | _ => none }
def MapLeftWrongFalsely : Prop := mapLeftRow.holds Try.pinned (OpenSpec.ofChange mapLeftWrong)

/-- 'asterismlaw22.AggMany': WHATEVER THE INPUT: true; the input reads as it did. -/
def aggManySpec : ChangeSpec := { name := "aggMany", fn := fun _ => fun
  | [d1, d2, d3] => { results := [.lit (.bool true)], args := [d1, d2, d3] }
  | _ => none }
def aggManyRow : OpenClaim := { program := "ytcbojoeijpeadaa", sum := "af2d43231f7ba71746c51ef7bd53909600fb6146b7d0c25447c8ea67df8210de", func := "asterism/asterismlaw22.AggMany", spec := "aggMany", inPlace := ["math/bits.Add64", "slices.overlaps[asterism/omap.pair[asterism/api.Value, bool]]", "math/bits.Sub64"], unfollowed := true, recurses := true, named := ["math/bits.divideError", "math/bits.overflowError"], apart := false }
def AggManySaid : Prop := aggManyRow.holds Try.pinned (OpenSpec.ofChange aggManySpec)

/-- ITS FALSE NEIGHBOUR: 'it returns false'. Refute it at one input. -/
def aggManyWrong : ChangeSpec := { name := "aggMany", fn := fun _ => fun
  | [d1, d2, d3] => { results := [.lit (.bool false)], args := [d1, d2, d3] }
  | _ => none }
def AggManyWrongFalsely : Prop := aggManyRow.holds Try.pinned (OpenSpec.ofChange aggManyWrong)

/-- 'asterismlaw22.AggOver': WHATEVER THE INPUT: true; the input reads as it did. -/
def aggOverSpec : ChangeSpec := { name := "aggOver", fn := fun _ => fun
  | [d1, d2] => { results := [.lit (.bool true)], args := [d1, d2] }
  | _ => none }
def aggOverRow : OpenClaim := { program := "ytcbojoeijpeadaa", sum := "af2d43231f7ba71746c51ef7bd53909600fb6146b7d0c25447c8ea67df8210de", func := "asterism/asterismlaw22.AggOver", spec := "aggOver", inPlace := ["math/bits.Add64", "slices.overlaps[asterism/omap.pair[asterism/api.Value, bool]]", "math/bits.Sub64"], unfollowed := true, recurses := true, named := ["math/bits.divideError", "math/bits.overflowError"], apart := false }
def AggOverSaid : Prop := aggOverRow.holds Try.pinned (OpenSpec.ofChange aggOverSpec)

/-- ITS FALSE NEIGHBOUR: 'it returns false'. Refute it at one input. -/
def aggOverWrong : ChangeSpec := { name := "aggOver", fn := fun _ => fun
  | [d1, d2] => { results := [.lit (.bool false)], args := [d1, d2] }
  | _ => none }
def AggOverWrongFalsely : Prop := aggOverRow.holds Try.pinned (OpenSpec.ofChange aggOverWrong)

/-- 'asterismlaw22.AggTurn': WHATEVER THE INPUT: true; the input reads as it did. -/
def aggTurnSpec : ChangeSpec := { name := "aggTurn", fn := fun _ => fun
  | [d1, d2] => { results := [.lit (.bool true)], args := [d1, d2] }
  | _ => none }
def aggTurnRow : OpenClaim := { program := "ytcbojoeijpeadaa", sum := "af2d43231f7ba71746c51ef7bd53909600fb6146b7d0c25447c8ea67df8210de", func := "asterism/asterismlaw22.AggTurn", spec := "aggTurn", inPlace := ["math/bits.Add64", "slices.overlaps[asterism/omap.pair[asterism/api.Value, bool]]", "math/bits.Sub64"], unfollowed := true, recurses := true, named := ["math/bits.divideError", "math/bits.overflowError"], apart := false }
def AggTurnSaid : Prop := aggTurnRow.holds Try.pinned (OpenSpec.ofChange aggTurnSpec)

/-- ITS FALSE NEIGHBOUR: 'it returns false'. Refute it at one input. -/
def aggTurnWrong : ChangeSpec := { name := "aggTurn", fn := fun _ => fun
  | [d1, d2] => { results := [.lit (.bool false)], args := [d1, d2] }
  | _ => none }
def AggTurnWrongFalsely : Prop := aggTurnRow.holds Try.pinned (OpenSpec.ofChange aggTurnWrong)

/-- 'asterismlaw22.AggNone': WHATEVER THE INPUT: true; the input reads as it did. -/
def aggNoneSpec : ChangeSpec := { name := "aggNone", fn := fun _ => fun
  | [] => { results := [.lit (.bool true)], args := [] }
  | _ => none }
def aggNoneRow : OpenClaim := { program := "ytcbojoeijpeadaa", sum := "af2d43231f7ba71746c51ef7bd53909600fb6146b7d0c25447c8ea67df8210de", func := "asterism/asterismlaw22.AggNone", spec := "aggNone", inPlace := ["math/bits.Add64", "slices.overlaps[asterism/omap.pair[asterism/api.Value, bool]]", "math/bits.Sub64"], unfollowed := true, recurses := true, named := ["math/bits.divideError", "math/bits.overflowError"], apart := false }
def AggNoneSaid : Prop := aggNoneRow.holds Try.pinned (OpenSpec.ofChange aggNoneSpec)

/-- ITS FALSE NEIGHBOUR: 'it returns false'. Refute it at one input. -/
def aggNoneWrong : ChangeSpec := { name := "aggNone", fn := fun _ => fun
  | [] => { results := [.lit (.bool false)], args := [] }
  | _ => none }
def AggNoneWrongFalsely : Prop := aggNoneRow.holds Try.pinned (OpenSpec.ofChange aggNoneWrong)

/- THE SECOND FORM. 'bulk': how many values and letters a reading holds, each counted each time it is reached (what is shared counts as often as it is met; a slice's spare places count too). A statement '..UptoSaid' is the law's where the arguments, and the package variables that the reading takes, are together of bulk at most 1048576: NARROWER than '..Said'. Prove '..Said' where nothing that the law and all that it calls make is longer than what came in: it says more and counts as full. Else prove '..UptoSaid'. A law counts once. -/
mutual
def uptoBulk {H : Type} : DataW H → Nat
  | .lit (.string bytes) => bytes.length + 1
  | .lit _ => 1
  | .nil => 1
  | .ptr d => uptoBulk d + 1
  | .slice elems spare => uptoBulkAll elems + uptoBulkAll spare + 1
  | .agg parts => uptoBulkAll parts + 1
  | .iface _ d => uptoBulk d + 1
  | .map entries => uptoBulkEntries entries + 1
  | .held _ => 1
def uptoBulkAll {H : Type} : List (DataW H) → Nat
  | [] => 0
  | d :: r => uptoBulk d + uptoBulkAll r
def uptoBulkEntries {H : Type} : List (Lit × DataW H) → Nat
  | [] => 0
  | x :: r => uptoBulkEntry x + uptoBulkEntries r
def uptoBulkEntry {H : Type} : Lit × DataW H → Nat
  | (.string bytes, d) => bytes.length + uptoBulk d + 1
  | (_, d) => uptoBulk d + 1
 end
def uptoSmall : (H : Type) → List (DataW H) → Bool := fun _ ds => decide (uptoBulkAll ds ≤ 1048576)
def OpenSpec.upto (s : _root_.Go.ChangeSpec) : _root_.Go.OpenSpec := { _root_.Go.OpenSpec.ofChange s with cond := some uptoSmall }

/-- 'asterismlaw4.MapAll', WHERE WHAT IT READS IS OF BULK AT MOST 1048576: true; the input reads as it did. -/
def mapAllUptoRow : OpenClaim := { program := "ytcbojoeijpeadaa", sum := "af2d43231f7ba71746c51ef7bd53909600fb6146b7d0c25447c8ea67df8210de", func := "asterism/asterismlaw4.MapAll", spec := "mapAll", inPlace := ["slices.overlaps[asterism/omap.pair[int, string]]", "slices.overlaps[asterism/omap.pair[int, int]]"], unfollowed := true, recurses := true, apart := false, narrowed := true }
def MapAllUptoSaid : Prop := mapAllUptoRow.holds Try.pinned (OpenSpec.upto mapAllSpec)

/-- 'asterismlaw4.MapOther', WHERE WHAT IT READS IS OF BULK AT MOST 1048576: true; the input reads as it did. -/
def mapOtherUptoRow : OpenClaim := { program := "ytcbojoeijpeadaa", sum := "af2d43231f7ba71746c51ef7bd53909600fb6146b7d0c25447c8ea67df8210de", func := "asterism/asterismlaw4.MapOther", spec := "mapOther", inPlace := ["slices.overlaps[asterism/omap.pair[int, string]]", "slices.overlaps[asterism/omap.pair[int, int]]"], unfollowed := true, recurses := true, apart := false, narrowed := true }
def MapOtherUptoSaid : Prop := mapOtherUptoRow.holds Try.pinned (OpenSpec.upto mapOtherSpec)

/-- 'asterismlaw4.MapLeft', WHERE WHAT IT READS IS OF BULK AT MOST 1048576: true; the input reads as it did. -/
def mapLeftUptoRow : OpenClaim := { program := "ytcbojoeijpeadaa", sum := "af2d43231f7ba71746c51ef7bd53909600fb6146b7d0c25447c8ea67df8210de", func := "asterism/asterismlaw4.MapLeft", spec := "mapLeft", inPlace := ["slices.overlaps[asterism/omap.pair[int, string]]", "slices.overlaps[asterism/omap.pair[int, int]]"], unfollowed := true, recurses := true, apart := false, narrowed := true }
def MapLeftUptoSaid : Prop := mapLeftUptoRow.holds Try.pinned (OpenSpec.upto mapLeftSpec)

/-- 'asterismlaw22.AggMany', WHERE WHAT IT READS IS OF BULK AT MOST 1048576: true; the input reads as it did. -/
def aggManyUptoRow : OpenClaim := { program := "ytcbojoeijpeadaa", sum := "af2d43231f7ba71746c51ef7bd53909600fb6146b7d0c25447c8ea67df8210de", func := "asterism/asterismlaw22.AggMany", spec := "aggMany", inPlace := ["math/bits.Add64", "slices.overlaps[asterism/omap.pair[asterism/api.Value, bool]]", "math/bits.Sub64"], unfollowed := true, recurses := true, named := ["math/bits.divideError", "math/bits.overflowError"], apart := false, narrowed := true }
def AggManyUptoSaid : Prop := aggManyUptoRow.holds Try.pinned (OpenSpec.upto aggManySpec)

/-- 'asterismlaw22.AggOver', WHERE WHAT IT READS IS OF BULK AT MOST 1048576: true; the input reads as it did. -/
def aggOverUptoRow : OpenClaim := { program := "ytcbojoeijpeadaa", sum := "af2d43231f7ba71746c51ef7bd53909600fb6146b7d0c25447c8ea67df8210de", func := "asterism/asterismlaw22.AggOver", spec := "aggOver", inPlace := ["math/bits.Add64", "slices.overlaps[asterism/omap.pair[asterism/api.Value, bool]]", "math/bits.Sub64"], unfollowed := true, recurses := true, named := ["math/bits.divideError", "math/bits.overflowError"], apart := false, narrowed := true }
def AggOverUptoSaid : Prop := aggOverUptoRow.holds Try.pinned (OpenSpec.upto aggOverSpec)

/-- 'asterismlaw22.AggTurn', WHERE WHAT IT READS IS OF BULK AT MOST 1048576: true; the input reads as it did. -/
def aggTurnUptoRow : OpenClaim := { program := "ytcbojoeijpeadaa", sum := "af2d43231f7ba71746c51ef7bd53909600fb6146b7d0c25447c8ea67df8210de", func := "asterism/asterismlaw22.AggTurn", spec := "aggTurn", inPlace := ["math/bits.Add64", "slices.overlaps[asterism/omap.pair[asterism/api.Value, bool]]", "math/bits.Sub64"], unfollowed := true, recurses := true, named := ["math/bits.divideError", "math/bits.overflowError"], apart := false, narrowed := true }
def AggTurnUptoSaid : Prop := aggTurnUptoRow.holds Try.pinned (OpenSpec.upto aggTurnSpec)

/-- 'asterismlaw22.AggNone', WHERE WHAT IT READS IS OF BULK AT MOST 1048576: true; the input reads as it did. -/
def aggNoneUptoRow : OpenClaim := { program := "ytcbojoeijpeadaa", sum := "af2d43231f7ba71746c51ef7bd53909600fb6146b7d0c25447c8ea67df8210de", func := "asterism/asterismlaw22.AggNone", spec := "aggNone", inPlace := ["math/bits.Add64", "slices.overlaps[asterism/omap.pair[asterism/api.Value, bool]]", "math/bits.Sub64"], unfollowed := true, recurses := true, named := ["math/bits.divideError", "math/bits.overflowError"], apart := false, narrowed := true }
def AggNoneUptoSaid : Prop := aggNoneUptoRow.holds Try.pinned (OpenSpec.upto aggNoneSpec)

end Rows
end Go.Proofs.Ytcbojoeijpeadaa
