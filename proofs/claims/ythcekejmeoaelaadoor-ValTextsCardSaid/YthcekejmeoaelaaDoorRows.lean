/-
  NARROWER THAN 'FOR EVERY INPUT', by the rows' own cells (each row's printed sentence says how): ValAll: laid · ValThree: laid · ValRow: laid · ValTests: laid · ValNames: laid · ValWord: laid · ValInts: laid · ValTexts: laid.
  DERIVED. THE GIVEN ROWS OF THIS SEAT. 8 by the template 'for every input the law returns true; each argument reads behind the call as it read before'; 0 by the template 'total and deterministic' (their statements: YthcekejmeoaelaaDoorTotals.lean).
  GIVEN WITH THE SEED: the statements are not yours to turn. If you find one false, say at which input.
  Laid BY PROGRAM, IN A SANDBOX (cutbox-rows.mjs): the forced cells as the released guide's own fill.sh prints them over the translation 6191a3457aa0ff4a… (all of the seat's roots in one cut). By AI agents, Wed Nov 11 2026. No macro, syntax, notation, axiom, sorry.
-/
import Derived.Test.YthcekejmeoaelaaDoorChecked
import GoSem.Claim
import GoSem.ClaimJoined
import GoSem.ClaimMapViews
import Derived.JoinedTies
import Derived.KernelRfl
namespace Go.Proofs.YthcekejmeoaelaaDoor
/- THE CELL 'sum', in the pinned program and in every row, IS THE sha256 OF THE DUMP (.gsa) THAT YthcekejmeoaelaaDoorProg.lean LOADS. Nothing in Lean hashes anything: it is a label: what it is worth is what the hold of that sum in a sandbox is worth. -/
noncomputable def Tryd.pinned : Pinned := { name := "ythcekejmeoaelaadoor", sum := "6191a3457aa0ff4a870b70fba5e23721f6aefac58ee0a7ac68f6c6255758008c", checked := Tryd.checked }
namespace Rows
def none {H : Type} : Left H := { results := [], args := [] }

/- WHAT THE LISTED PACKAGE-LEVEL VARIABLES READ AS WHEN THE CALL BEGINS. Each datum BY PROGRAM (the guide's laid-datum.mjs) off the statement by which the dump's own 'gosem.cut.vars' lays the variable. In a bare row this is a premise. The card (YthcekejmeoaelaaDoorCards.lean) ties it to the program's text. -/
def laid_math_bits_deBruijn32tab {H : Type} : DataW H := .agg [.lit (.int .u8 0), .lit (.int .u8 1), .lit (.int .u8 28), .lit (.int .u8 2), .lit (.int .u8 29), .lit (.int .u8 14), .lit (.int .u8 24), .lit (.int .u8 3), .lit (.int .u8 30), .lit (.int .u8 22), .lit (.int .u8 20), .lit (.int .u8 15), .lit (.int .u8 25), .lit (.int .u8 17), .lit (.int .u8 4), .lit (.int .u8 8), .lit (.int .u8 31), .lit (.int .u8 27), .lit (.int .u8 13), .lit (.int .u8 23), .lit (.int .u8 21), .lit (.int .u8 19), .lit (.int .u8 16), .lit (.int .u8 7), .lit (.int .u8 26), .lit (.int .u8 12), .lit (.int .u8 18), .lit (.int .u8 6), .lit (.int .u8 11), .lit (.int .u8 5), .lit (.int .u8 10), .lit (.int .u8 9)]
def laid_math_bits_deBruijn64tab {H : Type} : DataW H := .agg [.lit (.int .u8 0), .lit (.int .u8 1), .lit (.int .u8 56), .lit (.int .u8 2), .lit (.int .u8 57), .lit (.int .u8 49), .lit (.int .u8 28), .lit (.int .u8 3), .lit (.int .u8 61), .lit (.int .u8 58), .lit (.int .u8 42), .lit (.int .u8 50), .lit (.int .u8 38), .lit (.int .u8 29), .lit (.int .u8 17), .lit (.int .u8 4), .lit (.int .u8 62), .lit (.int .u8 47), .lit (.int .u8 59), .lit (.int .u8 36), .lit (.int .u8 45), .lit (.int .u8 43), .lit (.int .u8 51), .lit (.int .u8 22), .lit (.int .u8 53), .lit (.int .u8 39), .lit (.int .u8 33), .lit (.int .u8 30), .lit (.int .u8 24), .lit (.int .u8 18), .lit (.int .u8 12), .lit (.int .u8 5), .lit (.int .u8 63), .lit (.int .u8 55), .lit (.int .u8 48), .lit (.int .u8 27), .lit (.int .u8 60), .lit (.int .u8 41), .lit (.int .u8 37), .lit (.int .u8 16), .lit (.int .u8 46), .lit (.int .u8 35), .lit (.int .u8 44), .lit (.int .u8 21), .lit (.int .u8 52), .lit (.int .u8 32), .lit (.int .u8 23), .lit (.int .u8 11), .lit (.int .u8 54), .lit (.int .u8 26), .lit (.int .u8 40), .lit (.int .u8 15), .lit (.int .u8 34), .lit (.int .u8 20), .lit (.int .u8 31), .lit (.int .u8 10), .lit (.int .u8 25), .lit (.int .u8 14), .lit (.int .u8 19), .lit (.int .u8 9), .lit (.int .u8 13), .lit (.int .u8 8), .lit (.int .u8 7), .lit (.int .u8 6)]
def laid_internal_strconv_uint64pow10 {H : Type} : DataW H := .agg [.lit (.int .u64 1), .lit (.int .u64 10), .lit (.int .u64 100), .lit (.int .u64 1000), .lit (.int .u64 10000), .lit (.int .u64 100000), .lit (.int .u64 1000000), .lit (.int .u64 10000000), .lit (.int .u64 100000000), .lit (.int .u64 1000000000), .lit (.int .u64 10000000000), .lit (.int .u64 100000000000), .lit (.int .u64 1000000000000), .lit (.int .u64 10000000000000), .lit (.int .u64 100000000000000), .lit (.int .u64 1000000000000000), .lit (.int .u64 10000000000000000), .lit (.int .u64 100000000000000000), .lit (.int .u64 1000000000000000000), .lit (.int .u64 10000000000000000000)]

/-- 'asterismlaw1.ValAll': WHATEVER THE INPUT: true; the input reads as it did. -/
def valAllSpec : ChangeSpec := { name := "valAll", fn := fun _ => fun
  | [d1, d2, d3] => { results := [.lit (.bool true)], args := [d1, d2, d3] }
  | _ => none }
def valAllRow : OpenClaim := { program := "ythcekejmeoaelaadoor", sum := "6191a3457aa0ff4a870b70fba5e23721f6aefac58ee0a7ac68f6c6255758008c", func := "asterism/asterismlaw1.ValAll", spec := "valAll", unfollowed := true, recurses := true, named := ["internal/strconv.uint64pow10", "math/bits.deBruijn32tab", "math/bits.deBruijn64tab"], apart := false, laid := [("math/bits.deBruijn32tab", laid_math_bits_deBruijn32tab), ("math/bits.deBruijn64tab", laid_math_bits_deBruijn64tab), ("internal/strconv.uint64pow10", laid_internal_strconv_uint64pow10)] }
def ValAllSaid : Prop := valAllRow.holds Tryd.pinned (OpenSpec.ofChange valAllSpec)

/-- ITS FALSE NEIGHBOUR: 'it returns false'. Refute it at one input. -/
def valAllWrong : ChangeSpec := { name := "valAll", fn := fun _ => fun
  | [d1, d2, d3] => { results := [.lit (.bool false)], args := [d1, d2, d3] }
  | _ => none }
def ValAllWrongFalsely : Prop := valAllRow.holds Tryd.pinned (OpenSpec.ofChange valAllWrong)

/-- 'asterismlaw1.ValThree': WHATEVER THE INPUT: true; the input reads as it did. -/
def valThreeSpec : ChangeSpec := { name := "valThree", fn := fun _ => fun
  | [d1, d2, d3] => { results := [.lit (.bool true)], args := [d1, d2, d3] }
  | _ => none }
def valThreeRow : OpenClaim := { program := "ythcekejmeoaelaadoor", sum := "6191a3457aa0ff4a870b70fba5e23721f6aefac58ee0a7ac68f6c6255758008c", func := "asterism/asterismlaw1.ValThree", spec := "valThree", unfollowed := true, recurses := true, named := ["internal/strconv.uint64pow10", "math/bits.deBruijn32tab", "math/bits.deBruijn64tab"], apart := false, laid := [("math/bits.deBruijn32tab", laid_math_bits_deBruijn32tab), ("math/bits.deBruijn64tab", laid_math_bits_deBruijn64tab), ("internal/strconv.uint64pow10", laid_internal_strconv_uint64pow10)] }
def ValThreeSaid : Prop := valThreeRow.holds Tryd.pinned (OpenSpec.ofChange valThreeSpec)

/-- ITS FALSE NEIGHBOUR: 'it returns false'. Refute it at one input. -/
def valThreeWrong : ChangeSpec := { name := "valThree", fn := fun _ => fun
  | [d1, d2, d3] => { results := [.lit (.bool false)], args := [d1, d2, d3] }
  | _ => none }
def ValThreeWrongFalsely : Prop := valThreeRow.holds Tryd.pinned (OpenSpec.ofChange valThreeWrong)

/-- 'asterismlaw1.ValRow': WHATEVER THE INPUT: true; the input reads as it did. -/
def valRowSpec : ChangeSpec := { name := "valRow", fn := fun _ => fun
  | [d1, d2] => { results := [.lit (.bool true)], args := [d1, d2] }
  | _ => none }
def valRowRow : OpenClaim := { program := "ythcekejmeoaelaadoor", sum := "6191a3457aa0ff4a870b70fba5e23721f6aefac58ee0a7ac68f6c6255758008c", func := "asterism/asterismlaw1.ValRow", spec := "valRow", unfollowed := true, recurses := true, named := ["internal/strconv.uint64pow10", "math/bits.deBruijn32tab", "math/bits.deBruijn64tab"], apart := false, laid := [("math/bits.deBruijn32tab", laid_math_bits_deBruijn32tab), ("math/bits.deBruijn64tab", laid_math_bits_deBruijn64tab), ("internal/strconv.uint64pow10", laid_internal_strconv_uint64pow10)] }
def ValRowSaid : Prop := valRowRow.holds Tryd.pinned (OpenSpec.ofChange valRowSpec)

/-- ITS FALSE NEIGHBOUR: 'it returns false'. Refute it at one input. -/
def valRowWrong : ChangeSpec := { name := "valRow", fn := fun _ => fun
  | [d1, d2] => { results := [.lit (.bool false)], args := [d1, d2] }
  | _ => none }
def ValRowWrongFalsely : Prop := valRowRow.holds Tryd.pinned (OpenSpec.ofChange valRowWrong)

/-- 'asterismlaw1.ValTests': WHATEVER THE INPUT: true; the input reads as it did. -/
def valTestsSpec : ChangeSpec := { name := "valTests", fn := fun _ => fun
  | [d1, d2] => { results := [.lit (.bool true)], args := [d1, d2] }
  | _ => none }
def valTestsRow : OpenClaim := { program := "ythcekejmeoaelaadoor", sum := "6191a3457aa0ff4a870b70fba5e23721f6aefac58ee0a7ac68f6c6255758008c", func := "asterism/asterismlaw1.ValTests", spec := "valTests", unfollowed := true, recurses := true, named := ["internal/strconv.uint64pow10", "math/bits.deBruijn32tab", "math/bits.deBruijn64tab"], apart := false, laid := [("math/bits.deBruijn32tab", laid_math_bits_deBruijn32tab), ("math/bits.deBruijn64tab", laid_math_bits_deBruijn64tab), ("internal/strconv.uint64pow10", laid_internal_strconv_uint64pow10)] }
def ValTestsSaid : Prop := valTestsRow.holds Tryd.pinned (OpenSpec.ofChange valTestsSpec)

/-- ITS FALSE NEIGHBOUR: 'it returns false'. Refute it at one input. -/
def valTestsWrong : ChangeSpec := { name := "valTests", fn := fun _ => fun
  | [d1, d2] => { results := [.lit (.bool false)], args := [d1, d2] }
  | _ => none }
def ValTestsWrongFalsely : Prop := valTestsRow.holds Tryd.pinned (OpenSpec.ofChange valTestsWrong)

/-- 'asterismlaw1.ValNames': WHATEVER THE INPUT: true; the input reads as it did. -/
def valNamesSpec : ChangeSpec := { name := "valNames", fn := fun _ => fun
  | [d] => { results := [.lit (.bool true)], args := [d] }
  | _ => none }
def valNamesRow : OpenClaim := { program := "ythcekejmeoaelaadoor", sum := "6191a3457aa0ff4a870b70fba5e23721f6aefac58ee0a7ac68f6c6255758008c", func := "asterism/asterismlaw1.ValNames", spec := "valNames", unfollowed := true, recurses := true, named := ["internal/strconv.uint64pow10", "math/bits.deBruijn32tab", "math/bits.deBruijn64tab"], apart := false, laid := [("math/bits.deBruijn32tab", laid_math_bits_deBruijn32tab), ("math/bits.deBruijn64tab", laid_math_bits_deBruijn64tab), ("internal/strconv.uint64pow10", laid_internal_strconv_uint64pow10)] }
def ValNamesSaid : Prop := valNamesRow.holds Tryd.pinned (OpenSpec.ofChange valNamesSpec)

/-- ITS FALSE NEIGHBOUR: 'it returns false'. Refute it at one input. -/
def valNamesWrong : ChangeSpec := { name := "valNames", fn := fun _ => fun
  | [d] => { results := [.lit (.bool false)], args := [d] }
  | _ => none }
def ValNamesWrongFalsely : Prop := valNamesRow.holds Tryd.pinned (OpenSpec.ofChange valNamesWrong)

/-- 'asterismlaw1.ValWord': WHATEVER THE INPUT: true; the input reads as it did. -/
def valWordSpec : ChangeSpec := { name := "valWord", fn := fun _ => fun
  | [d1, d2] => { results := [.lit (.bool true)], args := [d1, d2] }
  | _ => none }
def valWordRow : OpenClaim := { program := "ythcekejmeoaelaadoor", sum := "6191a3457aa0ff4a870b70fba5e23721f6aefac58ee0a7ac68f6c6255758008c", func := "asterism/asterismlaw1.ValWord", spec := "valWord", unfollowed := true, recurses := true, named := ["internal/strconv.uint64pow10", "math/bits.deBruijn32tab", "math/bits.deBruijn64tab"], apart := false, laid := [("math/bits.deBruijn32tab", laid_math_bits_deBruijn32tab), ("math/bits.deBruijn64tab", laid_math_bits_deBruijn64tab), ("internal/strconv.uint64pow10", laid_internal_strconv_uint64pow10)] }
def ValWordSaid : Prop := valWordRow.holds Tryd.pinned (OpenSpec.ofChange valWordSpec)

/-- ITS FALSE NEIGHBOUR: 'it returns false'. Refute it at one input. -/
def valWordWrong : ChangeSpec := { name := "valWord", fn := fun _ => fun
  | [d1, d2] => { results := [.lit (.bool false)], args := [d1, d2] }
  | _ => none }
def ValWordWrongFalsely : Prop := valWordRow.holds Tryd.pinned (OpenSpec.ofChange valWordWrong)

/-- 'asterismlaw1.ValInts': WHATEVER THE INPUT: true; the input reads as it did. -/
def valIntsSpec : ChangeSpec := { name := "valInts", fn := fun _ => fun
  | [d1, d2, d3, d4] => { results := [.lit (.bool true)], args := [d1, d2, d3, d4] }
  | _ => none }
def valIntsRow : OpenClaim := { program := "ythcekejmeoaelaadoor", sum := "6191a3457aa0ff4a870b70fba5e23721f6aefac58ee0a7ac68f6c6255758008c", func := "asterism/asterismlaw1.ValInts", spec := "valInts", unfollowed := true, recurses := true, named := ["internal/strconv.uint64pow10", "math/bits.deBruijn32tab", "math/bits.deBruijn64tab"], apart := false, laid := [("math/bits.deBruijn32tab", laid_math_bits_deBruijn32tab), ("math/bits.deBruijn64tab", laid_math_bits_deBruijn64tab), ("internal/strconv.uint64pow10", laid_internal_strconv_uint64pow10)] }
def ValIntsSaid : Prop := valIntsRow.holds Tryd.pinned (OpenSpec.ofChange valIntsSpec)

/-- ITS FALSE NEIGHBOUR: 'it returns false'. Refute it at one input. -/
def valIntsWrong : ChangeSpec := { name := "valInts", fn := fun _ => fun
  | [d1, d2, d3, d4] => { results := [.lit (.bool false)], args := [d1, d2, d3, d4] }
  | _ => none }
def ValIntsWrongFalsely : Prop := valIntsRow.holds Tryd.pinned (OpenSpec.ofChange valIntsWrong)

/-- 'asterismlaw1.ValTexts': WHATEVER THE INPUT: true; the input reads as it did. -/
def valTextsSpec : ChangeSpec := { name := "valTexts", fn := fun _ => fun
  | [d1, d2] => { results := [.lit (.bool true)], args := [d1, d2] }
  | _ => none }
def valTextsRow : OpenClaim := { program := "ythcekejmeoaelaadoor", sum := "6191a3457aa0ff4a870b70fba5e23721f6aefac58ee0a7ac68f6c6255758008c", func := "asterism/asterismlaw1.ValTexts", spec := "valTexts", unfollowed := true, recurses := true, named := ["internal/strconv.uint64pow10", "math/bits.deBruijn32tab", "math/bits.deBruijn64tab"], apart := false, laid := [("math/bits.deBruijn32tab", laid_math_bits_deBruijn32tab), ("math/bits.deBruijn64tab", laid_math_bits_deBruijn64tab), ("internal/strconv.uint64pow10", laid_internal_strconv_uint64pow10)] }
def ValTextsSaid : Prop := valTextsRow.holds Tryd.pinned (OpenSpec.ofChange valTextsSpec)

/-- ITS FALSE NEIGHBOUR: 'it returns false'. Refute it at one input. -/
def valTextsWrong : ChangeSpec := { name := "valTexts", fn := fun _ => fun
  | [d1, d2] => { results := [.lit (.bool false)], args := [d1, d2] }
  | _ => none }
def ValTextsWrongFalsely : Prop := valTextsRow.holds Tryd.pinned (OpenSpec.ofChange valTextsWrong)

/- THE SECOND FORM. 'bulk': how many values and letters a reading holds, each counted each time it is reached (what is shared counts as often as it is met; a slice's spare places count too). A statement '..UptoSaid' is the law's where the arguments, and the package variables that the reading takes, are together of bulk at most 1048576: NARROWER than '..Said'. Prove '..Said' where nothing that the law and all that it calls make is longer than what came in: it says more and counts as full. Else prove '..UptoSaid'. A law counts once. -/
mutual
def uptoBulk {H : Type} : DataW H → Nat
  | .lit (.string bytes) => bytes.length + 1
  | .lit _ => 1
  | .nil => 1
  | .ptr d => uptoBulk d + 1
  | .slice elems spare => uptoBulkAll elems + uptoBulkAll spare + 1
  | .agg parts => uptoBulkAll parts + 1
  | .iface _ d => uptoBulk d + 1
  | .map entries => uptoBulkEntries entries + 1
  | .held _ => 1
def uptoBulkAll {H : Type} : List (DataW H) → Nat
  | [] => 0
  | d :: r => uptoBulk d + uptoBulkAll r
def uptoBulkEntries {H : Type} : List (Lit × DataW H) → Nat
  | [] => 0
  | x :: r => uptoBulkEntry x + uptoBulkEntries r
def uptoBulkEntry {H : Type} : Lit × DataW H → Nat
  | (.string bytes, d) => bytes.length + uptoBulk d + 1
  | (_, d) => uptoBulk d + 1
 end
def uptoSmall : (H : Type) → List (DataW H) → Bool := fun _ ds => decide (uptoBulkAll ds ≤ 1048576)
def OpenSpec.upto (s : _root_.Go.ChangeSpec) : _root_.Go.OpenSpec := { _root_.Go.OpenSpec.ofChange s with cond := some uptoSmall }

/-- 'asterismlaw1.ValAll', WHERE WHAT IT READS IS OF BULK AT MOST 1048576: true; the input reads as it did. -/
def valAllUptoRow : OpenClaim := { program := "ythcekejmeoaelaadoor", sum := "6191a3457aa0ff4a870b70fba5e23721f6aefac58ee0a7ac68f6c6255758008c", func := "asterism/asterismlaw1.ValAll", spec := "valAll", unfollowed := true, recurses := true, named := ["internal/strconv.uint64pow10", "math/bits.deBruijn32tab", "math/bits.deBruijn64tab"], apart := false, laid := [("math/bits.deBruijn32tab", laid_math_bits_deBruijn32tab), ("math/bits.deBruijn64tab", laid_math_bits_deBruijn64tab), ("internal/strconv.uint64pow10", laid_internal_strconv_uint64pow10)], narrowed := true }
def ValAllUptoSaid : Prop := valAllUptoRow.holds Tryd.pinned (OpenSpec.upto valAllSpec)

/-- 'asterismlaw1.ValThree', WHERE WHAT IT READS IS OF BULK AT MOST 1048576: true; the input reads as it did. -/
def valThreeUptoRow : OpenClaim := { program := "ythcekejmeoaelaadoor", sum := "6191a3457aa0ff4a870b70fba5e23721f6aefac58ee0a7ac68f6c6255758008c", func := "asterism/asterismlaw1.ValThree", spec := "valThree", unfollowed := true, recurses := true, named := ["internal/strconv.uint64pow10", "math/bits.deBruijn32tab", "math/bits.deBruijn64tab"], apart := false, laid := [("math/bits.deBruijn32tab", laid_math_bits_deBruijn32tab), ("math/bits.deBruijn64tab", laid_math_bits_deBruijn64tab), ("internal/strconv.uint64pow10", laid_internal_strconv_uint64pow10)], narrowed := true }
def ValThreeUptoSaid : Prop := valThreeUptoRow.holds Tryd.pinned (OpenSpec.upto valThreeSpec)

/-- 'asterismlaw1.ValRow', WHERE WHAT IT READS IS OF BULK AT MOST 1048576: true; the input reads as it did. -/
def valRowUptoRow : OpenClaim := { program := "ythcekejmeoaelaadoor", sum := "6191a3457aa0ff4a870b70fba5e23721f6aefac58ee0a7ac68f6c6255758008c", func := "asterism/asterismlaw1.ValRow", spec := "valRow", unfollowed := true, recurses := true, named := ["internal/strconv.uint64pow10", "math/bits.deBruijn32tab", "math/bits.deBruijn64tab"], apart := false, laid := [("math/bits.deBruijn32tab", laid_math_bits_deBruijn32tab), ("math/bits.deBruijn64tab", laid_math_bits_deBruijn64tab), ("internal/strconv.uint64pow10", laid_internal_strconv_uint64pow10)], narrowed := true }
def ValRowUptoSaid : Prop := valRowUptoRow.holds Tryd.pinned (OpenSpec.upto valRowSpec)

/-- 'asterismlaw1.ValTests', WHERE WHAT IT READS IS OF BULK AT MOST 1048576: true; the input reads as it did. -/
def valTestsUptoRow : OpenClaim := { program := "ythcekejmeoaelaadoor", sum := "6191a3457aa0ff4a870b70fba5e23721f6aefac58ee0a7ac68f6c6255758008c", func := "asterism/asterismlaw1.ValTests", spec := "valTests", unfollowed := true, recurses := true, named := ["internal/strconv.uint64pow10", "math/bits.deBruijn32tab", "math/bits.deBruijn64tab"], apart := false, laid := [("math/bits.deBruijn32tab", laid_math_bits_deBruijn32tab), ("math/bits.deBruijn64tab", laid_math_bits_deBruijn64tab), ("internal/strconv.uint64pow10", laid_internal_strconv_uint64pow10)], narrowed := true }
def ValTestsUptoSaid : Prop := valTestsUptoRow.holds Tryd.pinned (OpenSpec.upto valTestsSpec)

/-- 'asterismlaw1.ValNames', WHERE WHAT IT READS IS OF BULK AT MOST 1048576: true; the input reads as it did. -/
def valNamesUptoRow : OpenClaim := { program := "ythcekejmeoaelaadoor", sum := "6191a3457aa0ff4a870b70fba5e23721f6aefac58ee0a7ac68f6c6255758008c", func := "asterism/asterismlaw1.ValNames", spec := "valNames", unfollowed := true, recurses := true, named := ["internal/strconv.uint64pow10", "math/bits.deBruijn32tab", "math/bits.deBruijn64tab"], apart := false, laid := [("math/bits.deBruijn32tab", laid_math_bits_deBruijn32tab), ("math/bits.deBruijn64tab", laid_math_bits_deBruijn64tab), ("internal/strconv.uint64pow10", laid_internal_strconv_uint64pow10)], narrowed := true }
def ValNamesUptoSaid : Prop := valNamesUptoRow.holds Tryd.pinned (OpenSpec.upto valNamesSpec)

/-- 'asterismlaw1.ValWord', WHERE WHAT IT READS IS OF BULK AT MOST 1048576: true; the input reads as it did. -/
def valWordUptoRow : OpenClaim := { program := "ythcekejmeoaelaadoor", sum := "6191a3457aa0ff4a870b70fba5e23721f6aefac58ee0a7ac68f6c6255758008c", func := "asterism/asterismlaw1.ValWord", spec := "valWord", unfollowed := true, recurses := true, named := ["internal/strconv.uint64pow10", "math/bits.deBruijn32tab", "math/bits.deBruijn64tab"], apart := false, laid := [("math/bits.deBruijn32tab", laid_math_bits_deBruijn32tab), ("math/bits.deBruijn64tab", laid_math_bits_deBruijn64tab), ("internal/strconv.uint64pow10", laid_internal_strconv_uint64pow10)], narrowed := true }
def ValWordUptoSaid : Prop := valWordUptoRow.holds Tryd.pinned (OpenSpec.upto valWordSpec)

/-- 'asterismlaw1.ValInts', WHERE WHAT IT READS IS OF BULK AT MOST 1048576: true; the input reads as it did. -/
def valIntsUptoRow : OpenClaim := { program := "ythcekejmeoaelaadoor", sum := "6191a3457aa0ff4a870b70fba5e23721f6aefac58ee0a7ac68f6c6255758008c", func := "asterism/asterismlaw1.ValInts", spec := "valInts", unfollowed := true, recurses := true, named := ["internal/strconv.uint64pow10", "math/bits.deBruijn32tab", "math/bits.deBruijn64tab"], apart := false, laid := [("math/bits.deBruijn32tab", laid_math_bits_deBruijn32tab), ("math/bits.deBruijn64tab", laid_math_bits_deBruijn64tab), ("internal/strconv.uint64pow10", laid_internal_strconv_uint64pow10)], narrowed := true }
def ValIntsUptoSaid : Prop := valIntsUptoRow.holds Tryd.pinned (OpenSpec.upto valIntsSpec)

/-- 'asterismlaw1.ValTexts', WHERE WHAT IT READS IS OF BULK AT MOST 1048576: true; the input reads as it did. -/
def valTextsUptoRow : OpenClaim := { program := "ythcekejmeoaelaadoor", sum := "6191a3457aa0ff4a870b70fba5e23721f6aefac58ee0a7ac68f6c6255758008c", func := "asterism/asterismlaw1.ValTexts", spec := "valTexts", unfollowed := true, recurses := true, named := ["internal/strconv.uint64pow10", "math/bits.deBruijn32tab", "math/bits.deBruijn64tab"], apart := false, laid := [("math/bits.deBruijn32tab", laid_math_bits_deBruijn32tab), ("math/bits.deBruijn64tab", laid_math_bits_deBruijn64tab), ("internal/strconv.uint64pow10", laid_internal_strconv_uint64pow10)], narrowed := true }
def ValTextsUptoSaid : Prop := valTextsUptoRow.holds Tryd.pinned (OpenSpec.upto valTextsSpec)

end Rows
end Go.Proofs.YthcekejmeoaelaaDoor
