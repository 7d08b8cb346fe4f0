/-
  DERIVED. GIVEN WITH THE SEED: THE CARDS: each row of YthcekejmeoaelaaDoorRows.lean that lists a variable, with what it lists TIED to the program's text (the seventh form; the later family's looks); each row that meets fmt, with fmt's text TOLD by the authors' own Lean function (tested against real Go, not proved from fmt's source: count such statements apart). THE CARD IS WHAT COUNTS. Prove the row's statement (the work); the ties are given (YthcekejmeoaelaaDoorTie.lean); close each card by the builder's one call (the guide's Derived/Test/ToyasCard.lean, 'card_holds'). Laid BY PROGRAM, IN A SANDBOX (cutbox-door.mjs). By AI agents, Wed Nov 11 2026. No macro, syntax, notation, axiom, sorry.
-/
import Derived.Test.YthcekejmeoaelaaDoorRows
import GoSem.ClaimSeven
namespace Go.Proofs.YthcekejmeoaelaaDoor
namespace Rows

/-- THE TIED CARD OF 'asterismlaw1.ValAll'. -/
def valAllCard : Claim7 := { stood := { row := valAllRow, standIns := [], harness := (true, "851f06c4b858646c37902e61b65870d25814787fe9c79c9f115b5d889ea32b3f"), looks := false }, kinds := [], alts := [], laidByText := true, laidKinds := [.data, .data, .data], laidTests := true, laidLooks := .later }
def ValAllCardSaid : Prop := Claim7.holds Tryd.pinned (.plain (OpenSpec.ofChange valAllSpec)) valAllCard

/-- THE TIED CARD OF 'asterismlaw1.ValThree'. -/
def valThreeCard : Claim7 := { stood := { row := valThreeRow, standIns := [], harness := (true, "851f06c4b858646c37902e61b65870d25814787fe9c79c9f115b5d889ea32b3f"), looks := false }, kinds := [], alts := [], laidByText := true, laidKinds := [.data, .data, .data], laidTests := true, laidLooks := .later }
def ValThreeCardSaid : Prop := Claim7.holds Tryd.pinned (.plain (OpenSpec.ofChange valThreeSpec)) valThreeCard

/-- THE TIED CARD OF 'asterismlaw1.ValRow'. -/
def valRowCard : Claim7 := { stood := { row := valRowRow, standIns := [], harness := (true, "851f06c4b858646c37902e61b65870d25814787fe9c79c9f115b5d889ea32b3f"), looks := false }, kinds := [], alts := [], laidByText := true, laidKinds := [.data, .data, .data], laidTests := true, laidLooks := .later }
def ValRowCardSaid : Prop := Claim7.holds Tryd.pinned (.plain (OpenSpec.ofChange valRowSpec)) valRowCard

/-- THE TIED CARD OF 'asterismlaw1.ValTests'. -/
def valTestsCard : Claim7 := { stood := { row := valTestsRow, standIns := [], harness := (true, "851f06c4b858646c37902e61b65870d25814787fe9c79c9f115b5d889ea32b3f"), looks := false }, kinds := [], alts := [], laidByText := true, laidKinds := [.data, .data, .data], laidTests := true, laidLooks := .later }
def ValTestsCardSaid : Prop := Claim7.holds Tryd.pinned (.plain (OpenSpec.ofChange valTestsSpec)) valTestsCard

/-- THE TIED CARD OF 'asterismlaw1.ValNames'. -/
def valNamesCard : Claim7 := { stood := { row := valNamesRow, standIns := [], harness := (true, "851f06c4b858646c37902e61b65870d25814787fe9c79c9f115b5d889ea32b3f"), looks := false }, kinds := [], alts := [], laidByText := true, laidKinds := [.data, .data, .data], laidTests := true, laidLooks := .later }
def ValNamesCardSaid : Prop := Claim7.holds Tryd.pinned (.plain (OpenSpec.ofChange valNamesSpec)) valNamesCard

/-- THE TIED CARD OF 'asterismlaw1.ValWord'. -/
def valWordCard : Claim7 := { stood := { row := valWordRow, standIns := [], harness := (true, "851f06c4b858646c37902e61b65870d25814787fe9c79c9f115b5d889ea32b3f"), looks := false }, kinds := [], alts := [], laidByText := true, laidKinds := [.data, .data, .data], laidTests := true, laidLooks := .later }
def ValWordCardSaid : Prop := Claim7.holds Tryd.pinned (.plain (OpenSpec.ofChange valWordSpec)) valWordCard

/-- THE TIED CARD OF 'asterismlaw1.ValInts'. -/
def valIntsCard : Claim7 := { stood := { row := valIntsRow, standIns := [], harness := (true, "851f06c4b858646c37902e61b65870d25814787fe9c79c9f115b5d889ea32b3f"), looks := false }, kinds := [], alts := [], laidByText := true, laidKinds := [.data, .data, .data], laidTests := true, laidLooks := .later }
def ValIntsCardSaid : Prop := Claim7.holds Tryd.pinned (.plain (OpenSpec.ofChange valIntsSpec)) valIntsCard

/-- THE TIED CARD OF 'asterismlaw1.ValTexts'. -/
def valTextsCard : Claim7 := { stood := { row := valTextsRow, standIns := [], harness := (true, "851f06c4b858646c37902e61b65870d25814787fe9c79c9f115b5d889ea32b3f"), looks := false }, kinds := [], alts := [], laidByText := true, laidKinds := [.data, .data, .data], laidTests := true, laidLooks := .later }
def ValTextsCardSaid : Prop := Claim7.holds Tryd.pinned (.plain (OpenSpec.ofChange valTextsSpec)) valTextsCard

/-- THE SECOND FORM's CARD OF 'asterismlaw1.ValAll'. -/
def valAllUptoCard : Claim7 := { stood := { row := valAllUptoRow, standIns := [], harness := (true, "851f06c4b858646c37902e61b65870d25814787fe9c79c9f115b5d889ea32b3f"), looks := false }, kinds := [], alts := [], laidByText := true, laidKinds := [.data, .data, .data], laidTests := true, laidLooks := .later }
def ValAllUptoCardSaid : Prop := Claim7.holds Tryd.pinned (.plain (OpenSpec.upto valAllSpec)) valAllUptoCard

/-- THE SECOND FORM's CARD OF 'asterismlaw1.ValThree'. -/
def valThreeUptoCard : Claim7 := { stood := { row := valThreeUptoRow, standIns := [], harness := (true, "851f06c4b858646c37902e61b65870d25814787fe9c79c9f115b5d889ea32b3f"), looks := false }, kinds := [], alts := [], laidByText := true, laidKinds := [.data, .data, .data], laidTests := true, laidLooks := .later }
def ValThreeUptoCardSaid : Prop := Claim7.holds Tryd.pinned (.plain (OpenSpec.upto valThreeSpec)) valThreeUptoCard

/-- THE SECOND FORM's CARD OF 'asterismlaw1.ValRow'. -/
def valRowUptoCard : Claim7 := { stood := { row := valRowUptoRow, standIns := [], harness := (true, "851f06c4b858646c37902e61b65870d25814787fe9c79c9f115b5d889ea32b3f"), looks := false }, kinds := [], alts := [], laidByText := true, laidKinds := [.data, .data, .data], laidTests := true, laidLooks := .later }
def ValRowUptoCardSaid : Prop := Claim7.holds Tryd.pinned (.plain (OpenSpec.upto valRowSpec)) valRowUptoCard

/-- THE SECOND FORM's CARD OF 'asterismlaw1.ValTests'. -/
def valTestsUptoCard : Claim7 := { stood := { row := valTestsUptoRow, standIns := [], harness := (true, "851f06c4b858646c37902e61b65870d25814787fe9c79c9f115b5d889ea32b3f"), looks := false }, kinds := [], alts := [], laidByText := true, laidKinds := [.data, .data, .data], laidTests := true, laidLooks := .later }
def ValTestsUptoCardSaid : Prop := Claim7.holds Tryd.pinned (.plain (OpenSpec.upto valTestsSpec)) valTestsUptoCard

/-- THE SECOND FORM's CARD OF 'asterismlaw1.ValNames'. -/
def valNamesUptoCard : Claim7 := { stood := { row := valNamesUptoRow, standIns := [], harness := (true, "851f06c4b858646c37902e61b65870d25814787fe9c79c9f115b5d889ea32b3f"), looks := false }, kinds := [], alts := [], laidByText := true, laidKinds := [.data, .data, .data], laidTests := true, laidLooks := .later }
def ValNamesUptoCardSaid : Prop := Claim7.holds Tryd.pinned (.plain (OpenSpec.upto valNamesSpec)) valNamesUptoCard

/-- THE SECOND FORM's CARD OF 'asterismlaw1.ValWord'. -/
def valWordUptoCard : Claim7 := { stood := { row := valWordUptoRow, standIns := [], harness := (true, "851f06c4b858646c37902e61b65870d25814787fe9c79c9f115b5d889ea32b3f"), looks := false }, kinds := [], alts := [], laidByText := true, laidKinds := [.data, .data, .data], laidTests := true, laidLooks := .later }
def ValWordUptoCardSaid : Prop := Claim7.holds Tryd.pinned (.plain (OpenSpec.upto valWordSpec)) valWordUptoCard

/-- THE SECOND FORM's CARD OF 'asterismlaw1.ValInts'. -/
def valIntsUptoCard : Claim7 := { stood := { row := valIntsUptoRow, standIns := [], harness := (true, "851f06c4b858646c37902e61b65870d25814787fe9c79c9f115b5d889ea32b3f"), looks := false }, kinds := [], alts := [], laidByText := true, laidKinds := [.data, .data, .data], laidTests := true, laidLooks := .later }
def ValIntsUptoCardSaid : Prop := Claim7.holds Tryd.pinned (.plain (OpenSpec.upto valIntsSpec)) valIntsUptoCard

/-- THE SECOND FORM's CARD OF 'asterismlaw1.ValTexts'. -/
def valTextsUptoCard : Claim7 := { stood := { row := valTextsUptoRow, standIns := [], harness := (true, "851f06c4b858646c37902e61b65870d25814787fe9c79c9f115b5d889ea32b3f"), looks := false }, kinds := [], alts := [], laidByText := true, laidKinds := [.data, .data, .data], laidTests := true, laidLooks := .later }
def ValTextsUptoCardSaid : Prop := Claim7.holds Tryd.pinned (.plain (OpenSpec.upto valTextsSpec)) valTextsUptoCard
end Rows
end Go.Proofs.YthcekejmeoaelaaDoor
