/-
  DERIVED. GIVEN WITH THE SEED: THE CARDS: each row of YtldefhhfcbmbpaaDoorRows.lean that lists a variable, with what it lists TIED to the program's text (the seventh form; the later family's looks); each row that meets fmt, with fmt's text TOLD by the authors' own Lean function (tested against real Go, not proved from fmt's source: count such statements apart). THE CARD IS WHAT COUNTS. Prove the row's statement (the work); the ties are given (YtldefhhfcbmbpaaDoorTie.lean); close each card by the builder's one call (the guide's Derived/Test/ToyasCard.lean, 'card_holds'). Laid BY PROGRAM, IN A SANDBOX (cutbox-door.mjs). By AI agents, Wed Nov 11 2026. No macro, syntax, notation, axiom, sorry.
-/
import Derived.Test.YtldefhhfcbmbpaaDoorRows
import GoSem.ClaimSeven
namespace Go.Proofs.YtldefhhfcbmbpaaDoor
namespace Rows

/-- THE TIED CARD OF 'reckonerlaw01.WordsSums'. -/
def wordsSumsCard : Claim7 := { stood := { row := wordsSumsRow, standIns := [], harness := (true, "2504ff196f4791dceee85039294dceef7a5defc03cfdfb7972b2fd1a548768f6"), looks := false }, kinds := [], alts := [], laidByText := true, laidKinds := [.data], laidTests := true, laidLooks := .later }
def WordsSumsCardSaid : Prop := Claim7.holds Tryd.pinned (.plain (OpenSpec.ofChange wordsSumsSpec)) wordsSumsCard

/-- THE TIED CARD OF 'reckonerlaw01.WordsDivides'. -/
def wordsDividesCard : Claim7 := { stood := { row := wordsDividesRow, standIns := [], harness := (true, "2504ff196f4791dceee85039294dceef7a5defc03cfdfb7972b2fd1a548768f6"), looks := false }, kinds := [], alts := [], laidByText := true, laidKinds := [.data], laidTests := true, laidLooks := .later }
def WordsDividesCardSaid : Prop := Claim7.holds Tryd.pinned (.plain (OpenSpec.ofChange wordsDividesSpec)) wordsDividesCard

/-- THE TIED CARD OF 'reckonerlaw01.WordsShifts'. -/
def wordsShiftsCard : Claim7 := { stood := { row := wordsShiftsRow, standIns := [], harness := (true, "2504ff196f4791dceee85039294dceef7a5defc03cfdfb7972b2fd1a548768f6"), looks := false }, kinds := [], alts := [], laidByText := true, laidKinds := [.data], laidTests := true, laidLooks := .later }
def WordsShiftsCardSaid : Prop := Claim7.holds Tryd.pinned (.plain (OpenSpec.ofChange wordsShiftsSpec)) wordsShiftsCard

/-- THE TIED CARD OF 'reckonerlaw01.WordsProducts'. -/
def wordsProductsCard : Claim7 := { stood := { row := wordsProductsRow, standIns := [], harness := (true, "2504ff196f4791dceee85039294dceef7a5defc03cfdfb7972b2fd1a548768f6"), looks := false }, kinds := [], alts := [], laidByText := true, laidKinds := [.data], laidTests := true, laidLooks := .later }
def WordsProductsCardSaid : Prop := Claim7.holds Tryd.pinned (.plain (OpenSpec.ofChange wordsProductsSpec)) wordsProductsCard

/-- THE TIED CARD OF 'reckonerlaw01.WordsInverses'. -/
def wordsInversesCard : Claim7 := { stood := { row := wordsInversesRow, standIns := [], harness := (true, "2504ff196f4791dceee85039294dceef7a5defc03cfdfb7972b2fd1a548768f6"), looks := false }, kinds := [], alts := [], laidByText := true, laidKinds := [.data], laidTests := true, laidLooks := .later }
def WordsInversesCardSaid : Prop := Claim7.holds Tryd.pinned (.plain (OpenSpec.ofChange wordsInversesSpec)) wordsInversesCard

/-- THE TIED CARD OF 'reckonerlaw01.WordsOwn'. -/
def wordsOwnCard : Claim7 := { stood := { row := wordsOwnRow, standIns := [], harness := (true, "2504ff196f4791dceee85039294dceef7a5defc03cfdfb7972b2fd1a548768f6"), looks := false }, kinds := [], alts := [], laidByText := true, laidKinds := [.data], laidTests := true, laidLooks := .later }
def WordsOwnCardSaid : Prop := Claim7.holds Tryd.pinned (.plain (OpenSpec.ofChange wordsOwnSpec)) wordsOwnCard

/-- THE TIED CARD OF 'reckonerlaw01.WordsBacks'. -/
def wordsBacksCard : Claim7 := { stood := { row := wordsBacksRow, standIns := [], harness := (true, "2504ff196f4791dceee85039294dceef7a5defc03cfdfb7972b2fd1a548768f6"), looks := false }, kinds := [], alts := [], laidByText := true, laidKinds := [.data], laidTests := true, laidLooks := .later }
def WordsBacksCardSaid : Prop := Claim7.holds Tryd.pinned (.plain (OpenSpec.ofChange wordsBacksSpec)) wordsBacksCard

/-- THE TIED CARD OF 'reckonerlaw01.WordsSizes'. -/
def wordsSizesCard : Claim7 := { stood := { row := wordsSizesRow, standIns := [], harness := (true, "2504ff196f4791dceee85039294dceef7a5defc03cfdfb7972b2fd1a548768f6"), looks := false }, kinds := [], alts := [], laidByText := true, laidKinds := [.data], laidTests := true, laidLooks := .later }
def WordsSizesCardSaid : Prop := Claim7.holds Tryd.pinned (.plain (OpenSpec.ofChange wordsSizesSpec)) wordsSizesCard

/-- THE TIED CARD OF 'reckonerlaw01.WordsOrders'. -/
def wordsOrdersCard : Claim7 := { stood := { row := wordsOrdersRow, standIns := [], harness := (true, "2504ff196f4791dceee85039294dceef7a5defc03cfdfb7972b2fd1a548768f6"), looks := false }, kinds := [], alts := [], laidByText := true, laidKinds := [.data, .data], laidTests := true, laidLooks := .later }
def WordsOrdersCardSaid : Prop := Claim7.holds Tryd.pinned (.plain (OpenSpec.ofChange wordsOrdersSpec)) wordsOrdersCard

/-- THE SECOND FORM's CARD OF 'reckonerlaw01.WordsSums'. -/
def wordsSumsUptoCard : Claim7 := { stood := { row := wordsSumsUptoRow, standIns := [], harness := (true, "2504ff196f4791dceee85039294dceef7a5defc03cfdfb7972b2fd1a548768f6"), looks := false }, kinds := [], alts := [], laidByText := true, laidKinds := [.data], laidTests := true, laidLooks := .later }
def WordsSumsUptoCardSaid : Prop := Claim7.holds Tryd.pinned (.plain (OpenSpec.upto wordsSumsSpec)) wordsSumsUptoCard

/-- THE SECOND FORM's CARD OF 'reckonerlaw01.WordsDivides'. -/
def wordsDividesUptoCard : Claim7 := { stood := { row := wordsDividesUptoRow, standIns := [], harness := (true, "2504ff196f4791dceee85039294dceef7a5defc03cfdfb7972b2fd1a548768f6"), looks := false }, kinds := [], alts := [], laidByText := true, laidKinds := [.data], laidTests := true, laidLooks := .later }
def WordsDividesUptoCardSaid : Prop := Claim7.holds Tryd.pinned (.plain (OpenSpec.upto wordsDividesSpec)) wordsDividesUptoCard

/-- THE SECOND FORM's CARD OF 'reckonerlaw01.WordsShifts'. -/
def wordsShiftsUptoCard : Claim7 := { stood := { row := wordsShiftsUptoRow, standIns := [], harness := (true, "2504ff196f4791dceee85039294dceef7a5defc03cfdfb7972b2fd1a548768f6"), looks := false }, kinds := [], alts := [], laidByText := true, laidKinds := [.data], laidTests := true, laidLooks := .later }
def WordsShiftsUptoCardSaid : Prop := Claim7.holds Tryd.pinned (.plain (OpenSpec.upto wordsShiftsSpec)) wordsShiftsUptoCard

/-- THE SECOND FORM's CARD OF 'reckonerlaw01.WordsProducts'. -/
def wordsProductsUptoCard : Claim7 := { stood := { row := wordsProductsUptoRow, standIns := [], harness := (true, "2504ff196f4791dceee85039294dceef7a5defc03cfdfb7972b2fd1a548768f6"), looks := false }, kinds := [], alts := [], laidByText := true, laidKinds := [.data], laidTests := true, laidLooks := .later }
def WordsProductsUptoCardSaid : Prop := Claim7.holds Tryd.pinned (.plain (OpenSpec.upto wordsProductsSpec)) wordsProductsUptoCard

/-- THE SECOND FORM's CARD OF 'reckonerlaw01.WordsInverses'. -/
def wordsInversesUptoCard : Claim7 := { stood := { row := wordsInversesUptoRow, standIns := [], harness := (true, "2504ff196f4791dceee85039294dceef7a5defc03cfdfb7972b2fd1a548768f6"), looks := false }, kinds := [], alts := [], laidByText := true, laidKinds := [.data], laidTests := true, laidLooks := .later }
def WordsInversesUptoCardSaid : Prop := Claim7.holds Tryd.pinned (.plain (OpenSpec.upto wordsInversesSpec)) wordsInversesUptoCard

/-- THE SECOND FORM's CARD OF 'reckonerlaw01.WordsOwn'. -/
def wordsOwnUptoCard : Claim7 := { stood := { row := wordsOwnUptoRow, standIns := [], harness := (true, "2504ff196f4791dceee85039294dceef7a5defc03cfdfb7972b2fd1a548768f6"), looks := false }, kinds := [], alts := [], laidByText := true, laidKinds := [.data], laidTests := true, laidLooks := .later }
def WordsOwnUptoCardSaid : Prop := Claim7.holds Tryd.pinned (.plain (OpenSpec.upto wordsOwnSpec)) wordsOwnUptoCard

/-- THE SECOND FORM's CARD OF 'reckonerlaw01.WordsBacks'. -/
def wordsBacksUptoCard : Claim7 := { stood := { row := wordsBacksUptoRow, standIns := [], harness := (true, "2504ff196f4791dceee85039294dceef7a5defc03cfdfb7972b2fd1a548768f6"), looks := false }, kinds := [], alts := [], laidByText := true, laidKinds := [.data], laidTests := true, laidLooks := .later }
def WordsBacksUptoCardSaid : Prop := Claim7.holds Tryd.pinned (.plain (OpenSpec.upto wordsBacksSpec)) wordsBacksUptoCard

/-- THE SECOND FORM's CARD OF 'reckonerlaw01.WordsSizes'. -/
def wordsSizesUptoCard : Claim7 := { stood := { row := wordsSizesUptoRow, standIns := [], harness := (true, "2504ff196f4791dceee85039294dceef7a5defc03cfdfb7972b2fd1a548768f6"), looks := false }, kinds := [], alts := [], laidByText := true, laidKinds := [.data], laidTests := true, laidLooks := .later }
def WordsSizesUptoCardSaid : Prop := Claim7.holds Tryd.pinned (.plain (OpenSpec.upto wordsSizesSpec)) wordsSizesUptoCard

/-- THE SECOND FORM's CARD OF 'reckonerlaw01.WordsOrders'. -/
def wordsOrdersUptoCard : Claim7 := { stood := { row := wordsOrdersUptoRow, standIns := [], harness := (true, "2504ff196f4791dceee85039294dceef7a5defc03cfdfb7972b2fd1a548768f6"), looks := false }, kinds := [], alts := [], laidByText := true, laidKinds := [.data, .data], laidTests := true, laidLooks := .later }
def WordsOrdersUptoCardSaid : Prop := Claim7.holds Tryd.pinned (.plain (OpenSpec.upto wordsOrdersSpec)) wordsOrdersUptoCard
end Rows
end Go.Proofs.YtldefhhfcbmbpaaDoor
