/-
  NARROWER THAN 'FOR EVERY INPUT', by the rows' own cells (each row's printed sentence says how): WordsSums: laid · WordsDivides: laid · WordsShifts: laid · WordsProducts: laid · WordsInverses: laid · WordsOwn: laid · WordsBacks: laid · WordsSizes: laid · WordsOrders: laid.
  DERIVED. THE GIVEN ROWS OF THIS SEAT. 9 by the template 'for every input the law returns true; each argument reads behind the call as it read before'; 0 by the template 'total and deterministic' (their statements: YtldefhhfcbmbpaaDoorTotals.lean).
  GIVEN WITH THE SEED: the statements are not yours to turn. If you find one false, say at which input.
  Laid BY PROGRAM, IN A SANDBOX (cutbox-rows.mjs): the forced cells as the released guide's own fill.sh prints them over the translation c885cecab98ee2b3… (all of the seat's roots in one cut). By AI agents, Wed Nov 11 2026. No macro, syntax, notation, axiom, sorry.
-/
import Derived.Test.YtldefhhfcbmbpaaDoorChecked
import GoSem.Claim
import GoSem.ClaimJoined
import GoSem.ClaimMapViews
import Derived.JoinedTies
import Derived.KernelRfl
namespace Go.Proofs.YtldefhhfcbmbpaaDoor
/- THE CELL 'sum', in the pinned program and in every row, IS THE sha256 OF THE DUMP (.gsa) THAT YtldefhhfcbmbpaaDoorProg.lean LOADS. Nothing in Lean hashes anything: it is a label: what it is worth is what the hold of that sum in a sandbox is worth. -/
noncomputable def Tryd.pinned : Pinned := { name := "ytldefhhfcbmbpaadoor", sum := "c885cecab98ee2b34fd175d05e36369af89a02dded39262dcfdc9abe580b299b", checked := Tryd.checked }
namespace Rows
def none {H : Type} : Left H := { results := [], args := [] }

/- WHAT THE LISTED PACKAGE-LEVEL VARIABLES READ AS WHEN THE CALL BEGINS. Each datum BY PROGRAM (the guide's laid-datum.mjs) off the statement by which the dump's own 'gosem.cut.vars' lays the variable. In a bare row this is a premise. The card (YtldefhhfcbmbpaaDoorCards.lean) ties it to the program's text. -/
def laid_reckoner_words_small {H : Type} : DataW H := .agg [.lit (.int .u64 0), .lit (.int .u64 1), .lit (.int .u64 0), .lit (.int .u64 11), .lit (.int .u64 0), .lit (.int .u64 13), .lit (.int .u64 0), .lit (.int .u64 7), .lit (.int .u64 0), .lit (.int .u64 9), .lit (.int .u64 0), .lit (.int .u64 3), .lit (.int .u64 0), .lit (.int .u64 5), .lit (.int .u64 0), .lit (.int .u64 15)]
def laid_math_bits_deBruijn64tab {H : Type} : DataW H := .agg [.lit (.int .u8 0), .lit (.int .u8 1), .lit (.int .u8 56), .lit (.int .u8 2), .lit (.int .u8 57), .lit (.int .u8 49), .lit (.int .u8 28), .lit (.int .u8 3), .lit (.int .u8 61), .lit (.int .u8 58), .lit (.int .u8 42), .lit (.int .u8 50), .lit (.int .u8 38), .lit (.int .u8 29), .lit (.int .u8 17), .lit (.int .u8 4), .lit (.int .u8 62), .lit (.int .u8 47), .lit (.int .u8 59), .lit (.int .u8 36), .lit (.int .u8 45), .lit (.int .u8 43), .lit (.int .u8 51), .lit (.int .u8 22), .lit (.int .u8 53), .lit (.int .u8 39), .lit (.int .u8 33), .lit (.int .u8 30), .lit (.int .u8 24), .lit (.int .u8 18), .lit (.int .u8 12), .lit (.int .u8 5), .lit (.int .u8 63), .lit (.int .u8 55), .lit (.int .u8 48), .lit (.int .u8 27), .lit (.int .u8 60), .lit (.int .u8 41), .lit (.int .u8 37), .lit (.int .u8 16), .lit (.int .u8 46), .lit (.int .u8 35), .lit (.int .u8 44), .lit (.int .u8 21), .lit (.int .u8 52), .lit (.int .u8 32), .lit (.int .u8 23), .lit (.int .u8 11), .lit (.int .u8 54), .lit (.int .u8 26), .lit (.int .u8 40), .lit (.int .u8 15), .lit (.int .u8 34), .lit (.int .u8 20), .lit (.int .u8 31), .lit (.int .u8 10), .lit (.int .u8 25), .lit (.int .u8 14), .lit (.int .u8 19), .lit (.int .u8 9), .lit (.int .u8 13), .lit (.int .u8 8), .lit (.int .u8 7), .lit (.int .u8 6)]

/-- 'reckonerlaw01.WordsSums': WHATEVER THE INPUT: true; the input reads as it did. -/
def wordsSumsSpec : ChangeSpec := { name := "wordsSums", fn := fun _ => fun
  | [d1, d2, d3] => { results := [.lit (.bool true)], args := [d1, d2, d3] }
  | _ => none }
def wordsSumsRow : OpenClaim := { program := "ytldefhhfcbmbpaadoor", sum := "c885cecab98ee2b34fd175d05e36369af89a02dded39262dcfdc9abe580b299b", func := "reckoner/reckonerlaw01.WordsSums", spec := "wordsSums", inPlace := ["math/bits.Add64", "math/bits.Sub64"], unfollowed := true, recurses := true, named := ["math/bits.divideError", "math/bits.overflowError", "reckoner/words.small"], apart := false, laid := [("reckoner/words.small", laid_reckoner_words_small)] }
def WordsSumsSaid : Prop := wordsSumsRow.holds Tryd.pinned (OpenSpec.ofChange wordsSumsSpec)

/-- ITS FALSE NEIGHBOUR: 'it returns false'. Refute it at one input. -/
def wordsSumsWrong : ChangeSpec := { name := "wordsSums", fn := fun _ => fun
  | [d1, d2, d3] => { results := [.lit (.bool false)], args := [d1, d2, d3] }
  | _ => none }
def WordsSumsWrongFalsely : Prop := wordsSumsRow.holds Tryd.pinned (OpenSpec.ofChange wordsSumsWrong)

/-- 'reckonerlaw01.WordsDivides': WHATEVER THE INPUT: true; the input reads as it did. -/
def wordsDividesSpec : ChangeSpec := { name := "wordsDivides", fn := fun _ => fun
  | [d1, d2, d3] => { results := [.lit (.bool true)], args := [d1, d2, d3] }
  | _ => none }
def wordsDividesRow : OpenClaim := { program := "ytldefhhfcbmbpaadoor", sum := "c885cecab98ee2b34fd175d05e36369af89a02dded39262dcfdc9abe580b299b", func := "reckoner/reckonerlaw01.WordsDivides", spec := "wordsDivides", inPlace := ["math/bits.Add64", "math/bits.Sub64"], unfollowed := true, recurses := true, named := ["math/bits.divideError", "math/bits.overflowError", "reckoner/words.small"], apart := false, laid := [("reckoner/words.small", laid_reckoner_words_small)] }
def WordsDividesSaid : Prop := wordsDividesRow.holds Tryd.pinned (OpenSpec.ofChange wordsDividesSpec)

/-- ITS FALSE NEIGHBOUR: 'it returns false'. Refute it at one input. -/
def wordsDividesWrong : ChangeSpec := { name := "wordsDivides", fn := fun _ => fun
  | [d1, d2, d3] => { results := [.lit (.bool false)], args := [d1, d2, d3] }
  | _ => none }
def WordsDividesWrongFalsely : Prop := wordsDividesRow.holds Tryd.pinned (OpenSpec.ofChange wordsDividesWrong)

/-- 'reckonerlaw01.WordsShifts': WHATEVER THE INPUT: true; the input reads as it did. -/
def wordsShiftsSpec : ChangeSpec := { name := "wordsShifts", fn := fun _ => fun
  | [d1, d2] => { results := [.lit (.bool true)], args := [d1, d2] }
  | _ => none }
def wordsShiftsRow : OpenClaim := { program := "ytldefhhfcbmbpaadoor", sum := "c885cecab98ee2b34fd175d05e36369af89a02dded39262dcfdc9abe580b299b", func := "reckoner/reckonerlaw01.WordsShifts", spec := "wordsShifts", inPlace := ["math/bits.Add64", "math/bits.Sub64"], unfollowed := true, recurses := true, named := ["math/bits.divideError", "math/bits.overflowError", "reckoner/words.small"], apart := false, laid := [("reckoner/words.small", laid_reckoner_words_small)] }
def WordsShiftsSaid : Prop := wordsShiftsRow.holds Tryd.pinned (OpenSpec.ofChange wordsShiftsSpec)

/-- ITS FALSE NEIGHBOUR: 'it returns false'. Refute it at one input. -/
def wordsShiftsWrong : ChangeSpec := { name := "wordsShifts", fn := fun _ => fun
  | [d1, d2] => { results := [.lit (.bool false)], args := [d1, d2] }
  | _ => none }
def WordsShiftsWrongFalsely : Prop := wordsShiftsRow.holds Tryd.pinned (OpenSpec.ofChange wordsShiftsWrong)

/-- 'reckonerlaw01.WordsProducts': WHATEVER THE INPUT: true; the input reads as it did. -/
def wordsProductsSpec : ChangeSpec := { name := "wordsProducts", fn := fun _ => fun
  | [d1, d2, d3] => { results := [.lit (.bool true)], args := [d1, d2, d3] }
  | _ => none }
def wordsProductsRow : OpenClaim := { program := "ytldefhhfcbmbpaadoor", sum := "c885cecab98ee2b34fd175d05e36369af89a02dded39262dcfdc9abe580b299b", func := "reckoner/reckonerlaw01.WordsProducts", spec := "wordsProducts", inPlace := ["math/bits.Add64", "math/bits.Sub64"], unfollowed := true, recurses := true, named := ["math/bits.divideError", "math/bits.overflowError", "reckoner/words.small"], apart := false, laid := [("reckoner/words.small", laid_reckoner_words_small)] }
def WordsProductsSaid : Prop := wordsProductsRow.holds Tryd.pinned (OpenSpec.ofChange wordsProductsSpec)

/-- ITS FALSE NEIGHBOUR: 'it returns false'. Refute it at one input. -/
def wordsProductsWrong : ChangeSpec := { name := "wordsProducts", fn := fun _ => fun
  | [d1, d2, d3] => { results := [.lit (.bool false)], args := [d1, d2, d3] }
  | _ => none }
def WordsProductsWrongFalsely : Prop := wordsProductsRow.holds Tryd.pinned (OpenSpec.ofChange wordsProductsWrong)

/-- 'reckonerlaw01.WordsInverses': WHATEVER THE INPUT: true; the input reads as it did. -/
def wordsInversesSpec : ChangeSpec := { name := "wordsInverses", fn := fun _ => fun
  | [d1, d2, d3] => { results := [.lit (.bool true)], args := [d1, d2, d3] }
  | _ => none }
def wordsInversesRow : OpenClaim := { program := "ytldefhhfcbmbpaadoor", sum := "c885cecab98ee2b34fd175d05e36369af89a02dded39262dcfdc9abe580b299b", func := "reckoner/reckonerlaw01.WordsInverses", spec := "wordsInverses", inPlace := ["math/bits.Add64", "math/bits.Sub64"], unfollowed := true, recurses := true, named := ["reckoner/words.small", "math/bits.divideError", "math/bits.overflowError"], apart := false, laid := [("reckoner/words.small", laid_reckoner_words_small)] }
def WordsInversesSaid : Prop := wordsInversesRow.holds Tryd.pinned (OpenSpec.ofChange wordsInversesSpec)

/-- ITS FALSE NEIGHBOUR: 'it returns false'. Refute it at one input. -/
def wordsInversesWrong : ChangeSpec := { name := "wordsInverses", fn := fun _ => fun
  | [d1, d2, d3] => { results := [.lit (.bool false)], args := [d1, d2, d3] }
  | _ => none }
def WordsInversesWrongFalsely : Prop := wordsInversesRow.holds Tryd.pinned (OpenSpec.ofChange wordsInversesWrong)

/-- 'reckonerlaw01.WordsOwn': WHATEVER THE INPUT: true; the input reads as it did. -/
def wordsOwnSpec : ChangeSpec := { name := "wordsOwn", fn := fun _ => fun
  | [d1, d2, d3] => { results := [.lit (.bool true)], args := [d1, d2, d3] }
  | _ => none }
def wordsOwnRow : OpenClaim := { program := "ytldefhhfcbmbpaadoor", sum := "c885cecab98ee2b34fd175d05e36369af89a02dded39262dcfdc9abe580b299b", func := "reckoner/reckonerlaw01.WordsOwn", spec := "wordsOwn", inPlace := ["math/bits.Add64", "math/bits.Sub64"], unfollowed := true, recurses := true, named := ["math/bits.divideError", "math/bits.overflowError", "reckoner/words.small"], apart := false, laid := [("reckoner/words.small", laid_reckoner_words_small)] }
def WordsOwnSaid : Prop := wordsOwnRow.holds Tryd.pinned (OpenSpec.ofChange wordsOwnSpec)

/-- ITS FALSE NEIGHBOUR: 'it returns false'. Refute it at one input. -/
def wordsOwnWrong : ChangeSpec := { name := "wordsOwn", fn := fun _ => fun
  | [d1, d2, d3] => { results := [.lit (.bool false)], args := [d1, d2, d3] }
  | _ => none }
def WordsOwnWrongFalsely : Prop := wordsOwnRow.holds Tryd.pinned (OpenSpec.ofChange wordsOwnWrong)

/-- 'reckonerlaw01.WordsBacks': WHATEVER THE INPUT: true; the input reads as it did. -/
def wordsBacksSpec : ChangeSpec := { name := "wordsBacks", fn := fun _ => fun
  | [d1, d2, d3] => { results := [.lit (.bool true)], args := [d1, d2, d3] }
  | _ => none }
def wordsBacksRow : OpenClaim := { program := "ytldefhhfcbmbpaadoor", sum := "c885cecab98ee2b34fd175d05e36369af89a02dded39262dcfdc9abe580b299b", func := "reckoner/reckonerlaw01.WordsBacks", spec := "wordsBacks", inPlace := ["math/bits.Add64", "math/bits.Sub64"], unfollowed := true, recurses := true, named := ["math/bits.divideError", "math/bits.overflowError", "reckoner/words.small"], apart := false, laid := [("reckoner/words.small", laid_reckoner_words_small)] }
def WordsBacksSaid : Prop := wordsBacksRow.holds Tryd.pinned (OpenSpec.ofChange wordsBacksSpec)

/-- ITS FALSE NEIGHBOUR: 'it returns false'. Refute it at one input. -/
def wordsBacksWrong : ChangeSpec := { name := "wordsBacks", fn := fun _ => fun
  | [d1, d2, d3] => { results := [.lit (.bool false)], args := [d1, d2, d3] }
  | _ => none }
def WordsBacksWrongFalsely : Prop := wordsBacksRow.holds Tryd.pinned (OpenSpec.ofChange wordsBacksWrong)

/-- 'reckonerlaw01.WordsSizes': WHATEVER THE INPUT: true; the input reads as it did. -/
def wordsSizesSpec : ChangeSpec := { name := "wordsSizes", fn := fun _ => fun
  | [d1, d2] => { results := [.lit (.bool true)], args := [d1, d2] }
  | _ => none }
def wordsSizesRow : OpenClaim := { program := "ytldefhhfcbmbpaadoor", sum := "c885cecab98ee2b34fd175d05e36369af89a02dded39262dcfdc9abe580b299b", func := "reckoner/reckonerlaw01.WordsSizes", spec := "wordsSizes", inPlace := ["math/bits.Add64", "math/bits.Sub64"], unfollowed := true, recurses := true, named := ["math/bits.divideError", "math/bits.overflowError", "reckoner/words.small"], apart := false, laid := [("reckoner/words.small", laid_reckoner_words_small)] }
def WordsSizesSaid : Prop := wordsSizesRow.holds Tryd.pinned (OpenSpec.ofChange wordsSizesSpec)

/-- ITS FALSE NEIGHBOUR: 'it returns false'. Refute it at one input. -/
def wordsSizesWrong : ChangeSpec := { name := "wordsSizes", fn := fun _ => fun
  | [d1, d2] => { results := [.lit (.bool false)], args := [d1, d2] }
  | _ => none }
def WordsSizesWrongFalsely : Prop := wordsSizesRow.holds Tryd.pinned (OpenSpec.ofChange wordsSizesWrong)

/-- 'reckonerlaw01.WordsOrders': WHATEVER THE INPUT: true; the input reads as it did. -/
def wordsOrdersSpec : ChangeSpec := { name := "wordsOrders", fn := fun _ => fun
  | [d1, d2, d3] => { results := [.lit (.bool true)], args := [d1, d2, d3] }
  | _ => none }
def wordsOrdersRow : OpenClaim := { program := "ytldefhhfcbmbpaadoor", sum := "c885cecab98ee2b34fd175d05e36369af89a02dded39262dcfdc9abe580b299b", func := "reckoner/reckonerlaw01.WordsOrders", spec := "wordsOrders", inPlace := ["math/bits.Sub64", "math/bits.Add64"], unfollowed := true, recurses := true, named := ["math/bits.deBruijn64tab", "math/bits.divideError", "math/bits.overflowError", "reckoner/words.small"], apart := false, laid := [("math/bits.deBruijn64tab", laid_math_bits_deBruijn64tab), ("reckoner/words.small", laid_reckoner_words_small)] }
def WordsOrdersSaid : Prop := wordsOrdersRow.holds Tryd.pinned (OpenSpec.ofChange wordsOrdersSpec)

/-- ITS FALSE NEIGHBOUR: 'it returns false'. Refute it at one input. -/
def wordsOrdersWrong : ChangeSpec := { name := "wordsOrders", fn := fun _ => fun
  | [d1, d2, d3] => { results := [.lit (.bool false)], args := [d1, d2, d3] }
  | _ => none }
def WordsOrdersWrongFalsely : Prop := wordsOrdersRow.holds Tryd.pinned (OpenSpec.ofChange wordsOrdersWrong)

/- THE SECOND FORM. 'bulk': how many values and letters a reading holds, each counted each time it is reached (what is shared counts as often as it is met; a slice's spare places count too). A statement '..UptoSaid' is the law's where the arguments, and the package variables that the reading takes, are together of bulk at most 1048576: NARROWER than '..Said'. Prove '..Said' where nothing that the law and all that it calls make is longer than what came in: it says more and counts as full. Else prove '..UptoSaid'. A law counts once. -/
mutual
def uptoBulk {H : Type} : DataW H → Nat
  | .lit (.string bytes) => bytes.length + 1
  | .lit _ => 1
  | .nil => 1
  | .ptr d => uptoBulk d + 1
  | .slice elems spare => uptoBulkAll elems + uptoBulkAll spare + 1
  | .agg parts => uptoBulkAll parts + 1
  | .iface _ d => uptoBulk d + 1
  | .map entries => uptoBulkEntries entries + 1
  | .held _ => 1
def uptoBulkAll {H : Type} : List (DataW H) → Nat
  | [] => 0
  | d :: r => uptoBulk d + uptoBulkAll r
def uptoBulkEntries {H : Type} : List (Lit × DataW H) → Nat
  | [] => 0
  | x :: r => uptoBulkEntry x + uptoBulkEntries r
def uptoBulkEntry {H : Type} : Lit × DataW H → Nat
  | (.string bytes, d) => bytes.length + uptoBulk d + 1
  | (_, d) => uptoBulk d + 1
 end
def uptoSmall : (H : Type) → List (DataW H) → Bool := fun _ ds => decide (uptoBulkAll ds ≤ 1048576)
def OpenSpec.upto (s : _root_.Go.ChangeSpec) : _root_.Go.OpenSpec := { _root_.Go.OpenSpec.ofChange s with cond := some uptoSmall }

/-- 'reckonerlaw01.WordsSums', WHERE WHAT IT READS IS OF BULK AT MOST 1048576: true; the input reads as it did. -/
def wordsSumsUptoRow : OpenClaim := { program := "ytldefhhfcbmbpaadoor", sum := "c885cecab98ee2b34fd175d05e36369af89a02dded39262dcfdc9abe580b299b", func := "reckoner/reckonerlaw01.WordsSums", spec := "wordsSums", inPlace := ["math/bits.Add64", "math/bits.Sub64"], unfollowed := true, recurses := true, named := ["math/bits.divideError", "math/bits.overflowError", "reckoner/words.small"], apart := false, laid := [("reckoner/words.small", laid_reckoner_words_small)], narrowed := true }
def WordsSumsUptoSaid : Prop := wordsSumsUptoRow.holds Tryd.pinned (OpenSpec.upto wordsSumsSpec)

/-- 'reckonerlaw01.WordsDivides', WHERE WHAT IT READS IS OF BULK AT MOST 1048576: true; the input reads as it did. -/
def wordsDividesUptoRow : OpenClaim := { program := "ytldefhhfcbmbpaadoor", sum := "c885cecab98ee2b34fd175d05e36369af89a02dded39262dcfdc9abe580b299b", func := "reckoner/reckonerlaw01.WordsDivides", spec := "wordsDivides", inPlace := ["math/bits.Add64", "math/bits.Sub64"], unfollowed := true, recurses := true, named := ["math/bits.divideError", "math/bits.overflowError", "reckoner/words.small"], apart := false, laid := [("reckoner/words.small", laid_reckoner_words_small)], narrowed := true }
def WordsDividesUptoSaid : Prop := wordsDividesUptoRow.holds Tryd.pinned (OpenSpec.upto wordsDividesSpec)

/-- 'reckonerlaw01.WordsShifts', WHERE WHAT IT READS IS OF BULK AT MOST 1048576: true; the input reads as it did. -/
def wordsShiftsUptoRow : OpenClaim := { program := "ytldefhhfcbmbpaadoor", sum := "c885cecab98ee2b34fd175d05e36369af89a02dded39262dcfdc9abe580b299b", func := "reckoner/reckonerlaw01.WordsShifts", spec := "wordsShifts", inPlace := ["math/bits.Add64", "math/bits.Sub64"], unfollowed := true, recurses := true, named := ["math/bits.divideError", "math/bits.overflowError", "reckoner/words.small"], apart := false, laid := [("reckoner/words.small", laid_reckoner_words_small)], narrowed := true }
def WordsShiftsUptoSaid : Prop := wordsShiftsUptoRow.holds Tryd.pinned (OpenSpec.upto wordsShiftsSpec)

/-- 'reckonerlaw01.WordsProducts', WHERE WHAT IT READS IS OF BULK AT MOST 1048576: true; the input reads as it did. -/
def wordsProductsUptoRow : OpenClaim := { program := "ytldefhhfcbmbpaadoor", sum := "c885cecab98ee2b34fd175d05e36369af89a02dded39262dcfdc9abe580b299b", func := "reckoner/reckonerlaw01.WordsProducts", spec := "wordsProducts", inPlace := ["math/bits.Add64", "math/bits.Sub64"], unfollowed := true, recurses := true, named := ["math/bits.divideError", "math/bits.overflowError", "reckoner/words.small"], apart := false, laid := [("reckoner/words.small", laid_reckoner_words_small)], narrowed := true }
def WordsProductsUptoSaid : Prop := wordsProductsUptoRow.holds Tryd.pinned (OpenSpec.upto wordsProductsSpec)

/-- 'reckonerlaw01.WordsInverses', WHERE WHAT IT READS IS OF BULK AT MOST 1048576: true; the input reads as it did. -/
def wordsInversesUptoRow : OpenClaim := { program := "ytldefhhfcbmbpaadoor", sum := "c885cecab98ee2b34fd175d05e36369af89a02dded39262dcfdc9abe580b299b", func := "reckoner/reckonerlaw01.WordsInverses", spec := "wordsInverses", inPlace := ["math/bits.Add64", "math/bits.Sub64"], unfollowed := true, recurses := true, named := ["reckoner/words.small", "math/bits.divideError", "math/bits.overflowError"], apart := false, laid := [("reckoner/words.small", laid_reckoner_words_small)], narrowed := true }
def WordsInversesUptoSaid : Prop := wordsInversesUptoRow.holds Tryd.pinned (OpenSpec.upto wordsInversesSpec)

/-- 'reckonerlaw01.WordsOwn', WHERE WHAT IT READS IS OF BULK AT MOST 1048576: true; the input reads as it did. -/
def wordsOwnUptoRow : OpenClaim := { program := "ytldefhhfcbmbpaadoor", sum := "c885cecab98ee2b34fd175d05e36369af89a02dded39262dcfdc9abe580b299b", func := "reckoner/reckonerlaw01.WordsOwn", spec := "wordsOwn", inPlace := ["math/bits.Add64", "math/bits.Sub64"], unfollowed := true, recurses := true, named := ["math/bits.divideError", "math/bits.overflowError", "reckoner/words.small"], apart := false, laid := [("reckoner/words.small", laid_reckoner_words_small)], narrowed := true }
def WordsOwnUptoSaid : Prop := wordsOwnUptoRow.holds Tryd.pinned (OpenSpec.upto wordsOwnSpec)

/-- 'reckonerlaw01.WordsBacks', WHERE WHAT IT READS IS OF BULK AT MOST 1048576: true; the input reads as it did. -/
def wordsBacksUptoRow : OpenClaim := { program := "ytldefhhfcbmbpaadoor", sum := "c885cecab98ee2b34fd175d05e36369af89a02dded39262dcfdc9abe580b299b", func := "reckoner/reckonerlaw01.WordsBacks", spec := "wordsBacks", inPlace := ["math/bits.Add64", "math/bits.Sub64"], unfollowed := true, recurses := true, named := ["math/bits.divideError", "math/bits.overflowError", "reckoner/words.small"], apart := false, laid := [("reckoner/words.small", laid_reckoner_words_small)], narrowed := true }
def WordsBacksUptoSaid : Prop := wordsBacksUptoRow.holds Tryd.pinned (OpenSpec.upto wordsBacksSpec)

/-- 'reckonerlaw01.WordsSizes', WHERE WHAT IT READS IS OF BULK AT MOST 1048576: true; the input reads as it did. -/
def wordsSizesUptoRow : OpenClaim := { program := "ytldefhhfcbmbpaadoor", sum := "c885cecab98ee2b34fd175d05e36369af89a02dded39262dcfdc9abe580b299b", func := "reckoner/reckonerlaw01.WordsSizes", spec := "wordsSizes", inPlace := ["math/bits.Add64", "math/bits.Sub64"], unfollowed := true, recurses := true, named := ["math/bits.divideError", "math/bits.overflowError", "reckoner/words.small"], apart := false, laid := [("reckoner/words.small", laid_reckoner_words_small)], narrowed := true }
def WordsSizesUptoSaid : Prop := wordsSizesUptoRow.holds Tryd.pinned (OpenSpec.upto wordsSizesSpec)

/-- 'reckonerlaw01.WordsOrders', WHERE WHAT IT READS IS OF BULK AT MOST 1048576: true; the input reads as it did. -/
def wordsOrdersUptoRow : OpenClaim := { program := "ytldefhhfcbmbpaadoor", sum := "c885cecab98ee2b34fd175d05e36369af89a02dded39262dcfdc9abe580b299b", func := "reckoner/reckonerlaw01.WordsOrders", spec := "wordsOrders", inPlace := ["math/bits.Sub64", "math/bits.Add64"], unfollowed := true, recurses := true, named := ["math/bits.deBruijn64tab", "math/bits.divideError", "math/bits.overflowError", "reckoner/words.small"], apart := false, laid := [("math/bits.deBruijn64tab", laid_math_bits_deBruijn64tab), ("reckoner/words.small", laid_reckoner_words_small)], narrowed := true }
def WordsOrdersUptoSaid : Prop := wordsOrdersUptoRow.holds Tryd.pinned (OpenSpec.upto wordsOrdersSpec)

end Rows
end Go.Proofs.YtldefhhfcbmbpaaDoor
