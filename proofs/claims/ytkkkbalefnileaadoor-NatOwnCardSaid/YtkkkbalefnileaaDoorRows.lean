/-
  NARROWER THAN 'FOR EVERY INPUT', by the rows' own cells (each row's printed sentence says how): NatBits: laid · NatValues: laid · NatOwn: laid · NatPowersOfTwo: laid · NatSizes: laid.
  DERIVED. THE GIVEN ROWS OF THIS SEAT. 5 by the template 'for every input the law returns true; each argument reads behind the call as it read before'; 0 by the template 'total and deterministic' (their statements: YtkkkbalefnileaaDoorTotals.lean).
  GIVEN WITH THE SEED: the statements are not yours to turn. If you find one false, say at which input.
  Laid BY PROGRAM, IN A SANDBOX (cutbox-rows.mjs): the forced cells as the released guide's own fill.sh prints them over the translation 401e66001bbaaad7… (all of the seat's roots in one cut). By AI agents, Wed Nov 11 2026. No macro, syntax, notation, axiom, sorry.
-/
import Derived.Test.YtkkkbalefnileaaDoorChecked
import GoSem.Claim
import GoSem.ClaimJoined
import GoSem.ClaimMapViews
import Derived.JoinedTies
import Derived.KernelRfl
namespace Go.Proofs.YtkkkbalefnileaaDoor
/- THE CELL 'sum', in the pinned program and in every row, IS THE sha256 OF THE DUMP (.gsa) THAT YtkkkbalefnileaaDoorProg.lean LOADS. Nothing in Lean hashes anything: it is a label: what it is worth is what the hold of that sum in a sandbox is worth. -/
noncomputable def Tryd.pinned : Pinned := { name := "ytkkkbalefnileaadoor", sum := "401e66001bbaaad72df90cc2c7583dc8ccd3f2ae7a03a2e3b0e756f84b379c56", checked := Tryd.checked }
namespace Rows
def none {H : Type} : Left H := { results := [], args := [] }

/- WHAT THE LISTED PACKAGE-LEVEL VARIABLES READ AS WHEN THE CALL BEGINS. Each datum BY PROGRAM (the guide's laid-datum.mjs) off the statement by which the dump's own 'gosem.cut.vars' lays the variable. In a bare row this is a premise. The card (YtkkkbalefnileaaDoorCards.lean) ties it to the program's text. -/
def laid_reckoner_nat_joins {H : Type} : DataW H := .iface "func table" (.map [(.string [97, 110, 100], .iface "func" (.lit (.string [114, 101, 99, 107, 111, 110, 101, 114, 47, 110, 97, 116, 46, 106, 111, 105, 110, 115, 36, 49]))), (.string [111, 114], .iface "func" (.lit (.string [114, 101, 99, 107, 111, 110, 101, 114, 47, 110, 97, 116, 46, 106, 111, 105, 110, 115, 36, 50]))), (.string [120, 111, 114], .iface "func" (.lit (.string [114, 101, 99, 107, 111, 110, 101, 114, 47, 110, 97, 116, 46, 106, 111, 105, 110, 115, 36, 51])))])
def laid_math_bits_deBruijn64tab {H : Type} : DataW H := .agg [.lit (.int .u8 0), .lit (.int .u8 1), .lit (.int .u8 56), .lit (.int .u8 2), .lit (.int .u8 57), .lit (.int .u8 49), .lit (.int .u8 28), .lit (.int .u8 3), .lit (.int .u8 61), .lit (.int .u8 58), .lit (.int .u8 42), .lit (.int .u8 50), .lit (.int .u8 38), .lit (.int .u8 29), .lit (.int .u8 17), .lit (.int .u8 4), .lit (.int .u8 62), .lit (.int .u8 47), .lit (.int .u8 59), .lit (.int .u8 36), .lit (.int .u8 45), .lit (.int .u8 43), .lit (.int .u8 51), .lit (.int .u8 22), .lit (.int .u8 53), .lit (.int .u8 39), .lit (.int .u8 33), .lit (.int .u8 30), .lit (.int .u8 24), .lit (.int .u8 18), .lit (.int .u8 12), .lit (.int .u8 5), .lit (.int .u8 63), .lit (.int .u8 55), .lit (.int .u8 48), .lit (.int .u8 27), .lit (.int .u8 60), .lit (.int .u8 41), .lit (.int .u8 37), .lit (.int .u8 16), .lit (.int .u8 46), .lit (.int .u8 35), .lit (.int .u8 44), .lit (.int .u8 21), .lit (.int .u8 52), .lit (.int .u8 32), .lit (.int .u8 23), .lit (.int .u8 11), .lit (.int .u8 54), .lit (.int .u8 26), .lit (.int .u8 40), .lit (.int .u8 15), .lit (.int .u8 34), .lit (.int .u8 20), .lit (.int .u8 31), .lit (.int .u8 10), .lit (.int .u8 25), .lit (.int .u8 14), .lit (.int .u8 19), .lit (.int .u8 9), .lit (.int .u8 13), .lit (.int .u8 8), .lit (.int .u8 7), .lit (.int .u8 6)]

/-- 'reckonerlaw02.NatBits': WHATEVER THE INPUT: true; the input reads as it did. -/
def natBitsSpec : ChangeSpec := { name := "natBits", fn := fun _ => fun
  | [d1, d2, d3] => { results := [.lit (.bool true)], args := [d1, d2, d3] }
  | _ => none }
def natBitsRow : OpenClaim := { program := "ytkkkbalefnileaadoor", sum := "401e66001bbaaad72df90cc2c7583dc8ccd3f2ae7a03a2e3b0e756f84b379c56", func := "reckoner/reckonerlaw02.NatBits", spec := "natBits", inPlace := ["math/bits.Add64", "math/bits.Sub64"], unfollowed := true, recurses := true, named := ["reckoner/nat.joins", "math/bits.divideError", "math/bits.overflowError"], apart := false, laid := [("reckoner/nat.joins", laid_reckoner_nat_joins)] }
def NatBitsSaid : Prop := natBitsRow.holds Tryd.pinned (OpenSpec.ofChange natBitsSpec)

/-- ITS FALSE NEIGHBOUR: 'it returns false'. Refute it at one input. -/
def natBitsWrong : ChangeSpec := { name := "natBits", fn := fun _ => fun
  | [d1, d2, d3] => { results := [.lit (.bool false)], args := [d1, d2, d3] }
  | _ => none }
def NatBitsWrongFalsely : Prop := natBitsRow.holds Tryd.pinned (OpenSpec.ofChange natBitsWrong)

/-- 'reckonerlaw02.NatValues': WHATEVER THE INPUT: true; the input reads as it did. -/
def natValuesSpec : ChangeSpec := { name := "natValues", fn := fun _ => fun
  | [d1, d2, d3] => { results := [.lit (.bool true)], args := [d1, d2, d3] }
  | _ => none }
def natValuesRow : OpenClaim := { program := "ytkkkbalefnileaadoor", sum := "401e66001bbaaad72df90cc2c7583dc8ccd3f2ae7a03a2e3b0e756f84b379c56", func := "reckoner/reckonerlaw02.NatValues", spec := "natValues", inPlace := ["math/bits.Add64", "math/bits.Sub64"], unfollowed := true, recurses := true, named := ["math/bits.deBruijn64tab", "math/bits.divideError", "math/bits.overflowError"], apart := false, laid := [("math/bits.deBruijn64tab", laid_math_bits_deBruijn64tab)] }
def NatValuesSaid : Prop := natValuesRow.holds Tryd.pinned (OpenSpec.ofChange natValuesSpec)

/-- ITS FALSE NEIGHBOUR: 'it returns false'. Refute it at one input. -/
def natValuesWrong : ChangeSpec := { name := "natValues", fn := fun _ => fun
  | [d1, d2, d3] => { results := [.lit (.bool false)], args := [d1, d2, d3] }
  | _ => none }
def NatValuesWrongFalsely : Prop := natValuesRow.holds Tryd.pinned (OpenSpec.ofChange natValuesWrong)

/-- 'reckonerlaw02.NatOwn': WHATEVER THE INPUT: true; the input reads as it did. -/
def natOwnSpec : ChangeSpec := { name := "natOwn", fn := fun _ => fun
  | [d1, d2] => { results := [.lit (.bool true)], args := [d1, d2] }
  | _ => none }
def natOwnRow : OpenClaim := { program := "ytkkkbalefnileaadoor", sum := "401e66001bbaaad72df90cc2c7583dc8ccd3f2ae7a03a2e3b0e756f84b379c56", func := "reckoner/reckonerlaw02.NatOwn", spec := "natOwn", inPlace := ["math/bits.Add64", "math/bits.Sub64"], unfollowed := true, recurses := true, named := ["math/bits.divideError", "math/bits.overflowError", "reckoner/nat.joins"], apart := false, laid := [("reckoner/nat.joins", laid_reckoner_nat_joins)] }
def NatOwnSaid : Prop := natOwnRow.holds Tryd.pinned (OpenSpec.ofChange natOwnSpec)

/-- ITS FALSE NEIGHBOUR: 'it returns false'. Refute it at one input. -/
def natOwnWrong : ChangeSpec := { name := "natOwn", fn := fun _ => fun
  | [d1, d2] => { results := [.lit (.bool false)], args := [d1, d2] }
  | _ => none }
def NatOwnWrongFalsely : Prop := natOwnRow.holds Tryd.pinned (OpenSpec.ofChange natOwnWrong)

/-- 'reckonerlaw02.NatPowersOfTwo': WHATEVER THE INPUT: true; the input reads as it did. -/
def natPowersOfTwoSpec : ChangeSpec := { name := "natPowersOfTwo", fn := fun _ => fun
  | [d1, d2, d3] => { results := [.lit (.bool true)], args := [d1, d2, d3] }
  | _ => none }
def natPowersOfTwoRow : OpenClaim := { program := "ytkkkbalefnileaadoor", sum := "401e66001bbaaad72df90cc2c7583dc8ccd3f2ae7a03a2e3b0e756f84b379c56", func := "reckoner/reckonerlaw02.NatPowersOfTwo", spec := "natPowersOfTwo", inPlace := ["math/bits.Add64", "math/bits.Sub64"], unfollowed := true, recurses := true, named := ["math/bits.divideError", "math/bits.overflowError", "reckoner/nat.joins"], apart := false, laid := [("reckoner/nat.joins", laid_reckoner_nat_joins)] }
def NatPowersOfTwoSaid : Prop := natPowersOfTwoRow.holds Tryd.pinned (OpenSpec.ofChange natPowersOfTwoSpec)

/-- ITS FALSE NEIGHBOUR: 'it returns false'. Refute it at one input. -/
def natPowersOfTwoWrong : ChangeSpec := { name := "natPowersOfTwo", fn := fun _ => fun
  | [d1, d2, d3] => { results := [.lit (.bool false)], args := [d1, d2, d3] }
  | _ => none }
def NatPowersOfTwoWrongFalsely : Prop := natPowersOfTwoRow.holds Tryd.pinned (OpenSpec.ofChange natPowersOfTwoWrong)

/-- 'reckonerlaw02.NatSizes': WHATEVER THE INPUT: true; the input reads as it did. -/
def natSizesSpec : ChangeSpec := { name := "natSizes", fn := fun _ => fun
  | [d1, d2] => { results := [.lit (.bool true)], args := [d1, d2] }
  | _ => none }
def natSizesRow : OpenClaim := { program := "ytkkkbalefnileaadoor", sum := "401e66001bbaaad72df90cc2c7583dc8ccd3f2ae7a03a2e3b0e756f84b379c56", func := "reckoner/reckonerlaw02.NatSizes", spec := "natSizes", inPlace := ["math/bits.Add64", "math/bits.Sub64"], unfollowed := true, recurses := true, named := ["math/bits.divideError", "math/bits.overflowError", "reckoner/nat.joins"], apart := false, laid := [("reckoner/nat.joins", laid_reckoner_nat_joins)] }
def NatSizesSaid : Prop := natSizesRow.holds Tryd.pinned (OpenSpec.ofChange natSizesSpec)

/-- ITS FALSE NEIGHBOUR: 'it returns false'. Refute it at one input. -/
def natSizesWrong : ChangeSpec := { name := "natSizes", fn := fun _ => fun
  | [d1, d2] => { results := [.lit (.bool false)], args := [d1, d2] }
  | _ => none }
def NatSizesWrongFalsely : Prop := natSizesRow.holds Tryd.pinned (OpenSpec.ofChange natSizesWrong)

/- THE SECOND FORM. 'bulk': how many values and letters a reading holds, each counted each time it is reached (what is shared counts as often as it is met; a slice's spare places count too). A statement '..UptoSaid' is the law's where the arguments, and the package variables that the reading takes, are together of bulk at most 1048576: NARROWER than '..Said'. Prove '..Said' where nothing that the law and all that it calls make is longer than what came in: it says more and counts as full. Else prove '..UptoSaid'. A law counts once. -/
mutual
def uptoBulk {H : Type} : DataW H → Nat
  | .lit (.string bytes) => bytes.length + 1
  | .lit _ => 1
  | .nil => 1
  | .ptr d => uptoBulk d + 1
  | .slice elems spare => uptoBulkAll elems + uptoBulkAll spare + 1
  | .agg parts => uptoBulkAll parts + 1
  | .iface _ d => uptoBulk d + 1
  | .map entries => uptoBulkEntries entries + 1
  | .held _ => 1
def uptoBulkAll {H : Type} : List (DataW H) → Nat
  | [] => 0
  | d :: r => uptoBulk d + uptoBulkAll r
def uptoBulkEntries {H : Type} : List (Lit × DataW H) → Nat
  | [] => 0
  | x :: r => uptoBulkEntry x + uptoBulkEntries r
def uptoBulkEntry {H : Type} : Lit × DataW H → Nat
  | (.string bytes, d) => bytes.length + uptoBulk d + 1
  | (_, d) => uptoBulk d + 1
 end
def uptoSmall : (H : Type) → List (DataW H) → Bool := fun _ ds => decide (uptoBulkAll ds ≤ 1048576)
def OpenSpec.upto (s : _root_.Go.ChangeSpec) : _root_.Go.OpenSpec := { _root_.Go.OpenSpec.ofChange s with cond := some uptoSmall }

/-- 'reckonerlaw02.NatBits', WHERE WHAT IT READS IS OF BULK AT MOST 1048576: true; the input reads as it did. -/
def natBitsUptoRow : OpenClaim := { program := "ytkkkbalefnileaadoor", sum := "401e66001bbaaad72df90cc2c7583dc8ccd3f2ae7a03a2e3b0e756f84b379c56", func := "reckoner/reckonerlaw02.NatBits", spec := "natBits", inPlace := ["math/bits.Add64", "math/bits.Sub64"], unfollowed := true, recurses := true, named := ["reckoner/nat.joins", "math/bits.divideError", "math/bits.overflowError"], apart := false, laid := [("reckoner/nat.joins", laid_reckoner_nat_joins)], narrowed := true }
def NatBitsUptoSaid : Prop := natBitsUptoRow.holds Tryd.pinned (OpenSpec.upto natBitsSpec)

/-- 'reckonerlaw02.NatValues', WHERE WHAT IT READS IS OF BULK AT MOST 1048576: true; the input reads as it did. -/
def natValuesUptoRow : OpenClaim := { program := "ytkkkbalefnileaadoor", sum := "401e66001bbaaad72df90cc2c7583dc8ccd3f2ae7a03a2e3b0e756f84b379c56", func := "reckoner/reckonerlaw02.NatValues", spec := "natValues", inPlace := ["math/bits.Add64", "math/bits.Sub64"], unfollowed := true, recurses := true, named := ["math/bits.deBruijn64tab", "math/bits.divideError", "math/bits.overflowError"], apart := false, laid := [("math/bits.deBruijn64tab", laid_math_bits_deBruijn64tab)], narrowed := true }
def NatValuesUptoSaid : Prop := natValuesUptoRow.holds Tryd.pinned (OpenSpec.upto natValuesSpec)

/-- 'reckonerlaw02.NatOwn', WHERE WHAT IT READS IS OF BULK AT MOST 1048576: true; the input reads as it did. -/
def natOwnUptoRow : OpenClaim := { program := "ytkkkbalefnileaadoor", sum := "401e66001bbaaad72df90cc2c7583dc8ccd3f2ae7a03a2e3b0e756f84b379c56", func := "reckoner/reckonerlaw02.NatOwn", spec := "natOwn", inPlace := ["math/bits.Add64", "math/bits.Sub64"], unfollowed := true, recurses := true, named := ["math/bits.divideError", "math/bits.overflowError", "reckoner/nat.joins"], apart := false, laid := [("reckoner/nat.joins", laid_reckoner_nat_joins)], narrowed := true }
def NatOwnUptoSaid : Prop := natOwnUptoRow.holds Tryd.pinned (OpenSpec.upto natOwnSpec)

/-- 'reckonerlaw02.NatPowersOfTwo', WHERE WHAT IT READS IS OF BULK AT MOST 1048576: true; the input reads as it did. -/
def natPowersOfTwoUptoRow : OpenClaim := { program := "ytkkkbalefnileaadoor", sum := "401e66001bbaaad72df90cc2c7583dc8ccd3f2ae7a03a2e3b0e756f84b379c56", func := "reckoner/reckonerlaw02.NatPowersOfTwo", spec := "natPowersOfTwo", inPlace := ["math/bits.Add64", "math/bits.Sub64"], unfollowed := true, recurses := true, named := ["math/bits.divideError", "math/bits.overflowError", "reckoner/nat.joins"], apart := false, laid := [("reckoner/nat.joins", laid_reckoner_nat_joins)], narrowed := true }
def NatPowersOfTwoUptoSaid : Prop := natPowersOfTwoUptoRow.holds Tryd.pinned (OpenSpec.upto natPowersOfTwoSpec)

/-- 'reckonerlaw02.NatSizes', WHERE WHAT IT READS IS OF BULK AT MOST 1048576: true; the input reads as it did. -/
def natSizesUptoRow : OpenClaim := { program := "ytkkkbalefnileaadoor", sum := "401e66001bbaaad72df90cc2c7583dc8ccd3f2ae7a03a2e3b0e756f84b379c56", func := "reckoner/reckonerlaw02.NatSizes", spec := "natSizes", inPlace := ["math/bits.Add64", "math/bits.Sub64"], unfollowed := true, recurses := true, named := ["math/bits.divideError", "math/bits.overflowError", "reckoner/nat.joins"], apart := false, laid := [("reckoner/nat.joins", laid_reckoner_nat_joins)], narrowed := true }
def NatSizesUptoSaid : Prop := natSizesUptoRow.holds Tryd.pinned (OpenSpec.upto natSizesSpec)

end Rows
end Go.Proofs.YtkkkbalefnileaaDoor
