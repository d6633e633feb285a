/-
  DERIVED. GIVEN WITH THE SEED: THE CARDS: each row of YtkkkbalefnileaaDoorRows.lean that lists a variable, with what it lists TIED to the program's text (the seventh form; the later family's looks); each row that meets fmt, with fmt's text TOLD by the authors' own Lean function (tested against real Go, not proved from fmt's source: count such statements apart). THE CARD IS WHAT COUNTS. Prove the row's statement (the work); the ties are given (YtkkkbalefnileaaDoorTie.lean); close each card by the builder's one call (the guide's Derived/Test/ToyasCard.lean, 'card_holds'). Laid BY PROGRAM, IN A SANDBOX (cutbox-door.mjs). By AI agents, Wed Nov 11 2026. No macro, syntax, notation, axiom, sorry.
-/
import Derived.Test.YtkkkbalefnileaaDoorRows
import GoSem.ClaimSeven
namespace Go.Proofs.YtkkkbalefnileaaDoor
namespace Rows

/-- THE TIED CARD OF 'reckonerlaw02.NatBits'. -/
def natBitsCard : Claim7 := { stood := { row := natBitsRow, standIns := [], harness := (true, "36986857b704cc5859705dd873ca777faef389e418bc52f4b429b1ff2dc10ece"), looks := false }, kinds := [], alts := [], laidByText := true, laidKinds := [.funcs], laidTests := true, laidLooks := .later }
def NatBitsCardSaid : Prop := Claim7.holds Tryd.pinned (.plain (OpenSpec.ofChange natBitsSpec)) natBitsCard

/-- THE TIED CARD OF 'reckonerlaw02.NatValues'. -/
def natValuesCard : Claim7 := { stood := { row := natValuesRow, standIns := [], harness := (true, "36986857b704cc5859705dd873ca777faef389e418bc52f4b429b1ff2dc10ece"), looks := false }, kinds := [], alts := [], laidByText := true, laidKinds := [.data], laidTests := true, laidLooks := .later }
def NatValuesCardSaid : Prop := Claim7.holds Tryd.pinned (.plain (OpenSpec.ofChange natValuesSpec)) natValuesCard

/-- THE TIED CARD OF 'reckonerlaw02.NatOwn'. -/
def natOwnCard : Claim7 := { stood := { row := natOwnRow, standIns := [], harness := (true, "36986857b704cc5859705dd873ca777faef389e418bc52f4b429b1ff2dc10ece"), looks := false }, kinds := [], alts := [], laidByText := true, laidKinds := [.funcs], laidTests := true, laidLooks := .later }
def NatOwnCardSaid : Prop := Claim7.holds Tryd.pinned (.plain (OpenSpec.ofChange natOwnSpec)) natOwnCard

/-- THE TIED CARD OF 'reckonerlaw02.NatPowersOfTwo'. -/
def natPowersOfTwoCard : Claim7 := { stood := { row := natPowersOfTwoRow, standIns := [], harness := (true, "36986857b704cc5859705dd873ca777faef389e418bc52f4b429b1ff2dc10ece"), looks := false }, kinds := [], alts := [], laidByText := true, laidKinds := [.funcs], laidTests := true, laidLooks := .later }
def NatPowersOfTwoCardSaid : Prop := Claim7.holds Tryd.pinned (.plain (OpenSpec.ofChange natPowersOfTwoSpec)) natPowersOfTwoCard

/-- THE TIED CARD OF 'reckonerlaw02.NatSizes'. -/
def natSizesCard : Claim7 := { stood := { row := natSizesRow, standIns := [], harness := (true, "36986857b704cc5859705dd873ca777faef389e418bc52f4b429b1ff2dc10ece"), looks := false }, kinds := [], alts := [], laidByText := true, laidKinds := [.funcs], laidTests := true, laidLooks := .later }
def NatSizesCardSaid : Prop := Claim7.holds Tryd.pinned (.plain (OpenSpec.ofChange natSizesSpec)) natSizesCard

/-- THE SECOND FORM's CARD OF 'reckonerlaw02.NatBits'. -/
def natBitsUptoCard : Claim7 := { stood := { row := natBitsUptoRow, standIns := [], harness := (true, "36986857b704cc5859705dd873ca777faef389e418bc52f4b429b1ff2dc10ece"), looks := false }, kinds := [], alts := [], laidByText := true, laidKinds := [.funcs], laidTests := true, laidLooks := .later }
def NatBitsUptoCardSaid : Prop := Claim7.holds Tryd.pinned (.plain (OpenSpec.upto natBitsSpec)) natBitsUptoCard

/-- THE SECOND FORM's CARD OF 'reckonerlaw02.NatValues'. -/
def natValuesUptoCard : Claim7 := { stood := { row := natValuesUptoRow, standIns := [], harness := (true, "36986857b704cc5859705dd873ca777faef389e418bc52f4b429b1ff2dc10ece"), looks := false }, kinds := [], alts := [], laidByText := true, laidKinds := [.data], laidTests := true, laidLooks := .later }
def NatValuesUptoCardSaid : Prop := Claim7.holds Tryd.pinned (.plain (OpenSpec.upto natValuesSpec)) natValuesUptoCard

/-- THE SECOND FORM's CARD OF 'reckonerlaw02.NatOwn'. -/
def natOwnUptoCard : Claim7 := { stood := { row := natOwnUptoRow, standIns := [], harness := (true, "36986857b704cc5859705dd873ca777faef389e418bc52f4b429b1ff2dc10ece"), looks := false }, kinds := [], alts := [], laidByText := true, laidKinds := [.funcs], laidTests := true, laidLooks := .later }
def NatOwnUptoCardSaid : Prop := Claim7.holds Tryd.pinned (.plain (OpenSpec.upto natOwnSpec)) natOwnUptoCard

/-- THE SECOND FORM's CARD OF 'reckonerlaw02.NatPowersOfTwo'. -/
def natPowersOfTwoUptoCard : Claim7 := { stood := { row := natPowersOfTwoUptoRow, standIns := [], harness := (true, "36986857b704cc5859705dd873ca777faef389e418bc52f4b429b1ff2dc10ece"), looks := false }, kinds := [], alts := [], laidByText := true, laidKinds := [.funcs], laidTests := true, laidLooks := .later }
def NatPowersOfTwoUptoCardSaid : Prop := Claim7.holds Tryd.pinned (.plain (OpenSpec.upto natPowersOfTwoSpec)) natPowersOfTwoUptoCard

/-- THE SECOND FORM's CARD OF 'reckonerlaw02.NatSizes'. -/
def natSizesUptoCard : Claim7 := { stood := { row := natSizesUptoRow, standIns := [], harness := (true, "36986857b704cc5859705dd873ca777faef389e418bc52f4b429b1ff2dc10ece"), looks := false }, kinds := [], alts := [], laidByText := true, laidKinds := [.funcs], laidTests := true, laidLooks := .later }
def NatSizesUptoCardSaid : Prop := Claim7.holds Tryd.pinned (.plain (OpenSpec.upto natSizesSpec)) natSizesUptoCard
end Rows
end Go.Proofs.YtkkkbalefnileaaDoor
