/- NatPowersOfTwo (a card): for every two rows of words and every s, Left and Right (by s modulo 700) are a product and a quotient by a power of 2, and Low the remainder; the sum of And and Or is that of both numbers (their first 20 words), Xor is Or less And; the length of a product is that of both numbers, or 1 less. (Part 5 of 5.) -/
import Derived.Shelf.Spec.TrailingZeros
import Derived.Lib.BitFns
import Derived.Lib.TrailingZeros
import Derived.Test.YtkkkbalefnileaaDoorRows
import Derived.LaidMore
import Derived.OpenShut
import Derived.StringKeys
import Derived.SizedLaws
import Derived.ChangeSlices
import Derived.Test.YtkkkbalefnileaaDoorTie
import Derived.Test.YtkkkbalefnileaaDoorCards
import Derived.Deep.DeepHandedRow
import Derived.Deep.DeepWitnessRowRef
import Derived.SevenTiedAt
import Derived.LaidLaws
import Derived.WalkKit
import Derived.ProofKit
import Derived.ShutString
import Derived.ChangeOld
import Derived.Below
import Derived.Test.YtkkkbalefnileaaDoorMNatPowersOfTwo3
-- PRINTED by print.py (a twelfth state) out of the translation. Not trusted: Lean checks it.
namespace Go.Proofs.YtkkkbalefnileaaDoor.T
open Go.RowKit Go.Proofs.YtkkkbalefnileaaDoorW.PrintWords Go.Proofs.YtkkkbalefnileaaDoorW.PrintLast Go.Proofs.YtkkkbalefnileaaDoorW.PrintMore
attribute [local go_sem] max2_int min2_int max_two min_two max_three min_three max_four min_four   -- for this text's walks alone
open YtkkkbalefnileaaDoor.Ex
set_option linter.unusedVariables false
set_option linter.unusedSimpArgs false

/-! ### reckonerlaw02_NatPowersOfTwo: function 6 -/
mutual
def reckonerlaw02_NatPowersOfTwo.j0 : Nat → List Int → List Int → Bool → Option (Bool)
  | 0, _, _, _ => none
  | k + 1, x7, x8, x122 => if x122 = true then (none) else ((nat_And.f x7 x8).bind fun bt569 => ((nat_Or.f x7 x8).bind fun bt573 => ((nat_Xor.f x7 x8).bind fun bt577 => ((nat_Add.f bt569.1 bt573.1).bind fun bt581 => ((nat_Add.f x7 x8).bind fun bt585 => ((nat_Sub.f bt573.1 bt569.1).bind fun bt589 => ((nat_Mul.f x7 x8).bind fun bt593 => (if bt569.2 = 0 then (if bt573.2 = 0 then (if bt577.2 = 0 then (if bt581.2 = 0 then (if bt585.2 = 0 then (if bt589.2 = 0 then (if bt593.2 = 0 then ((nat_Cmp.f bt581.1 bt585.1).bind fun t597 => (if t597 = 0 then ((nat_Cmp.f bt577.1 bt589.1).bind fun t598 => (reckonerlaw02_NatPowersOfTwo.j1 k x7 x8 bt593.1 (t598 != 0))) else (reckonerlaw02_NatPowersOfTwo.j1 k x7 x8 bt593.1 true))) else (reckonerlaw02_NatPowersOfTwo.j1 k x7 x8 bt593.1 true)) else (reckonerlaw02_NatPowersOfTwo.j1 k x7 x8 bt593.1 true)) else (reckonerlaw02_NatPowersOfTwo.j1 k x7 x8 bt593.1 true)) else (reckonerlaw02_NatPowersOfTwo.j1 k x7 x8 bt593.1 true)) else (reckonerlaw02_NatPowersOfTwo.j1 k x7 x8 bt593.1 true)) else (reckonerlaw02_NatPowersOfTwo.j1 k x7 x8 bt593.1 true)) else (reckonerlaw02_NatPowersOfTwo.j1 k x7 x8 bt593.1 true)))))))))
def reckonerlaw02_NatPowersOfTwo.j1 : Nat → List Int → List Int → List Int → Bool → Option (Bool)
  | 0, _, _, _, _ => none
  | k + 1, x7, x8, x34, x202 => if x202 = true then (none) else ((nat_Len.f x7).bind fun t599 => (if t599 = 0 then (reckonerlaw02_NatPowersOfTwo.j2 k x7 x8 x34 true) else ((nat_Len.f x8).bind fun t600 => (reckonerlaw02_NatPowersOfTwo.j2 k x7 x8 x34 (t600 == 0)))))
def reckonerlaw02_NatPowersOfTwo.j2 : Nat → List Int → List Int → List Int → Bool → Option (Bool)
  | 0, _, _, _, _ => none
  | k + 1, x7, x8, x34, x210 => if x210 = true then ((nat_Len.f x34).bind fun t601 => (if t601 = 0 then ((reckonerlaw02_awake.f k).bind fun t602 => (some t602)) else (none))) else ((nat_Len.f x34).bind fun t603 => ((nat_Len.f x7).bind fun t604 => ((nat_Len.f x8).bind fun t605 => (if t603 = (wrap64 (t604 + t605)) then ((reckonerlaw02_awake.f k).bind fun t606 => (some t606)) else (if t603 = (wrap64 ((wrap64 (t604 + t605)) - 1)) then ((reckonerlaw02_awake.f k).bind fun t607 => (some t607)) else (none))))))
end
def reckonerlaw02_NatPowersOfTwo.f (k : Nat) (l0 : List Int) (l1 : List Int) (a2 : Int) : Option (Bool) := (reckonerlaw02_few.f l0 20).bind fun t530 => ((reckonerlaw02_few.f l1 20).bind fun t533 => ((nat_Pow.f (([2] : List Int)) (wrap64 (Int.tmod (IntKind.u64.wrap (a2)) 700))).bind fun bt539 => ((nat_Left.f t530 (wrap64 (Int.tmod (IntKind.u64.wrap (a2)) 700))).bind fun bt543 => ((nat_Mul.f t530 bt539.1).bind fun bt547 => ((nat_DivMod.f t530 bt539.1).bind fun bt551 => ((nat_Right.f t530 (wrap64 (Int.tmod (IntKind.u64.wrap (a2)) 700))).bind fun bt558 => ((nat_Low.f t530 (wrap64 (Int.tmod (IntKind.u64.wrap (a2)) 700))).bind fun bt562 => (if bt539.2 = 0 then (if bt543.2 = 0 then (if bt547.2 = 0 then (if bt551.2.2 = 0 then (if bt558.2 = 0 then (if bt562.2 = 0 then ((nat_Cmp.f bt543.1 bt547.1).bind fun t566 => (if t566 = 0 then ((nat_Cmp.f bt551.1 bt558.1).bind fun t567 => (if t567 = 0 then ((nat_Cmp.f bt551.2.1 bt562.1).bind fun t568 => (reckonerlaw02_NatPowersOfTwo.j0 k t530 t533 (t568 != 0))) else (reckonerlaw02_NatPowersOfTwo.j0 k t530 t533 true))) else (reckonerlaw02_NatPowersOfTwo.j0 k t530 t533 true))) else (reckonerlaw02_NatPowersOfTwo.j0 k t530 t533 true)) else (reckonerlaw02_NatPowersOfTwo.j0 k t530 t533 true)) else (reckonerlaw02_NatPowersOfTwo.j0 k t530 t533 true)) else (reckonerlaw02_NatPowersOfTwo.j0 k t530 t533 true)) else (reckonerlaw02_NatPowersOfTwo.j0 k t530 t533 true)) else (reckonerlaw02_NatPowersOfTwo.j0 k t530 t533 true)))))))))
set_option maxHeartbeats 8000000 in
set_option maxRecDepth 100000 in
theorem reckonerlaw02_NatPowersOfTwo.calls (k : Nat) (A0 : Option Addr) (c0 : Nat) (l0 : List Int) (A1 : Option Addr) (c1 : Nat) (l1 : List Int) (a2 : Int) (r : Bool) (w : World) (hr0 : Kd.C (Kd.int .u64) w A0 l0.length l0) (hc0 : l0.length ≤ c0) (hr1 : Kd.C (Kd.int .u64) w A1 l1.length l1) (hc1 : l1.length ≤ c1) (hj : LaidJ w) (h : reckonerlaw02_NatPowersOfTwo.f k l0 l1 a2 = some r) :
  Calls Tryd.prog 6 #[.slice A0 l0.length c0, .slice A1 l1.length c1, .int .i64 a2] w fun e w' => e = .returned (.bool r) ∧ Below w.heap.size w w' := by
 have HLj := Aside0.mk hj
 clear hj
 have HR0 := Aside0.mk hr0
 have HC0 := Aside0.mk hc0
 clear hr0 hc0
 have HR1 := Aside0.mk hr1
 have HC1 := Aside0.mk hc1
 clear hr1 hc1
 have HB := Aside0.mk (Below.refl w.heap.size w)
 have H : ((reckonerlaw02_few.f l0 20).bind fun t530 => ((reckonerlaw02_few.f l1 20).bind fun t533 => ((nat_Pow.f (([2] : List Int)) (wrap64 (Int.tmod (IntKind.u64.wrap (a2)) 700))).bind fun bt539 => ((nat_Left.f t530 (wrap64 (Int.tmod (IntKind.u64.wrap (a2)) 700))).bind fun bt543 => ((nat_Mul.f t530 bt539.1).bind fun bt547 => ((nat_DivMod.f t530 bt539.1).bind fun bt551 => ((nat_Right.f t530 (wrap64 (Int.tmod (IntKind.u64.wrap (a2)) 700))).bind fun bt558 => ((nat_Low.f t530 (wrap64 (Int.tmod (IntKind.u64.wrap (a2)) 700))).bind fun bt562 => (if bt539.2 = 0 then (if bt543.2 = 0 then (if bt547.2 = 0 then (if bt551.2.2 = 0 then (if bt558.2 = 0 then (if bt562.2 = 0 then ((nat_Cmp.f bt543.1 bt547.1).bind fun t566 => (if t566 = 0 then ((nat_Cmp.f bt551.1 bt558.1).bind fun t567 => (if t567 = 0 then ((nat_Cmp.f bt551.2.1 bt562.1).bind fun t568 => (reckonerlaw02_NatPowersOfTwo.j0 k t530 t533 (t568 != 0))) else (reckonerlaw02_NatPowersOfTwo.j0 k t530 t533 true))) else (reckonerlaw02_NatPowersOfTwo.j0 k t530 t533 true))) else (reckonerlaw02_NatPowersOfTwo.j0 k t530 t533 true)) else (reckonerlaw02_NatPowersOfTwo.j0 k t530 t533 true)) else (reckonerlaw02_NatPowersOfTwo.j0 k t530 t533 true)) else (reckonerlaw02_NatPowersOfTwo.j0 k t530 t533 true)) else (reckonerlaw02_NatPowersOfTwo.j0 k t530 t533 true)) else (reckonerlaw02_NatPowersOfTwo.j0 k t530 t533 true)))))))))) = some r := h
 clear h
 replace H := Option.bind_eq_some_iff.mp H
 obtain ⟨t530, A40, H⟩ := H
 replace H : ((reckonerlaw02_few.f l1 20).bind fun t533 => ((nat_Pow.f (([2] : List Int)) (wrap64 (Int.tmod (IntKind.u64.wrap (a2)) 700))).bind fun bt539 => ((nat_Left.f t530 (wrap64 (Int.tmod (IntKind.u64.wrap (a2)) 700))).bind fun bt543 => ((nat_Mul.f t530 bt539.1).bind fun bt547 => ((nat_DivMod.f t530 bt539.1).bind fun bt551 => ((nat_Right.f t530 (wrap64 (Int.tmod (IntKind.u64.wrap (a2)) 700))).bind fun bt558 => ((nat_Low.f t530 (wrap64 (Int.tmod (IntKind.u64.wrap (a2)) 700))).bind fun bt562 => (if bt539.2 = 0 then (if bt543.2 = 0 then (if bt547.2 = 0 then (if bt551.2.2 = 0 then (if bt558.2 = 0 then (if bt562.2 = 0 then ((nat_Cmp.f bt543.1 bt547.1).bind fun t566 => (if t566 = 0 then ((nat_Cmp.f bt551.1 bt558.1).bind fun t567 => (if t567 = 0 then ((nat_Cmp.f bt551.2.1 bt562.1).bind fun t568 => (reckonerlaw02_NatPowersOfTwo.j0 k t530 t533 (t568 != 0))) else (reckonerlaw02_NatPowersOfTwo.j0 k t530 t533 true))) else (reckonerlaw02_NatPowersOfTwo.j0 k t530 t533 true))) else (reckonerlaw02_NatPowersOfTwo.j0 k t530 t533 true)) else (reckonerlaw02_NatPowersOfTwo.j0 k t530 t533 true)) else (reckonerlaw02_NatPowersOfTwo.j0 k t530 t533 true)) else (reckonerlaw02_NatPowersOfTwo.j0 k t530 t533 true)) else (reckonerlaw02_NatPowersOfTwo.j0 k t530 t533 true)) else (reckonerlaw02_NatPowersOfTwo.j0 k t530 t533 true))))))))) = some r := H
 have A4 := Aside0.mk A40
 clear A40
 replace H := Option.bind_eq_some_iff.mp H
 obtain ⟨t533, A50, H⟩ := H
 replace H : ((nat_Pow.f (([2] : List Int)) (wrap64 (Int.tmod (IntKind.u64.wrap (a2)) 700))).bind fun bt539 => ((nat_Left.f t530 (wrap64 (Int.tmod (IntKind.u64.wrap (a2)) 700))).bind fun bt543 => ((nat_Mul.f t530 bt539.1).bind fun bt547 => ((nat_DivMod.f t530 bt539.1).bind fun bt551 => ((nat_Right.f t530 (wrap64 (Int.tmod (IntKind.u64.wrap (a2)) 700))).bind fun bt558 => ((nat_Low.f t530 (wrap64 (Int.tmod (IntKind.u64.wrap (a2)) 700))).bind fun bt562 => (if bt539.2 = 0 then (if bt543.2 = 0 then (if bt547.2 = 0 then (if bt551.2.2 = 0 then (if bt558.2 = 0 then (if bt562.2 = 0 then ((nat_Cmp.f bt543.1 bt547.1).bind fun t566 => (if t566 = 0 then ((nat_Cmp.f bt551.1 bt558.1).bind fun t567 => (if t567 = 0 then ((nat_Cmp.f bt551.2.1 bt562.1).bind fun t568 => (reckonerlaw02_NatPowersOfTwo.j0 k t530 t533 (t568 != 0))) else (reckonerlaw02_NatPowersOfTwo.j0 k t530 t533 true))) else (reckonerlaw02_NatPowersOfTwo.j0 k t530 t533 true))) else (reckonerlaw02_NatPowersOfTwo.j0 k t530 t533 true)) else (reckonerlaw02_NatPowersOfTwo.j0 k t530 t533 true)) else (reckonerlaw02_NatPowersOfTwo.j0 k t530 t533 true)) else (reckonerlaw02_NatPowersOfTwo.j0 k t530 t533 true)) else (reckonerlaw02_NatPowersOfTwo.j0 k t530 t533 true)) else (reckonerlaw02_NatPowersOfTwo.j0 k t530 t533 true)))))))) = some r := H
 have A5 := Aside0.mk A50
 clear A50
 obtain ⟨y536, hy536⟩ : ∃ y_ : List Int, y_ = (([2] : List Int)) := ⟨_, rfl⟩
 replace H : ((nat_Pow.f y536 (wrap64 (Int.tmod (IntKind.u64.wrap (a2)) 700))).bind fun bt539 => ((nat_Left.f t530 (wrap64 (Int.tmod (IntKind.u64.wrap (a2)) 700))).bind fun bt543 => ((nat_Mul.f t530 bt539.1).bind fun bt547 => ((nat_DivMod.f t530 bt539.1).bind fun bt551 => ((nat_Right.f t530 (wrap64 (Int.tmod (IntKind.u64.wrap (a2)) 700))).bind fun bt558 => ((nat_Low.f t530 (wrap64 (Int.tmod (IntKind.u64.wrap (a2)) 700))).bind fun bt562 => (if bt539.2 = 0 then (if bt543.2 = 0 then (if bt547.2 = 0 then (if bt551.2.2 = 0 then (if bt558.2 = 0 then (if bt562.2 = 0 then ((nat_Cmp.f bt543.1 bt547.1).bind fun t566 => (if t566 = 0 then ((nat_Cmp.f bt551.1 bt558.1).bind fun t567 => (if t567 = 0 then ((nat_Cmp.f bt551.2.1 bt562.1).bind fun t568 => (reckonerlaw02_NatPowersOfTwo.j0 k t530 t533 (t568 != 0))) else (reckonerlaw02_NatPowersOfTwo.j0 k t530 t533 true))) else (reckonerlaw02_NatPowersOfTwo.j0 k t530 t533 true))) else (reckonerlaw02_NatPowersOfTwo.j0 k t530 t533 true)) else (reckonerlaw02_NatPowersOfTwo.j0 k t530 t533 true)) else (reckonerlaw02_NatPowersOfTwo.j0 k t530 t533 true)) else (reckonerlaw02_NatPowersOfTwo.j0 k t530 t533 true)) else (reckonerlaw02_NatPowersOfTwo.j0 k t530 t533 true)) else (reckonerlaw02_NatPowersOfTwo.j0 k t530 t533 true)))))))) = some r := by first | (rw [hy536]; with_reducible exact H) | (have H2_ := (Option.bind_some _ _).symm.trans H; rw [hy536]; with_reducible exact H2_) | (have H2_ := (Option.bind_some _ _).symm.trans H; with_reducible exact H2_) | with_reducible exact H | (rw [hy536]; exact H) | exact H
 have Ny536 := Aside0.mk hy536
 clear hy536
 replace H := Option.bind_eq_some_iff.mp H
 obtain ⟨⟨t539, t540⟩, A60, H⟩ := H
 replace H : ((nat_Left.f t530 (wrap64 (Int.tmod (IntKind.u64.wrap (a2)) 700))).bind fun bt543 => ((nat_Mul.f t530 t539).bind fun bt547 => ((nat_DivMod.f t530 t539).bind fun bt551 => ((nat_Right.f t530 (wrap64 (Int.tmod (IntKind.u64.wrap (a2)) 700))).bind fun bt558 => ((nat_Low.f t530 (wrap64 (Int.tmod (IntKind.u64.wrap (a2)) 700))).bind fun bt562 => (if t540 = 0 then (if bt543.2 = 0 then (if bt547.2 = 0 then (if bt551.2.2 = 0 then (if bt558.2 = 0 then (if bt562.2 = 0 then ((nat_Cmp.f bt543.1 bt547.1).bind fun t566 => (if t566 = 0 then ((nat_Cmp.f bt551.1 bt558.1).bind fun t567 => (if t567 = 0 then ((nat_Cmp.f bt551.2.1 bt562.1).bind fun t568 => (reckonerlaw02_NatPowersOfTwo.j0 k t530 t533 (t568 != 0))) else (reckonerlaw02_NatPowersOfTwo.j0 k t530 t533 true))) else (reckonerlaw02_NatPowersOfTwo.j0 k t530 t533 true))) else (reckonerlaw02_NatPowersOfTwo.j0 k t530 t533 true)) else (reckonerlaw02_NatPowersOfTwo.j0 k t530 t533 true)) else (reckonerlaw02_NatPowersOfTwo.j0 k t530 t533 true)) else (reckonerlaw02_NatPowersOfTwo.j0 k t530 t533 true)) else (reckonerlaw02_NatPowersOfTwo.j0 k t530 t533 true)) else (reckonerlaw02_NatPowersOfTwo.j0 k t530 t533 true))))))) = some r := H
 have A6 := Aside0.mk A60
 clear A60
 replace H := Option.bind_eq_some_iff.mp H
 obtain ⟨⟨t543, t544⟩, A70, H⟩ := H
 replace H : ((nat_Mul.f t530 t539).bind fun bt547 => ((nat_DivMod.f t530 t539).bind fun bt551 => ((nat_Right.f t530 (wrap64 (Int.tmod (IntKind.u64.wrap (a2)) 700))).bind fun bt558 => ((nat_Low.f t530 (wrap64 (Int.tmod (IntKind.u64.wrap (a2)) 700))).bind fun bt562 => (if t540 = 0 then (if t544 = 0 then (if bt547.2 = 0 then (if bt551.2.2 = 0 then (if bt558.2 = 0 then (if bt562.2 = 0 then ((nat_Cmp.f t543 bt547.1).bind fun t566 => (if t566 = 0 then ((nat_Cmp.f bt551.1 bt558.1).bind fun t567 => (if t567 = 0 then ((nat_Cmp.f bt551.2.1 bt562.1).bind fun t568 => (reckonerlaw02_NatPowersOfTwo.j0 k t530 t533 (t568 != 0))) else (reckonerlaw02_NatPowersOfTwo.j0 k t530 t533 true))) else (reckonerlaw02_NatPowersOfTwo.j0 k t530 t533 true))) else (reckonerlaw02_NatPowersOfTwo.j0 k t530 t533 true)) else (reckonerlaw02_NatPowersOfTwo.j0 k t530 t533 true)) else (reckonerlaw02_NatPowersOfTwo.j0 k t530 t533 true)) else (reckonerlaw02_NatPowersOfTwo.j0 k t530 t533 true)) else (reckonerlaw02_NatPowersOfTwo.j0 k t530 t533 true)) else (reckonerlaw02_NatPowersOfTwo.j0 k t530 t533 true)))))) = some r := H
 have A7 := Aside0.mk A70
 clear A70
 replace H := Option.bind_eq_some_iff.mp H
 obtain ⟨⟨t547, t548⟩, A80, H⟩ := H
 replace H : ((nat_DivMod.f t530 t539).bind fun bt551 => ((nat_Right.f t530 (wrap64 (Int.tmod (IntKind.u64.wrap (a2)) 700))).bind fun bt558 => ((nat_Low.f t530 (wrap64 (Int.tmod (IntKind.u64.wrap (a2)) 700))).bind fun bt562 => (if t540 = 0 then (if t544 = 0 then (if t548 = 0 then (if bt551.2.2 = 0 then (if bt558.2 = 0 then (if bt562.2 = 0 then ((nat_Cmp.f t543 t547).bind fun t566 => (if t566 = 0 then ((nat_Cmp.f bt551.1 bt558.1).bind fun t567 => (if t567 = 0 then ((nat_Cmp.f bt551.2.1 bt562.1).bind fun t568 => (reckonerlaw02_NatPowersOfTwo.j0 k t530 t533 (t568 != 0))) else (reckonerlaw02_NatPowersOfTwo.j0 k t530 t533 true))) else (reckonerlaw02_NatPowersOfTwo.j0 k t530 t533 true))) else (reckonerlaw02_NatPowersOfTwo.j0 k t530 t533 true)) else (reckonerlaw02_NatPowersOfTwo.j0 k t530 t533 true)) else (reckonerlaw02_NatPowersOfTwo.j0 k t530 t533 true)) else (reckonerlaw02_NatPowersOfTwo.j0 k t530 t533 true)) else (reckonerlaw02_NatPowersOfTwo.j0 k t530 t533 true)) else (reckonerlaw02_NatPowersOfTwo.j0 k t530 t533 true))))) = some r := H
 have A8 := Aside0.mk A80
 clear A80
 replace H := Option.bind_eq_some_iff.mp H
 obtain ⟨⟨t551, t552, t553⟩, A90, H⟩ := H
 replace H : ((nat_Right.f t530 (wrap64 (Int.tmod (IntKind.u64.wrap (a2)) 700))).bind fun bt558 => ((nat_Low.f t530 (wrap64 (Int.tmod (IntKind.u64.wrap (a2)) 700))).bind fun bt562 => (if t540 = 0 then (if t544 = 0 then (if t548 = 0 then (if t553 = 0 then (if bt558.2 = 0 then (if bt562.2 = 0 then ((nat_Cmp.f t543 t547).bind fun t566 => (if t566 = 0 then ((nat_Cmp.f t551 bt558.1).bind fun t567 => (if t567 = 0 then ((nat_Cmp.f t552 bt562.1).bind fun t568 => (reckonerlaw02_NatPowersOfTwo.j0 k t530 t533 (t568 != 0))) else (reckonerlaw02_NatPowersOfTwo.j0 k t530 t533 true))) else (reckonerlaw02_NatPowersOfTwo.j0 k t530 t533 true))) else (reckonerlaw02_NatPowersOfTwo.j0 k t530 t533 true)) else (reckonerlaw02_NatPowersOfTwo.j0 k t530 t533 true)) else (reckonerlaw02_NatPowersOfTwo.j0 k t530 t533 true)) else (reckonerlaw02_NatPowersOfTwo.j0 k t530 t533 true)) else (reckonerlaw02_NatPowersOfTwo.j0 k t530 t533 true)) else (reckonerlaw02_NatPowersOfTwo.j0 k t530 t533 true)))) = some r := H
 have A9 := Aside0.mk A90
 clear A90
 replace H := Option.bind_eq_some_iff.mp H
 obtain ⟨⟨t558, t559⟩, A100, H⟩ := H
 replace H : ((nat_Low.f t530 (wrap64 (Int.tmod (IntKind.u64.wrap (a2)) 700))).bind fun bt562 => (if t540 = 0 then (if t544 = 0 then (if t548 = 0 then (if t553 = 0 then (if t559 = 0 then (if bt562.2 = 0 then ((nat_Cmp.f t543 t547).bind fun t566 => (if t566 = 0 then ((nat_Cmp.f t551 t558).bind fun t567 => (if t567 = 0 then ((nat_Cmp.f t552 bt562.1).bind fun t568 => (reckonerlaw02_NatPowersOfTwo.j0 k t530 t533 (t568 != 0))) else (reckonerlaw02_NatPowersOfTwo.j0 k t530 t533 true))) else (reckonerlaw02_NatPowersOfTwo.j0 k t530 t533 true))) else (reckonerlaw02_NatPowersOfTwo.j0 k t530 t533 true)) else (reckonerlaw02_NatPowersOfTwo.j0 k t530 t533 true)) else (reckonerlaw02_NatPowersOfTwo.j0 k t530 t533 true)) else (reckonerlaw02_NatPowersOfTwo.j0 k t530 t533 true)) else (reckonerlaw02_NatPowersOfTwo.j0 k t530 t533 true)) else (reckonerlaw02_NatPowersOfTwo.j0 k t530 t533 true))) = some r := H
 have A10 := Aside0.mk A100
 clear A100
 replace H := Option.bind_eq_some_iff.mp H
 obtain ⟨⟨t562, t563⟩, A110, H⟩ := H
 replace H : (if t540 = 0 then (if t544 = 0 then (if t548 = 0 then (if t553 = 0 then (if t559 = 0 then (if t563 = 0 then ((nat_Cmp.f t543 t547).bind fun t566 => (if t566 = 0 then ((nat_Cmp.f t551 t558).bind fun t567 => (if t567 = 0 then ((nat_Cmp.f t552 t562).bind fun t568 => (reckonerlaw02_NatPowersOfTwo.j0 k t530 t533 (t568 != 0))) else (reckonerlaw02_NatPowersOfTwo.j0 k t530 t533 true))) else (reckonerlaw02_NatPowersOfTwo.j0 k t530 t533 true))) else (reckonerlaw02_NatPowersOfTwo.j0 k t530 t533 true)) else (reckonerlaw02_NatPowersOfTwo.j0 k t530 t533 true)) else (reckonerlaw02_NatPowersOfTwo.j0 k t530 t533 true)) else (reckonerlaw02_NatPowersOfTwo.j0 k t530 t533 true)) else (reckonerlaw02_NatPowersOfTwo.j0 k t530 t533 true)) else (reckonerlaw02_NatPowersOfTwo.j0 k t530 t533 true)) = some r := H
 have A11 := Aside0.mk A110
 clear A110
 have HC12 := Aside0.mk H
 clear H
 go_enter Tryd.func6, Tryd.ntmps6
 try simp only [List.append]
 go_upto_region 9 with (first | ((with_reducible refine gate_callee (f := 8) rfl ?_); refine goesL_ (some 39) rfl rfl Tryd.func8 (by kernel_rfl) rfl #[.slice A0 l0.length c0, .int .i64 20] rfl (by (try simp only [List.map_toArray, List.map_cons, List.map_nil]); first | done | rfl | (simp only [List.length_drop, List.length_take]; rfl)) ?_; (with_reducible refine (reckonerlaw02_few.calls _ _ l0 20 t530 _ ?side1 ?side2 A4.out).mono ?_); (case side1 => repeat (first | exact HR0.out | (with_reducible refine Kd.C_alloc ?_ _) | (with_reducible refine Kd.C_drewN ?_ _) | (with_reducible refine Kd.C_drew ?_))); (case side2 => exact HC0.out); rintro e w13 ⟨v531, rfl, ho0, hb⟩; refine ⟨_, rfl, ?_⟩; have n0_ := Aside0.mk (Kd.R_lower ho0 (below_size (by repeat (first | (with_reducible first | exact HB.out | apply below_alloc | apply pw_below_drewN | apply below_drew1) | exact HB.out)))); have n1_ := Aside0.mk (below_step (by repeat (first | (with_reducible first | exact HB.out | apply below_alloc | apply pw_below_drewN | apply below_drew1) | exact HB.out)) hb); clear HB; have HO532 := n0_; have HB := n1_; clear n0_ n1_; (try clear hb); (try clear hb2); (try clear hk); (try clear hi); (try clear ho0)) | ((with_reducible refine gate_callee (f := 8) rfl ?_); refine goesL_ (some 41) rfl rfl Tryd.func8 (by kernel_rfl) rfl #[.slice A1 l1.length c1, .int .i64 20] rfl (by (try simp only [List.map_toArray, List.map_cons, List.map_nil]); first | done | rfl | (simp only [List.length_drop, List.length_take]; rfl)) ?_; (with_reducible refine (reckonerlaw02_few.calls _ _ l1 20 t533 _ ?side1 ?side2 A5.out).mono ?_); (case side1 => repeat (first | exact (Kd.C_below HR1.out HB.out) | (with_reducible refine Kd.C_alloc ?_ _) | (with_reducible refine Kd.C_drewN ?_ _) | (with_reducible refine Kd.C_drew ?_))); (case side2 => exact HC1.out); rintro e w14 ⟨v534, rfl, ho0, hb⟩; refine ⟨_, rfl, ?_⟩; have n0_ := Aside0.mk (Kd.R_elder' (by (with_reducible repeat (first | apply Kd.R_alloc | apply Kd.R_drewN | apply Kd.R_drew)); exact HO532.out) (Kd.R_base ho0) hb); have n1_ := Aside0.mk (Kd.R_lower (Kd.R_new' ho0 (Kd.R_lt (by (with_reducible repeat (first | apply Kd.R_alloc | apply Kd.R_drewN | apply Kd.R_drew)); exact HO532.out))) (below_size (by repeat (first | (with_reducible first | exact HB.out | apply below_alloc | apply pw_below_drewN | apply below_drew1) | exact HB.out)))); have n2_ := Aside0.mk (below_step (by repeat (first | (with_reducible first | exact HB.out | apply below_alloc | apply pw_below_drewN | apply below_drew1) | exact HB.out)) hb); clear HO532; clear HB; have HO532 := n0_; have HO535 := n1_; have HB := n2_; clear n0_ n1_ n2_; (try clear hb); (try clear hb2); (try clear hk); (try clear hi); (try clear ho0)) | ((with_reducible refine gate_dst (N := 47) rfl ?_); refine Kd.R_lit (Kd.int .u64) _ 36 ?hg (N := 47) ?hd (xs := ([2] : List Int)) (inner := [.int .u64 2]) (ok := fun _ => True) (okp := fun _ => True) ?hr ?hp (fun _ hk => hk) trivial (Below.refl _ _) (Nat.le_refl _) (by simp) ?_; (case hd => rfl); (case hg => rfl); (case hr => first | (go_simp; done) | (go_simp; rfl)); (case hp => exact (Reps.one (show Kd.M (Kd.int .u64) _ _ _ 2 [.int .u64 2] from rfl) (Reps.none _ _))); intro v537 w15 ho16 hb hg_ hnew_; clear hg_ hnew_; (first | rw [← Ny536.out] at ho16 | (simp only [Int.reduceToNat] at ho16; rw [← Ny536.out] at ho16)); have n0_ := Aside0.mk (Kd.R_elder' (by (with_reducible repeat (first | apply Kd.R_alloc | apply Kd.R_drewN | apply Kd.R_drew)); exact HO532.out) (Kd.R_base ho16) hb); have n1_ := Aside0.mk (Kd.R_elder' (by (with_reducible repeat (first | apply Kd.R_alloc | apply Kd.R_drewN | apply Kd.R_drew)); exact HO535.out) (Kd.R_base ho16) hb); have n2_ := Aside0.mk (Kd.R_lower (Kd.R_new' (Kd.R_new' ho16 (Kd.R_lt (by (with_reducible repeat (first | apply Kd.R_alloc | apply Kd.R_drewN | apply Kd.R_drew)); exact HO532.out))) (Kd.R_lt (by (with_reducible repeat (first | apply Kd.R_alloc | apply Kd.R_drewN | apply Kd.R_drew)); exact HO535.out))) (below_size (by repeat (first | (with_reducible first | exact HB.out | apply below_alloc | apply pw_below_drewN | apply below_drew1) | exact HB.out)))); have n3_ := Aside0.mk (below_step (by repeat (first | (with_reducible first | exact HB.out | apply below_alloc | apply pw_below_drewN | apply below_drew1) | exact HB.out)) hb); clear HO532; clear HO535; clear HB; have HO532 := n0_; have HO535 := n1_; have HO538 := n2_; have HB := n3_; clear n0_ n1_ n2_ n3_; clear hb ho16; obtain ⟨Ao17, co17, eo17⟩ := Kd.R_slice HO538.out; subst eo17) | ((with_reducible refine gate_callee (f := 34) rfl ?_); refine goesL_ (some 49) rfl rfl Tryd.func34 (by kernel_rfl) rfl #[.slice Ao17 y536.length co17, .int .i64 (wrap64 (Int.tmod (IntKind.u64.wrap (a2)) 700))] rfl (by (try simp only [List.map_toArray, List.map_cons, List.map_nil]); first | done | rfl | (simp only [List.length_drop, List.length_take]; rfl)) ?_; (with_reducible refine (nat_Pow.calls _ _ y536 (wrap64 (Int.tmod (IntKind.u64.wrap (a2)) 700)) t539 t540 _ ?side1 ?side2 A6.out).mono ?_); (case side1 => repeat (first | exact (Kd.R_reads' HO538.out).2.2 | (with_reducible refine Kd.C_alloc ?_ _) | (with_reducible refine Kd.C_drewN ?_ _) | (with_reducible refine Kd.C_drew ?_))); (case side2 => exact (Kd.R_reads' HO538.out).2.1); rintro e w18 ⟨v541, rfl, ho0, hb⟩; refine ⟨_, rfl, ?_⟩; have n0_ := Aside0.mk (Kd.R_elder' (by (with_reducible repeat (first | apply Kd.R_alloc | apply Kd.R_drewN | apply Kd.R_drew)); exact HO532.out) (Kd.R_base ho0) hb); have n1_ := Aside0.mk (Kd.R_elder' (by (with_reducible repeat (first | apply Kd.R_alloc | apply Kd.R_drewN | apply Kd.R_drew)); exact HO535.out) (Kd.R_base ho0) hb); have n2_ := Aside0.mk (Kd.R_elder' (by (with_reducible repeat (first | apply Kd.R_alloc | apply Kd.R_drewN | apply Kd.R_drew)); exact HO538.out) (Kd.R_base ho0) hb); have n3_ := Aside0.mk (Kd.R_lower (Kd.R_new' (Kd.R_new' (Kd.R_new' ho0 (Kd.R_lt (by (with_reducible repeat (first | apply Kd.R_alloc | apply Kd.R_drewN | apply Kd.R_drew)); exact HO532.out))) (Kd.R_lt (by (with_reducible repeat (first | apply Kd.R_alloc | apply Kd.R_drewN | apply Kd.R_drew)); exact HO535.out))) (Kd.R_lt (by (with_reducible repeat (first | apply Kd.R_alloc | apply Kd.R_drewN | apply Kd.R_drew)); exact HO538.out))) (below_size (by repeat (first | (with_reducible first | exact HB.out | apply below_alloc | apply pw_below_drewN | apply below_drew1) | exact HB.out)))); have n4_ := Aside0.mk (below_step (by repeat (first | (with_reducible first | exact HB.out | apply below_alloc | apply pw_below_drewN | apply below_drew1) | exact HB.out)) hb); clear HO532; clear HO535; clear HO538; clear HB; have HO532 := n0_; have HO535 := n1_; have HO538 := n2_; have HO542 := n3_; have HB := n4_; clear n0_ n1_ n2_ n3_ n4_; (try clear hb); (try clear hb2); (try clear hk); (try clear hi); (try clear ho0); obtain ⟨Ao19, co19, eo19⟩ := Kd.R_slice HO532.out; subst eo19) | ((with_reducible refine gate_callee (f := 31) rfl ?_); refine goesL_ (some 55) rfl rfl Tryd.func31 (by kernel_rfl) rfl #[.slice Ao19 t530.length co19, .int .i64 (wrap64 (Int.tmod (IntKind.u64.wrap (a2)) 700))] rfl (by (try simp only [List.map_toArray, List.map_cons, List.map_nil]); first | done | rfl | (simp only [List.length_drop, List.length_take]; rfl)) ?_; (with_reducible refine (nat_Left.calls _ _ t530 (wrap64 (Int.tmod (IntKind.u64.wrap (a2)) 700)) t543 t544 _ ?side1 ?side2 A7.out).mono ?_); (case side1 => repeat (first | exact (Kd.R_reads' HO532.out).2.2 | (with_reducible refine Kd.C_alloc ?_ _) | (with_reducible refine Kd.C_drewN ?_ _) | (with_reducible refine Kd.C_drew ?_))); (case side2 => exact (Kd.R_reads' HO532.out).2.1); rintro e w20 ⟨v545, rfl, ho0, hb⟩; refine ⟨_, rfl, ?_⟩; have n0_ := Aside0.mk (Kd.R_elder' (by (with_reducible repeat (first | apply Kd.R_alloc | apply Kd.R_drewN | apply Kd.R_drew)); exact HO532.out) (Kd.R_base ho0) hb); have n1_ := Aside0.mk (Kd.R_elder' (by (with_reducible repeat (first | apply Kd.R_alloc | apply Kd.R_drewN | apply Kd.R_drew)); exact HO535.out) (Kd.R_base ho0) hb); have n2_ := Aside0.mk (Kd.R_elder' (by (with_reducible repeat (first | apply Kd.R_alloc | apply Kd.R_drewN | apply Kd.R_drew)); exact HO538.out) (Kd.R_base ho0) hb); have n3_ := Aside0.mk (Kd.R_elder' (by (with_reducible repeat (first | apply Kd.R_alloc | apply Kd.R_drewN | apply Kd.R_drew)); exact HO542.out) (Kd.R_base ho0) hb); have n4_ := Aside0.mk (Kd.R_lower (Kd.R_new' (Kd.R_new' (Kd.R_new' (Kd.R_new' ho0 (Kd.R_lt (by (with_reducible repeat (first | apply Kd.R_alloc | apply Kd.R_drewN | apply Kd.R_drew)); exact HO532.out))) (Kd.R_lt (by (with_reducible repeat (first | apply Kd.R_alloc | apply Kd.R_drewN | apply Kd.R_drew)); exact HO535.out))) (Kd.R_lt (by (with_reducible repeat (first | apply Kd.R_alloc | apply Kd.R_drewN | apply Kd.R_drew)); exact HO538.out))) (Kd.R_lt (by (with_reducible repeat (first | apply Kd.R_alloc | apply Kd.R_drewN | apply Kd.R_drew)); exact HO542.out))) (below_size (by repeat (first | (with_reducible first | exact HB.out | apply below_alloc | apply pw_below_drewN | apply below_drew1) | exact HB.out)))); have n5_ := Aside0.mk (below_step (by repeat (first | (with_reducible first | exact HB.out | apply below_alloc | apply pw_below_drewN | apply below_drew1) | exact HB.out)) hb); clear HO532; clear HO535; clear HO538; clear HO542; clear HB; have HO532 := n0_; have HO535 := n1_; have HO538 := n2_; have HO542 := n3_; have HO546 := n4_; have HB := n5_; clear n0_ n1_ n2_ n3_ n4_ n5_; (try clear hb); (try clear hb2); (try clear hk); (try clear hi); (try clear ho0); obtain ⟨Ao21, co21, eo21⟩ := Kd.R_slice HO542.out; subst eo21) | ((with_reducible refine gate_callee (f := 30) rfl ?_); refine goesL_ (some 61) rfl rfl Tryd.func30 (by kernel_rfl) rfl #[.slice Ao19 t530.length co19, .slice Ao21 t539.length co21] rfl (by (try simp only [List.map_toArray, List.map_cons, List.map_nil]); first | done | rfl | (simp only [List.length_drop, List.length_take]; rfl)) ?_; (with_reducible refine (nat_Mul.calls _ _ t530 _ _ t539 t547 t548 _ ?side1 ?side2 ?side3 ?side4 A8.out).mono ?_); (case side1 => repeat (first | exact (Kd.R_reads' HO532.out).2.2 | (with_reducible refine Kd.C_alloc ?_ _) | (with_reducible refine Kd.C_drewN ?_ _) | (with_reducible refine Kd.C_drew ?_))); (case side2 => exact (Kd.R_reads' HO532.out).2.1); (case side3 => repeat (first | exact (Kd.R_reads' HO542.out).2.2 | (with_reducible refine Kd.C_alloc ?_ _) | (with_reducible refine Kd.C_drewN ?_ _) | (with_reducible refine Kd.C_drew ?_))); (case side4 => exact (Kd.R_reads' HO542.out).2.1); rintro e w22 ⟨v549, rfl, ho0, hb⟩; refine ⟨_, rfl, ?_⟩; have n0_ := Aside0.mk (Kd.R_elder' (by (with_reducible repeat (first | apply Kd.R_alloc | apply Kd.R_drewN | apply Kd.R_drew)); exact HO532.out) (Kd.R_base ho0) hb); have n1_ := Aside0.mk (Kd.R_elder' (by (with_reducible repeat (first | apply Kd.R_alloc | apply Kd.R_drewN | apply Kd.R_drew)); exact HO535.out) (Kd.R_base ho0) hb); have n2_ := Aside0.mk (Kd.R_elder' (by (with_reducible repeat (first | apply Kd.R_alloc | apply Kd.R_drewN | apply Kd.R_drew)); exact HO538.out) (Kd.R_base ho0) hb); have n3_ := Aside0.mk (Kd.R_elder' (by (with_reducible repeat (first | apply Kd.R_alloc | apply Kd.R_drewN | apply Kd.R_drew)); exact HO542.out) (Kd.R_base ho0) hb); have n4_ := Aside0.mk (Kd.R_elder' (by (with_reducible repeat (first | apply Kd.R_alloc | apply Kd.R_drewN | apply Kd.R_drew)); exact HO546.out) (Kd.R_base ho0) hb); have n5_ := Aside0.mk (Kd.R_lower (Kd.R_new' (Kd.R_new' (Kd.R_new' (Kd.R_new' (Kd.R_new' ho0 (Kd.R_lt (by (with_reducible repeat (first | apply Kd.R_alloc | apply Kd.R_drewN | apply Kd.R_drew)); exact HO532.out))) (Kd.R_lt (by (with_reducible repeat (first | apply Kd.R_alloc | apply Kd.R_drewN | apply Kd.R_drew)); exact HO535.out))) (Kd.R_lt (by (with_reducible repeat (first | apply Kd.R_alloc | apply Kd.R_drewN | apply Kd.R_drew)); exact HO538.out))) (Kd.R_lt (by (with_reducible repeat (first | apply Kd.R_alloc | apply Kd.R_drewN | apply Kd.R_drew)); exact HO542.out))) (Kd.R_lt (by (with_reducible repeat (first | apply Kd.R_alloc | apply Kd.R_drewN | apply Kd.R_drew)); exact HO546.out))) (below_size (by repeat (first | (with_reducible first | exact HB.out | apply below_alloc | apply pw_below_drewN | apply below_drew1) | exact HB.out)))); have n6_ := Aside0.mk (below_step (by repeat (first | (with_reducible first | exact HB.out | apply below_alloc | apply pw_below_drewN | apply below_drew1) | exact HB.out)) hb); clear HO532; clear HO535; clear HO538; clear HO542; clear HO546; clear HB; have HO532 := n0_; have HO535 := n1_; have HO538 := n2_; have HO542 := n3_; have HO546 := n4_; have HO550 := n5_; have HB := n6_; clear n0_ n1_ n2_ n3_ n4_ n5_ n6_; (try clear hb); (try clear hb2); (try clear hk); (try clear hi); (try clear ho0)) | ((with_reducible refine gate_callee (f := 33) rfl ?_); refine goesL_ (some 67) rfl rfl Tryd.func33 (by kernel_rfl) rfl #[.slice Ao19 t530.length co19, .slice Ao21 t539.length co21] rfl (by (try simp only [List.map_toArray, List.map_cons, List.map_nil]); first | done | rfl | (simp only [List.length_drop, List.length_take]; rfl)) ?_; (with_reducible refine (nat_DivMod.calls _ _ t530 _ _ t539 t551 t552 t553 _ ?side1 ?side2 ?side3 ?side4 A9.out).mono ?_); (case side1 => repeat (first | exact (Kd.R_reads' HO532.out).2.2 | (with_reducible refine Kd.C_alloc ?_ _) | (with_reducible refine Kd.C_drewN ?_ _) | (with_reducible refine Kd.C_drew ?_))); (case side2 => exact (Kd.R_reads' HO532.out).2.1); (case side3 => repeat (first | exact (Kd.R_reads' HO542.out).2.2 | (with_reducible refine Kd.C_alloc ?_ _) | (with_reducible refine Kd.C_drewN ?_ _) | (with_reducible refine Kd.C_drew ?_))); (case side4 => exact (Kd.R_reads' HO542.out).2.1); rintro e w23 ⟨v554, v556, rfl, ho0, ho1, hb⟩; refine ⟨_, rfl, ?_⟩; have n0_ := Aside0.mk (Kd.R_mono (Kd.R_told (Kd.R_told (Kd.R_old (by (with_reducible repeat (first | apply Kd.R_alloc | apply Kd.R_drewN | apply Kd.R_drew)); exact HO532.out) hb) (Kd.R_base ho0)) (Kd.R_base ho1)) (fun _ h_ => h_.1)); have n1_ := Aside0.mk (Kd.R_mono (Kd.R_told (Kd.R_told (Kd.R_old (by (with_reducible repeat (first | apply Kd.R_alloc | apply Kd.R_drewN | apply Kd.R_drew)); exact HO535.out) hb) (Kd.R_base ho0)) (Kd.R_base ho1)) (fun _ h_ => h_.1)); have n2_ := Aside0.mk (Kd.R_mono (Kd.R_told (Kd.R_told (Kd.R_old (by (with_reducible repeat (first | apply Kd.R_alloc | apply Kd.R_drewN | apply Kd.R_drew)); exact HO538.out) hb) (Kd.R_base ho0)) (Kd.R_base ho1)) (fun _ h_ => h_.1)); have n3_ := Aside0.mk (Kd.R_mono (Kd.R_told (Kd.R_told (Kd.R_old (by (with_reducible repeat (first | apply Kd.R_alloc | apply Kd.R_drewN | apply Kd.R_drew)); exact HO542.out) hb) (Kd.R_base ho0)) (Kd.R_base ho1)) (fun _ h_ => h_.1)); have n4_ := Aside0.mk (Kd.R_mono (Kd.R_told (Kd.R_told (Kd.R_old (by (with_reducible repeat (first | apply Kd.R_alloc | apply Kd.R_drewN | apply Kd.R_drew)); exact HO546.out) hb) (Kd.R_base ho0)) (Kd.R_base ho1)) (fun _ h_ => h_.1)); have n5_ := Aside0.mk (Kd.R_mono (Kd.R_told (Kd.R_told (Kd.R_old (by (with_reducible repeat (first | apply Kd.R_alloc | apply Kd.R_drewN | apply Kd.R_drew)); exact HO550.out) hb) (Kd.R_base ho0)) (Kd.R_base ho1)) (fun _ h_ => h_.1)); have n6_ := Aside0.mk (Kd.R_lower (Kd.R_new' (Kd.R_new' (Kd.R_new' (Kd.R_new' (Kd.R_new' (Kd.R_new' ho0 (Kd.R_lt (by (with_reducible repeat (first | apply Kd.R_alloc | apply Kd.R_drewN | apply Kd.R_drew)); exact HO532.out))) (Kd.R_lt (by (with_reducible repeat (first | apply Kd.R_alloc | apply Kd.R_drewN | apply Kd.R_drew)); exact HO535.out))) (Kd.R_lt (by (with_reducible repeat (first | apply Kd.R_alloc | apply Kd.R_drewN | apply Kd.R_drew)); exact HO538.out))) (Kd.R_lt (by (with_reducible repeat (first | apply Kd.R_alloc | apply Kd.R_drewN | apply Kd.R_drew)); exact HO542.out))) (Kd.R_lt (by (with_reducible repeat (first | apply Kd.R_alloc | apply Kd.R_drewN | apply Kd.R_drew)); exact HO546.out))) (Kd.R_lt (by (with_reducible repeat (first | apply Kd.R_alloc | apply Kd.R_drewN | apply Kd.R_drew)); exact HO550.out))) (below_size (by repeat (first | (with_reducible first | exact HB.out | apply below_alloc | apply pw_below_drewN | apply below_drew1) | exact HB.out)))); have n7_ := Aside0.mk (Kd.R_lower (Kd.R_new' (Kd.R_new' (Kd.R_new' (Kd.R_new' (Kd.R_new' (Kd.R_new' ho1 (Kd.R_lt (by (with_reducible repeat (first | apply Kd.R_alloc | apply Kd.R_drewN | apply Kd.R_drew)); exact HO532.out))) (Kd.R_lt (by (with_reducible repeat (first | apply Kd.R_alloc | apply Kd.R_drewN | apply Kd.R_drew)); exact HO535.out))) (Kd.R_lt (by (with_reducible repeat (first | apply Kd.R_alloc | apply Kd.R_drewN | apply Kd.R_drew)); exact HO538.out))) (Kd.R_lt (by (with_reducible repeat (first | apply Kd.R_alloc | apply Kd.R_drewN | apply Kd.R_drew)); exact HO542.out))) (Kd.R_lt (by (with_reducible repeat (first | apply Kd.R_alloc | apply Kd.R_drewN | apply Kd.R_drew)); exact HO546.out))) (Kd.R_lt (by (with_reducible repeat (first | apply Kd.R_alloc | apply Kd.R_drewN | apply Kd.R_drew)); exact HO550.out))) (below_size (by repeat (first | (with_reducible first | exact HB.out | apply below_alloc | apply pw_below_drewN | apply below_drew1) | exact HB.out)))); have n8_ := Aside0.mk (below_step (by repeat (first | (with_reducible first | exact HB.out | apply below_alloc | apply pw_below_drewN | apply below_drew1) | exact HB.out)) hb); clear HO532; clear HO535; clear HO538; clear HO542; clear HO546; clear HO550; clear HB; have HO532 := n0_; have HO535 := n1_; have HO538 := n2_; have HO542 := n3_; have HO546 := n4_; have HO550 := n5_; have HO555 := n6_; have HO557 := n7_; have HB := n8_; clear n0_ n1_ n2_ n3_ n4_ n5_ n6_ n7_ n8_; (try clear hb); (try clear hb2); (try clear hk); (try clear hi); (try clear ho0); (try clear ho1)) | ((with_reducible refine gate_callee (f := 35) rfl ?_); refine goesL_ (some 74) rfl rfl Tryd.func35 (by kernel_rfl) rfl #[.slice Ao19 t530.length co19, .int .i64 (wrap64 (Int.tmod (IntKind.u64.wrap (a2)) 700))] rfl (by (try simp only [List.map_toArray, List.map_cons, List.map_nil]); first | done | rfl | (simp only [List.length_drop, List.length_take]; rfl)) ?_; (with_reducible refine (nat_Right.calls _ _ t530 (wrap64 (Int.tmod (IntKind.u64.wrap (a2)) 700)) t558 t559 _ ?side1 ?side2 A10.out).mono ?_); (case side1 => repeat (first | exact (Kd.R_reads' HO532.out).2.2 | (with_reducible refine Kd.C_alloc ?_ _) | (with_reducible refine Kd.C_drewN ?_ _) | (with_reducible refine Kd.C_drew ?_))); (case side2 => exact (Kd.R_reads' HO532.out).2.1); rintro e w24 ⟨v560, rfl, ho0, hb⟩; refine ⟨_, rfl, ?_⟩; have n0_ := Aside0.mk (Kd.R_elder' (by (with_reducible repeat (first | apply Kd.R_alloc | apply Kd.R_drewN | apply Kd.R_drew)); exact HO532.out) (Kd.R_base ho0) hb); have n1_ := Aside0.mk (Kd.R_elder' (by (with_reducible repeat (first | apply Kd.R_alloc | apply Kd.R_drewN | apply Kd.R_drew)); exact HO535.out) (Kd.R_base ho0) hb); have n2_ := Aside0.mk (Kd.R_elder' (by (with_reducible repeat (first | apply Kd.R_alloc | apply Kd.R_drewN | apply Kd.R_drew)); exact HO538.out) (Kd.R_base ho0) hb); have n3_ := Aside0.mk (Kd.R_elder' (by (with_reducible repeat (first | apply Kd.R_alloc | apply Kd.R_drewN | apply Kd.R_drew)); exact HO542.out) (Kd.R_base ho0) hb); have n4_ := Aside0.mk (Kd.R_elder' (by (with_reducible repeat (first | apply Kd.R_alloc | apply Kd.R_drewN | apply Kd.R_drew)); exact HO546.out) (Kd.R_base ho0) hb); have n5_ := Aside0.mk (Kd.R_elder' (by (with_reducible repeat (first | apply Kd.R_alloc | apply Kd.R_drewN | apply Kd.R_drew)); exact HO550.out) (Kd.R_base ho0) hb); have n6_ := Aside0.mk (Kd.R_elder' (by (with_reducible repeat (first | apply Kd.R_alloc | apply Kd.R_drewN | apply Kd.R_drew)); exact HO555.out) (Kd.R_base ho0) hb); have n7_ := Aside0.mk (Kd.R_elder' (by (with_reducible repeat (first | apply Kd.R_alloc | apply Kd.R_drewN | apply Kd.R_drew)); exact HO557.out) (Kd.R_base ho0) hb); have n8_ := Aside0.mk (Kd.R_lower (Kd.R_new' (Kd.R_new' (Kd.R_new' (Kd.R_new' (Kd.R_new' (Kd.R_new' (Kd.R_new' (Kd.R_new' ho0 (Kd.R_lt (by (with_reducible repeat (first | apply Kd.R_alloc | apply Kd.R_drewN | apply Kd.R_drew)); exact HO532.out))) (Kd.R_lt (by (with_reducible repeat (first | apply Kd.R_alloc | apply Kd.R_drewN | apply Kd.R_drew)); exact HO535.out))) (Kd.R_lt (by (with_reducible repeat (first | apply Kd.R_alloc | apply Kd.R_drewN | apply Kd.R_drew)); exact HO538.out))) (Kd.R_lt (by (with_reducible repeat (first | apply Kd.R_alloc | apply Kd.R_drewN | apply Kd.R_drew)); exact HO542.out))) (Kd.R_lt (by (with_reducible repeat (first | apply Kd.R_alloc | apply Kd.R_drewN | apply Kd.R_drew)); exact HO546.out))) (Kd.R_lt (by (with_reducible repeat (first | apply Kd.R_alloc | apply Kd.R_drewN | apply Kd.R_drew)); exact HO550.out))) (Kd.R_lt (by (with_reducible repeat (first | apply Kd.R_alloc | apply Kd.R_drewN | apply Kd.R_drew)); exact HO555.out))) (Kd.R_lt (by (with_reducible repeat (first | apply Kd.R_alloc | apply Kd.R_drewN | apply Kd.R_drew)); exact HO557.out))) (below_size (by repeat (first | (with_reducible first | exact HB.out | apply below_alloc | apply pw_below_drewN | apply below_drew1) | exact HB.out)))); have n9_ := Aside0.mk (below_step (by repeat (first | (with_reducible first | exact HB.out | apply below_alloc | apply pw_below_drewN | apply below_drew1) | exact HB.out)) hb); clear HO532; clear HO535; clear HO538; clear HO542; clear HO546; clear HO550; clear HO555; clear HO557; clear HB; have HO532 := n0_; have HO535 := n1_; have HO538 := n2_; have HO542 := n3_; have HO546 := n4_; have HO550 := n5_; have HO555 := n6_; have HO557 := n7_; have HO561 := n8_; have HB := n9_; clear n0_ n1_ n2_ n3_ n4_ n5_ n6_ n7_ n8_ n9_; (try clear hb); (try clear hb2); (try clear hk); (try clear hi); (try clear ho0)) | ((with_reducible refine gate_callee (f := 36) rfl ?_); refine goesL_ (some 80) rfl rfl Tryd.func36 (by kernel_rfl) rfl #[.slice Ao19 t530.length co19, .int .i64 (wrap64 (Int.tmod (IntKind.u64.wrap (a2)) 700))] rfl (by (try simp only [List.map_toArray, List.map_cons, List.map_nil]); first | done | rfl | (simp only [List.length_drop, List.length_take]; rfl)) ?_; (with_reducible refine (nat_Low.calls _ _ t530 (wrap64 (Int.tmod (IntKind.u64.wrap (a2)) 700)) t562 t563 _ ?side1 ?side2 A11.out).mono ?_); (case side1 => repeat (first | exact (Kd.R_reads' HO532.out).2.2 | (with_reducible refine Kd.C_alloc ?_ _) | (with_reducible refine Kd.C_drewN ?_ _) | (with_reducible refine Kd.C_drew ?_))); (case side2 => exact (Kd.R_reads' HO532.out).2.1); rintro e w25 ⟨v564, rfl, ho0, hb⟩; refine ⟨_, rfl, ?_⟩; have n0_ := Aside0.mk (Kd.R_elder' (by (with_reducible repeat (first | apply Kd.R_alloc | apply Kd.R_drewN | apply Kd.R_drew)); exact HO532.out) (Kd.R_base ho0) hb); have n1_ := Aside0.mk (Kd.R_elder' (by (with_reducible repeat (first | apply Kd.R_alloc | apply Kd.R_drewN | apply Kd.R_drew)); exact HO535.out) (Kd.R_base ho0) hb); have n2_ := Aside0.mk (Kd.R_elder' (by (with_reducible repeat (first | apply Kd.R_alloc | apply Kd.R_drewN | apply Kd.R_drew)); exact HO538.out) (Kd.R_base ho0) hb); have n3_ := Aside0.mk (Kd.R_elder' (by (with_reducible repeat (first | apply Kd.R_alloc | apply Kd.R_drewN | apply Kd.R_drew)); exact HO542.out) (Kd.R_base ho0) hb); have n4_ := Aside0.mk (Kd.R_elder' (by (with_reducible repeat (first | apply Kd.R_alloc | apply Kd.R_drewN | apply Kd.R_drew)); exact HO546.out) (Kd.R_base ho0) hb); have n5_ := Aside0.mk (Kd.R_elder' (by (with_reducible repeat (first | apply Kd.R_alloc | apply Kd.R_drewN | apply Kd.R_drew)); exact HO550.out) (Kd.R_base ho0) hb); have n6_ := Aside0.mk (Kd.R_elder' (by (with_reducible repeat (first | apply Kd.R_alloc | apply Kd.R_drewN | apply Kd.R_drew)); exact HO555.out) (Kd.R_base ho0) hb); have n7_ := Aside0.mk (Kd.R_elder' (by (with_reducible repeat (first | apply Kd.R_alloc | apply Kd.R_drewN | apply Kd.R_drew)); exact HO557.out) (Kd.R_base ho0) hb); have n8_ := Aside0.mk (Kd.R_elder' (by (with_reducible repeat (first | apply Kd.R_alloc | apply Kd.R_drewN | apply Kd.R_drew)); exact HO561.out) (Kd.R_base ho0) hb); have n9_ := Aside0.mk (Kd.R_lower (Kd.R_new' (Kd.R_new' (Kd.R_new' (Kd.R_new' (Kd.R_new' (Kd.R_new' (Kd.R_new' (Kd.R_new' (Kd.R_new' ho0 (Kd.R_lt (by (with_reducible repeat (first | apply Kd.R_alloc | apply Kd.R_drewN | apply Kd.R_drew)); exact HO532.out))) (Kd.R_lt (by (with_reducible repeat (first | apply Kd.R_alloc | apply Kd.R_drewN | apply Kd.R_drew)); exact HO535.out))) (Kd.R_lt (by (with_reducible repeat (first | apply Kd.R_alloc | apply Kd.R_drewN | apply Kd.R_drew)); exact HO538.out))) (Kd.R_lt (by (with_reducible repeat (first | apply Kd.R_alloc | apply Kd.R_drewN | apply Kd.R_drew)); exact HO542.out))) (Kd.R_lt (by (with_reducible repeat (first | apply Kd.R_alloc | apply Kd.R_drewN | apply Kd.R_drew)); exact HO546.out))) (Kd.R_lt (by (with_reducible repeat (first | apply Kd.R_alloc | apply Kd.R_drewN | apply Kd.R_drew)); exact HO550.out))) (Kd.R_lt (by (with_reducible repeat (first | apply Kd.R_alloc | apply Kd.R_drewN | apply Kd.R_drew)); exact HO555.out))) (Kd.R_lt (by (with_reducible repeat (first | apply Kd.R_alloc | apply Kd.R_drewN | apply Kd.R_drew)); exact HO557.out))) (Kd.R_lt (by (with_reducible repeat (first | apply Kd.R_alloc | apply Kd.R_drewN | apply Kd.R_drew)); exact HO561.out))) (below_size (by repeat (first | (with_reducible first | exact HB.out | apply below_alloc | apply pw_below_drewN | apply below_drew1) | exact HB.out)))); have n10_ := Aside0.mk (below_step (by repeat (first | (with_reducible first | exact HB.out | apply below_alloc | apply pw_below_drewN | apply below_drew1) | exact HB.out)) hb); clear HO532; clear HO535; clear HO538; clear HO542; clear HO546; clear HO550; clear HO555; clear HO557; clear HO561; clear HB; have HO532 := n0_; have HO535 := n1_; have HO538 := n2_; have HO542 := n3_; have HO546 := n4_; have HO550 := n5_; have HO555 := n6_; have HO557 := n7_; have HO561 := n8_; have HO565 := n9_; have HB := n10_; clear n0_ n1_ n2_ n3_ n4_ n5_ n6_ n7_ n8_ n9_ n10_; (try clear hb); (try clear hb2); (try clear hk); (try clear hi); (try clear ho0)))
 (try simp only [Act.put, List.setIfInBounds_toArray, List.set_cons_zero, List.set_cons_succ])
 go_cut [122] (fun v122 wc => ∃ (kq : Nat) (x122_11 : Bool), v122 = .bool x122_11 ∧ Aside0 (reckonerlaw02_NatPowersOfTwo.j0 kq t530 t533 x122_11 = some r) ∧ Aside0 (kq ≤ k) ∧ Aside0 (Kd.R (Kd.int .u64) 36 wc w.heap.size (fun k_ => some k_ ≠ (v534 : Value).ownBlock) (.slice Ao19 t530.length co19) t530) ∧ Aside0 (Kd.R (Kd.int .u64) 36 wc w.heap.size (fun k_ => some k_ ≠ ((.slice Ao19 t530.length co19) : Value).ownBlock) v534 t533) ∧ Aside0 (Below w.heap.size w wc))
 case first => as_aux_lemma =>
  have H := HC12.out
  clear HC12
  by_cases c26 : t540 = 0
  ·rw [if_pos c26] at H
   have c26b0 : (t540 == 0) = true := beq_iff_eq.mpr c26
   have c26b1 : (t540 != 0) = false := bne_eq_false_iff_eq.mpr c26
   clear c26
   (first | rw [c26b0] | (simp only [i64_w, i32_w]; rw [c26b0]) | skip)
   by_cases c27 : t544 = 0
   ·rw [if_pos c27] at H
    have c27b0 : (t544 == 0) = true := beq_iff_eq.mpr c27
    have c27b1 : (t544 != 0) = false := bne_eq_false_iff_eq.mpr c27
    clear c27
    by_cases c28 : t548 = 0
    ·rw [if_pos c28] at H
     have c28b0 : (t548 == 0) = true := beq_iff_eq.mpr c28
     have c28b1 : (t548 != 0) = false := bne_eq_false_iff_eq.mpr c28
     clear c28
     by_cases c29 : t553 = 0
     ·rw [if_pos c29] at H
      have c29b0 : (t553 == 0) = true := beq_iff_eq.mpr c29
      have c29b1 : (t553 != 0) = false := bne_eq_false_iff_eq.mpr c29
      clear c29
      by_cases c30 : t559 = 0
      ·rw [if_pos c30] at H
       have c30b0 : (t559 == 0) = true := beq_iff_eq.mpr c30
       have c30b1 : (t559 != 0) = false := bne_eq_false_iff_eq.mpr c30
       clear c30
       by_cases c31 : t563 = 0
       ·rw [if_pos c31] at H
        have c31b0 : (t563 == 0) = true := beq_iff_eq.mpr c31
        have c31b1 : (t563 != 0) = false := bne_eq_false_iff_eq.mpr c31
        clear c31
        replace H := Option.bind_eq_some_iff.mp H
        obtain ⟨t566, A320, H⟩ := H
        replace H : (if t566 = 0 then ((nat_Cmp.f t551 t558).bind fun t567 => (if t567 = 0 then ((nat_Cmp.f t552 t562).bind fun t568 => (reckonerlaw02_NatPowersOfTwo.j0 k t530 t533 (t568 != 0))) else (reckonerlaw02_NatPowersOfTwo.j0 k t530 t533 true))) else (reckonerlaw02_NatPowersOfTwo.j0 k t530 t533 true)) = some r := H
        have A32 := Aside0.mk A320
        clear A320
        by_cases c33 : t566 = 0
        ·rw [if_pos c33] at H
         have c33b0 : (t566 == 0) = true := beq_iff_eq.mpr c33
         have c33b1 : (t566 != 0) = false := bne_eq_false_iff_eq.mpr c33
         clear c33
         replace H := Option.bind_eq_some_iff.mp H
         obtain ⟨t567, A340, H⟩ := H
         replace H : (if t567 = 0 then ((nat_Cmp.f t552 t562).bind fun t568 => (reckonerlaw02_NatPowersOfTwo.j0 k t530 t533 (t568 != 0))) else (reckonerlaw02_NatPowersOfTwo.j0 k t530 t533 true)) = some r := H
         have A34 := Aside0.mk A340
         clear A340
         by_cases c35 : t567 = 0
         ·rw [if_pos c35] at H
          have c35b0 : (t567 == 0) = true := beq_iff_eq.mpr c35
          have c35b1 : (t567 != 0) = false := bne_eq_false_iff_eq.mpr c35
          clear c35
          replace H := Option.bind_eq_some_iff.mp H
          obtain ⟨t568, A360, H⟩ := H
          replace H : (reckonerlaw02_NatPowersOfTwo.j0 k t530 t533 (t568 != 0)) = some r := H
          have A36 := Aside0.mk A360
          clear A360
          have H' := Aside0.mk H
          clear H
          obtain ⟨Ao37, co37, eo37⟩ := Kd.R_slice HO546.out
          subst eo37
          obtain ⟨Ao38, co38, eo38⟩ := Kd.R_slice HO550.out
          subst eo38
          go_wp2_with (first | (go_at_call 24; (with_reducible refine (nat_Cmp.calls _ _ t543 _ _ t547 t566 _ ?side1 ?side2 ?side3 ?side4 A32.out).mono ?_); (case side1 => repeat (first | exact (Kd.R_reads' HO546.out).2.2 | (with_reducible refine Kd.C_alloc ?_ _) | (with_reducible refine Kd.C_drewN ?_ _) | (with_reducible refine Kd.C_drew ?_))); (case side2 => exact (Kd.R_reads' HO546.out).2.1); (case side3 => repeat (first | exact (Kd.R_reads' HO550.out).2.2 | (with_reducible refine Kd.C_alloc ?_ _) | (with_reducible refine Kd.C_drewN ?_ _) | (with_reducible refine Kd.C_drew ?_))); (case side4 => exact (Kd.R_reads' HO550.out).2.1); rintro e w' ⟨rfl, ⟨nd, rfl⟩⟩; obtain ⟨Ao39, co39, eo39⟩ := Kd.R_slice HO555.out; subst eo39; obtain ⟨Ao40, co40, eo40⟩ := Kd.R_slice HO561.out; subst eo40) | (go_at_call 24; (with_reducible refine (nat_Cmp.calls _ _ t551 _ _ t558 t567 _ ?side1 ?side2 ?side3 ?side4 A34.out).mono ?_); (case side1 => repeat (first | exact (Kd.R_reads' HO555.out).2.2 | (with_reducible refine Kd.C_alloc ?_ _) | (with_reducible refine Kd.C_drewN ?_ _) | (with_reducible refine Kd.C_drew ?_))); (case side2 => exact (Kd.R_reads' HO555.out).2.1); (case side3 => repeat (first | exact (Kd.R_reads' HO561.out).2.2 | (with_reducible refine Kd.C_alloc ?_ _) | (with_reducible refine Kd.C_drewN ?_ _) | (with_reducible refine Kd.C_drew ?_))); (case side4 => exact (Kd.R_reads' HO561.out).2.1); rintro e w' ⟨rfl, ⟨nd, rfl⟩⟩; obtain ⟨Ao41, co41, eo41⟩ := Kd.R_slice HO557.out; subst eo41; obtain ⟨Ao42, co42, eo42⟩ := Kd.R_slice HO565.out; subst eo42) | (go_at_call 24; (with_reducible refine (nat_Cmp.calls _ _ t552 _ _ t562 t568 _ ?side1 ?side2 ?side3 ?side4 A36.out).mono ?_); (case side1 => repeat (first | exact (Kd.R_reads' HO557.out).2.2 | (with_reducible refine Kd.C_alloc ?_ _) | (with_reducible refine Kd.C_drewN ?_ _) | (with_reducible refine Kd.C_drew ?_))); (case side2 => exact (Kd.R_reads' HO557.out).2.1); (case side3 => repeat (first | exact (Kd.R_reads' HO565.out).2.2 | (with_reducible refine Kd.C_alloc ?_ _) | (with_reducible refine Kd.C_drewN ?_ _) | (with_reducible refine Kd.C_drew ?_))); (case side4 => exact (Kd.R_reads' HO565.out).2.1); rintro e w' ⟨rfl, ⟨nd, rfl⟩⟩))
          go_meet
          case rel => exact ⟨_, ((t568 != 0)), (by first | rfl | (simp; done) | (simp [*]; done)), H', ⟨by first | omega | exact Nat.le_refl _⟩, ⟨by (with_reducible repeat (first | apply Kd.R_alloc | apply Kd.R_drewN | apply Kd.R_drew)); exact Kd.R_mono HO532.out (fun _ hk => hk.1.1.1.1.1.1.1.1.2)⟩, ⟨by (with_reducible repeat (first | apply Kd.R_alloc | apply Kd.R_drewN | apply Kd.R_drew)); exact Kd.R_mono HO535.out (fun _ hk => hk.1.1.1.1.1.1.1.1.2)⟩, ⟨by repeat (first | (with_reducible first | exact HB.out | apply below_alloc | apply pw_below_drewN | apply below_drew1) | exact HB.out)⟩⟩
         ·rw [if_neg c35] at H
          have c35b0 : (t567 == 0) = false := beq_eq_false_iff_ne.mpr c35
          have c35b1 : (t567 != 0) = true := bne_iff_ne.mpr c35
          have H' := Aside0.mk H
          clear H
          obtain ⟨Ao43, co43, eo43⟩ := Kd.R_slice HO546.out
          subst eo43
          obtain ⟨Ao44, co44, eo44⟩ := Kd.R_slice HO550.out
          subst eo44
          go_wp2_with (first | (go_at_call 24; (with_reducible refine (nat_Cmp.calls _ _ t543 _ _ t547 t566 _ ?side1 ?side2 ?side3 ?side4 A32.out).mono ?_); (case side1 => repeat (first | exact (Kd.R_reads' HO546.out).2.2 | (with_reducible refine Kd.C_alloc ?_ _) | (with_reducible refine Kd.C_drewN ?_ _) | (with_reducible refine Kd.C_drew ?_))); (case side2 => exact (Kd.R_reads' HO546.out).2.1); (case side3 => repeat (first | exact (Kd.R_reads' HO550.out).2.2 | (with_reducible refine Kd.C_alloc ?_ _) | (with_reducible refine Kd.C_drewN ?_ _) | (with_reducible refine Kd.C_drew ?_))); (case side4 => exact (Kd.R_reads' HO550.out).2.1); rintro e w' ⟨rfl, ⟨nd, rfl⟩⟩; obtain ⟨Ao45, co45, eo45⟩ := Kd.R_slice HO555.out; subst eo45; obtain ⟨Ao46, co46, eo46⟩ := Kd.R_slice HO561.out; subst eo46) | (go_at_call 24; (with_reducible refine (nat_Cmp.calls _ _ t551 _ _ t558 t567 _ ?side1 ?side2 ?side3 ?side4 A34.out).mono ?_); (case side1 => repeat (first | exact (Kd.R_reads' HO555.out).2.2 | (with_reducible refine Kd.C_alloc ?_ _) | (with_reducible refine Kd.C_drewN ?_ _) | (with_reducible refine Kd.C_drew ?_))); (case side2 => exact (Kd.R_reads' HO555.out).2.1); (case side3 => repeat (first | exact (Kd.R_reads' HO561.out).2.2 | (with_reducible refine Kd.C_alloc ?_ _) | (with_reducible refine Kd.C_drewN ?_ _) | (with_reducible refine Kd.C_drew ?_))); (case side4 => exact (Kd.R_reads' HO561.out).2.1); rintro e w' ⟨rfl, ⟨nd, rfl⟩⟩))
          go_meet
          case rel => exact ⟨_, (true), (by first | rfl | (simp; done) | (simp [*]; done)), H', ⟨by first | omega | exact Nat.le_refl _⟩, ⟨by (with_reducible repeat (first | apply Kd.R_alloc | apply Kd.R_drewN | apply Kd.R_drew)); exact Kd.R_mono HO532.out (fun _ hk => hk.1.1.1.1.1.1.1.1.2)⟩, ⟨by (with_reducible repeat (first | apply Kd.R_alloc | apply Kd.R_drewN | apply Kd.R_drew)); exact Kd.R_mono HO535.out (fun _ hk => hk.1.1.1.1.1.1.1.1.2)⟩, ⟨by repeat (first | (with_reducible first | exact HB.out | apply below_alloc | apply pw_below_drewN | apply below_drew1) | exact HB.out)⟩⟩
        ·rw [if_neg c33] at H
         have c33b0 : (t566 == 0) = false := beq_eq_false_iff_ne.mpr c33
         have c33b1 : (t566 != 0) = true := bne_iff_ne.mpr c33
         have H' := Aside0.mk H
         clear H
         obtain ⟨Ao47, co47, eo47⟩ := Kd.R_slice HO546.out
         subst eo47
         obtain ⟨Ao48, co48, eo48⟩ := Kd.R_slice HO550.out
         subst eo48
         go_wp2_with (first | (go_at_call 24; (with_reducible refine (nat_Cmp.calls _ _ t543 _ _ t547 t566 _ ?side1 ?side2 ?side3 ?side4 A32.out).mono ?_); (case side1 => repeat (first | exact (Kd.R_reads' HO546.out).2.2 | (with_reducible refine Kd.C_alloc ?_ _) | (with_reducible refine Kd.C_drewN ?_ _) | (with_reducible refine Kd.C_drew ?_))); (case side2 => exact (Kd.R_reads' HO546.out).2.1); (case side3 => repeat (first | exact (Kd.R_reads' HO550.out).2.2 | (with_reducible refine Kd.C_alloc ?_ _) | (with_reducible refine Kd.C_drewN ?_ _) | (with_reducible refine Kd.C_drew ?_))); (case side4 => exact (Kd.R_reads' HO550.out).2.1); rintro e w' ⟨rfl, ⟨nd, rfl⟩⟩))
         go_meet
         case rel => exact ⟨_, (true), (by first | rfl | (simp; done) | (simp [*]; done)), H', ⟨by first | omega | exact Nat.le_refl _⟩, ⟨by (with_reducible repeat (first | apply Kd.R_alloc | apply Kd.R_drewN | apply Kd.R_drew)); exact Kd.R_mono HO532.out (fun _ hk => hk.1.1.1.1.1.1.1.1.2)⟩, ⟨by (with_reducible repeat (first | apply Kd.R_alloc | apply Kd.R_drewN | apply Kd.R_drew)); exact Kd.R_mono HO535.out (fun _ hk => hk.1.1.1.1.1.1.1.1.2)⟩, ⟨by repeat (first | (with_reducible first | exact HB.out | apply below_alloc | apply pw_below_drewN | apply below_drew1) | exact HB.out)⟩⟩
       ·rw [if_neg c31] at H
        have c31b0 : (t563 == 0) = false := beq_eq_false_iff_ne.mpr c31
        have c31b1 : (t563 != 0) = true := bne_iff_ne.mpr c31
        have H' := Aside0.mk H
        clear H
        go_wp2
        go_meet
        case rel => exact ⟨_, (true), (by first | rfl | (simp; done) | (simp [*]; done)), H', ⟨by first | omega | exact Nat.le_refl _⟩, ⟨by (with_reducible repeat (first | apply Kd.R_alloc | apply Kd.R_drewN | apply Kd.R_drew)); exact Kd.R_mono HO532.out (fun _ hk => hk.1.1.1.1.1.1.1.1.2)⟩, ⟨by (with_reducible repeat (first | apply Kd.R_alloc | apply Kd.R_drewN | apply Kd.R_drew)); exact Kd.R_mono HO535.out (fun _ hk => hk.1.1.1.1.1.1.1.1.2)⟩, ⟨by repeat (first | (with_reducible first | exact HB.out | apply below_alloc | apply pw_below_drewN | apply below_drew1) | exact HB.out)⟩⟩
      ·rw [if_neg c30] at H
       have c30b0 : (t559 == 0) = false := beq_eq_false_iff_ne.mpr c30
       have c30b1 : (t559 != 0) = true := bne_iff_ne.mpr c30
       have H' := Aside0.mk H
       clear H
       go_wp2
       go_meet
       case rel => exact ⟨_, (true), (by first | rfl | (simp; done) | (simp [*]; done)), H', ⟨by first | omega | exact Nat.le_refl _⟩, ⟨by (with_reducible repeat (first | apply Kd.R_alloc | apply Kd.R_drewN | apply Kd.R_drew)); exact Kd.R_mono HO532.out (fun _ hk => hk.1.1.1.1.1.1.1.1.2)⟩, ⟨by (with_reducible repeat (first | apply Kd.R_alloc | apply Kd.R_drewN | apply Kd.R_drew)); exact Kd.R_mono HO535.out (fun _ hk => hk.1.1.1.1.1.1.1.1.2)⟩, ⟨by repeat (first | (with_reducible first | exact HB.out | apply below_alloc | apply pw_below_drewN | apply below_drew1) | exact HB.out)⟩⟩
     ·rw [if_neg c29] at H
      have c29b0 : (t553 == 0) = false := beq_eq_false_iff_ne.mpr c29
      have c29b1 : (t553 != 0) = true := bne_iff_ne.mpr c29
      have H' := Aside0.mk H
      clear H
      go_wp2
      go_meet
      case rel => exact ⟨_, (true), (by first | rfl | (simp; done) | (simp [*]; done)), H', ⟨by first | omega | exact Nat.le_refl _⟩, ⟨by (with_reducible repeat (first | apply Kd.R_alloc | apply Kd.R_drewN | apply Kd.R_drew)); exact Kd.R_mono HO532.out (fun _ hk => hk.1.1.1.1.1.1.1.1.2)⟩, ⟨by (with_reducible repeat (first | apply Kd.R_alloc | apply Kd.R_drewN | apply Kd.R_drew)); exact Kd.R_mono HO535.out (fun _ hk => hk.1.1.1.1.1.1.1.1.2)⟩, ⟨by repeat (first | (with_reducible first | exact HB.out | apply below_alloc | apply pw_below_drewN | apply below_drew1) | exact HB.out)⟩⟩
    ·rw [if_neg c28] at H
     have c28b0 : (t548 == 0) = false := beq_eq_false_iff_ne.mpr c28
     have c28b1 : (t548 != 0) = true := bne_iff_ne.mpr c28
     have H' := Aside0.mk H
     clear H
     go_wp2
     go_meet
     case rel => exact ⟨_, (true), (by first | rfl | (simp; done) | (simp [*]; done)), H', ⟨by first | omega | exact Nat.le_refl _⟩, ⟨by (with_reducible repeat (first | apply Kd.R_alloc | apply Kd.R_drewN | apply Kd.R_drew)); exact Kd.R_mono HO532.out (fun _ hk => hk.1.1.1.1.1.1.1.1.2)⟩, ⟨by (with_reducible repeat (first | apply Kd.R_alloc | apply Kd.R_drewN | apply Kd.R_drew)); exact Kd.R_mono HO535.out (fun _ hk => hk.1.1.1.1.1.1.1.1.2)⟩, ⟨by repeat (first | (with_reducible first | exact HB.out | apply below_alloc | apply pw_below_drewN | apply below_drew1) | exact HB.out)⟩⟩
   ·rw [if_neg c27] at H
    have c27b0 : (t544 == 0) = false := beq_eq_false_iff_ne.mpr c27
    have c27b1 : (t544 != 0) = true := bne_iff_ne.mpr c27
    have H' := Aside0.mk H
    clear H
    go_wp2
    go_meet
    case rel => exact ⟨_, (true), (by first | rfl | (simp; done) | (simp [*]; done)), H', ⟨by first | omega | exact Nat.le_refl _⟩, ⟨by (with_reducible repeat (first | apply Kd.R_alloc | apply Kd.R_drewN | apply Kd.R_drew)); exact Kd.R_mono HO532.out (fun _ hk => hk.1.1.1.1.1.1.1.1.2)⟩, ⟨by (with_reducible repeat (first | apply Kd.R_alloc | apply Kd.R_drewN | apply Kd.R_drew)); exact Kd.R_mono HO535.out (fun _ hk => hk.1.1.1.1.1.1.1.1.2)⟩, ⟨by repeat (first | (with_reducible first | exact HB.out | apply below_alloc | apply pw_below_drewN | apply below_drew1) | exact HB.out)⟩⟩
  ·rw [if_neg c26] at H
   have c26b0 : (t540 == 0) = false := beq_eq_false_iff_ne.mpr c26
   have c26b1 : (t540 != 0) = true := bne_iff_ne.mpr c26
   (first | rw [c26b0] | (simp only [i64_w, i32_w]; rw [c26b0]) | skip)
   have H' := Aside0.mk H
   clear H
   go_wp2
   go_meet
   case rel => exact ⟨_, (true), (by first | rfl | (simp; done) | (simp [*]; done)), H', ⟨by first | omega | exact Nat.le_refl _⟩, ⟨by (with_reducible repeat (first | apply Kd.R_alloc | apply Kd.R_drewN | apply Kd.R_drew)); exact Kd.R_mono HO532.out (fun _ hk => hk.1.1.1.1.1.1.1.1.2)⟩, ⟨by (with_reducible repeat (first | apply Kd.R_alloc | apply Kd.R_drewN | apply Kd.R_drew)); exact Kd.R_mono HO535.out (fun _ hk => hk.1.1.1.1.1.1.1.1.2)⟩, ⟨by repeat (first | (with_reducible first | exact HB.out | apply below_alloc | apply pw_below_drewN | apply below_drew1) | exact HB.out)⟩⟩
 case rest => as_aux_lemma =>
  clear HC12
  try clear c1
  try clear c2
  try clear p2
  try clear c3
  try clear c6
  try clear p6
  try clear c8
  try clear c26
  try clear c26b0
  try clear c26b1
  try clear c27
  try clear c27b0
  try clear c27b1
  try clear c28
  try clear c28b0
  try clear c28b1
  try clear c29
  try clear c29b0
  try clear c29b1
  try clear c30
  try clear c30b0
  try clear c30b1
  try clear c31
  try clear c31b0
  try clear c31b1
  try clear c33
  try clear c33b0
  try clear c33b1
  try clear c34
  try clear c35
  try clear c35b0
  try clear c35b1
  try clear c36
  obtain ⟨kq, x122_11, rfl, HA, HJ11, HO_7, HO_8, HB⟩ := hcut
  cases kq with
  | zero => exact absurd HA.out (by simp [reckonerlaw02_NatPowersOfTwo.j0])
  | succ kj11 =>
   have H := HA.out
   clear HA
   simp only [reckonerlaw02_NatPowersOfTwo.j0] at H
   by_cases c49 : x122_11 = true
   ·subst c49
    have H1 : (none) = some r := by rw [if_pos rfl] at H; exact H
    clear H
    have H := H1
    clear H1
    exact absurd H (by simp)
   ·replace c49 := Bool.eq_false_iff.mpr c49
    subst c49
    have H1 : ((nat_And.f t530 t533).bind fun bt569 => ((nat_Or.f t530 t533).bind fun bt573 => ((nat_Xor.f t530 t533).bind fun bt577 => ((nat_Add.f bt569.1 bt573.1).bind fun bt581 => ((nat_Add.f t530 t533).bind fun bt585 => ((nat_Sub.f bt573.1 bt569.1).bind fun bt589 => ((nat_Mul.f t530 t533).bind fun bt593 => (if bt569.2 = 0 then (if bt573.2 = 0 then (if bt577.2 = 0 then (if bt581.2 = 0 then (if bt585.2 = 0 then (if bt589.2 = 0 then (if bt593.2 = 0 then ((nat_Cmp.f bt581.1 bt585.1).bind fun t597 => (if t597 = 0 then ((nat_Cmp.f bt577.1 bt589.1).bind fun t598 => (reckonerlaw02_NatPowersOfTwo.j1 kj11 t530 t533 bt593.1 (t598 != 0))) else (reckonerlaw02_NatPowersOfTwo.j1 kj11 t530 t533 bt593.1 true))) else (reckonerlaw02_NatPowersOfTwo.j1 kj11 t530 t533 bt593.1 true)) else (reckonerlaw02_NatPowersOfTwo.j1 kj11 t530 t533 bt593.1 true)) else (reckonerlaw02_NatPowersOfTwo.j1 kj11 t530 t533 bt593.1 true)) else (reckonerlaw02_NatPowersOfTwo.j1 kj11 t530 t533 bt593.1 true)) else (reckonerlaw02_NatPowersOfTwo.j1 kj11 t530 t533 bt593.1 true)) else (reckonerlaw02_NatPowersOfTwo.j1 kj11 t530 t533 bt593.1 true)) else (reckonerlaw02_NatPowersOfTwo.j1 kj11 t530 t533 bt593.1 true))))))))) = some r := by rw [if_neg (show ¬ (false = true) by decide)] at H; exact H
    clear H
    have H := H1
    clear H1
    replace H := Option.bind_eq_some_iff.mp H
    obtain ⟨⟨t569, t570⟩, A500, H⟩ := H
    replace H : ((nat_Or.f t530 t533).bind fun bt573 => ((nat_Xor.f t530 t533).bind fun bt577 => ((nat_Add.f t569 bt573.1).bind fun bt581 => ((nat_Add.f t530 t533).bind fun bt585 => ((nat_Sub.f bt573.1 t569).bind fun bt589 => ((nat_Mul.f t530 t533).bind fun bt593 => (if t570 = 0 then (if bt573.2 = 0 then (if bt577.2 = 0 then (if bt581.2 = 0 then (if bt585.2 = 0 then (if bt589.2 = 0 then (if bt593.2 = 0 then ((nat_Cmp.f bt581.1 bt585.1).bind fun t597 => (if t597 = 0 then ((nat_Cmp.f bt577.1 bt589.1).bind fun t598 => (reckonerlaw02_NatPowersOfTwo.j1 kj11 t530 t533 bt593.1 (t598 != 0))) else (reckonerlaw02_NatPowersOfTwo.j1 kj11 t530 t533 bt593.1 true))) else (reckonerlaw02_NatPowersOfTwo.j1 kj11 t530 t533 bt593.1 true)) else (reckonerlaw02_NatPowersOfTwo.j1 kj11 t530 t533 bt593.1 true)) else (reckonerlaw02_NatPowersOfTwo.j1 kj11 t530 t533 bt593.1 true)) else (reckonerlaw02_NatPowersOfTwo.j1 kj11 t530 t533 bt593.1 true)) else (reckonerlaw02_NatPowersOfTwo.j1 kj11 t530 t533 bt593.1 true)) else (reckonerlaw02_NatPowersOfTwo.j1 kj11 t530 t533 bt593.1 true)) else (reckonerlaw02_NatPowersOfTwo.j1 kj11 t530 t533 bt593.1 true)))))))) = some r := H
    have A50 := Aside0.mk A500
    clear A500
    replace H := Option.bind_eq_some_iff.mp H
    obtain ⟨⟨t573, t574⟩, A510, H⟩ := H
    replace H : ((nat_Xor.f t530 t533).bind fun bt577 => ((nat_Add.f t569 t573).bind fun bt581 => ((nat_Add.f t530 t533).bind fun bt585 => ((nat_Sub.f t573 t569).bind fun bt589 => ((nat_Mul.f t530 t533).bind fun bt593 => (if t570 = 0 then (if t574 = 0 then (if bt577.2 = 0 then (if bt581.2 = 0 then (if bt585.2 = 0 then (if bt589.2 = 0 then (if bt593.2 = 0 then ((nat_Cmp.f bt581.1 bt585.1).bind fun t597 => (if t597 = 0 then ((nat_Cmp.f bt577.1 bt589.1).bind fun t598 => (reckonerlaw02_NatPowersOfTwo.j1 kj11 t530 t533 bt593.1 (t598 != 0))) else (reckonerlaw02_NatPowersOfTwo.j1 kj11 t530 t533 bt593.1 true))) else (reckonerlaw02_NatPowersOfTwo.j1 kj11 t530 t533 bt593.1 true)) else (reckonerlaw02_NatPowersOfTwo.j1 kj11 t530 t533 bt593.1 true)) else (reckonerlaw02_NatPowersOfTwo.j1 kj11 t530 t533 bt593.1 true)) else (reckonerlaw02_NatPowersOfTwo.j1 kj11 t530 t533 bt593.1 true)) else (reckonerlaw02_NatPowersOfTwo.j1 kj11 t530 t533 bt593.1 true)) else (reckonerlaw02_NatPowersOfTwo.j1 kj11 t530 t533 bt593.1 true)) else (reckonerlaw02_NatPowersOfTwo.j1 kj11 t530 t533 bt593.1 true))))))) = some r := H
    have A51 := Aside0.mk A510
    clear A510
    replace H := Option.bind_eq_some_iff.mp H
    obtain ⟨⟨t577, t578⟩, A520, H⟩ := H
    replace H : ((nat_Add.f t569 t573).bind fun bt581 => ((nat_Add.f t530 t533).bind fun bt585 => ((nat_Sub.f t573 t569).bind fun bt589 => ((nat_Mul.f t530 t533).bind fun bt593 => (if t570 = 0 then (if t574 = 0 then (if t578 = 0 then (if bt581.2 = 0 then (if bt585.2 = 0 then (if bt589.2 = 0 then (if bt593.2 = 0 then ((nat_Cmp.f bt581.1 bt585.1).bind fun t597 => (if t597 = 0 then ((nat_Cmp.f t577 bt589.1).bind fun t598 => (reckonerlaw02_NatPowersOfTwo.j1 kj11 t530 t533 bt593.1 (t598 != 0))) else (reckonerlaw02_NatPowersOfTwo.j1 kj11 t530 t533 bt593.1 true))) else (reckonerlaw02_NatPowersOfTwo.j1 kj11 t530 t533 bt593.1 true)) else (reckonerlaw02_NatPowersOfTwo.j1 kj11 t530 t533 bt593.1 true)) else (reckonerlaw02_NatPowersOfTwo.j1 kj11 t530 t533 bt593.1 true)) else (reckonerlaw02_NatPowersOfTwo.j1 kj11 t530 t533 bt593.1 true)) else (reckonerlaw02_NatPowersOfTwo.j1 kj11 t530 t533 bt593.1 true)) else (reckonerlaw02_NatPowersOfTwo.j1 kj11 t530 t533 bt593.1 true)) else (reckonerlaw02_NatPowersOfTwo.j1 kj11 t530 t533 bt593.1 true)))))) = some r := H
    have A52 := Aside0.mk A520
    clear A520
    replace H := Option.bind_eq_some_iff.mp H
    obtain ⟨⟨t581, t582⟩, A530, H⟩ := H
    replace H : ((nat_Add.f t530 t533).bind fun bt585 => ((nat_Sub.f t573 t569).bind fun bt589 => ((nat_Mul.f t530 t533).bind fun bt593 => (if t570 = 0 then (if t574 = 0 then (if t578 = 0 then (if t582 = 0 then (if bt585.2 = 0 then (if bt589.2 = 0 then (if bt593.2 = 0 then ((nat_Cmp.f t581 bt585.1).bind fun t597 => (if t597 = 0 then ((nat_Cmp.f t577 bt589.1).bind fun t598 => (reckonerlaw02_NatPowersOfTwo.j1 kj11 t530 t533 bt593.1 (t598 != 0))) else (reckonerlaw02_NatPowersOfTwo.j1 kj11 t530 t533 bt593.1 true))) else (reckonerlaw02_NatPowersOfTwo.j1 kj11 t530 t533 bt593.1 true)) else (reckonerlaw02_NatPowersOfTwo.j1 kj11 t530 t533 bt593.1 true)) else (reckonerlaw02_NatPowersOfTwo.j1 kj11 t530 t533 bt593.1 true)) else (reckonerlaw02_NatPowersOfTwo.j1 kj11 t530 t533 bt593.1 true)) else (reckonerlaw02_NatPowersOfTwo.j1 kj11 t530 t533 bt593.1 true)) else (reckonerlaw02_NatPowersOfTwo.j1 kj11 t530 t533 bt593.1 true)) else (reckonerlaw02_NatPowersOfTwo.j1 kj11 t530 t533 bt593.1 true))))) = some r := H
    have A53 := Aside0.mk A530
    clear A530
    replace H := Option.bind_eq_some_iff.mp H
    obtain ⟨⟨t585, t586⟩, A540, H⟩ := H
    replace H : ((nat_Sub.f t573 t569).bind fun bt589 => ((nat_Mul.f t530 t533).bind fun bt593 => (if t570 = 0 then (if t574 = 0 then (if t578 = 0 then (if t582 = 0 then (if t586 = 0 then (if bt589.2 = 0 then (if bt593.2 = 0 then ((nat_Cmp.f t581 t585).bind fun t597 => (if t597 = 0 then ((nat_Cmp.f t577 bt589.1).bind fun t598 => (reckonerlaw02_NatPowersOfTwo.j1 kj11 t530 t533 bt593.1 (t598 != 0))) else (reckonerlaw02_NatPowersOfTwo.j1 kj11 t530 t533 bt593.1 true))) else (reckonerlaw02_NatPowersOfTwo.j1 kj11 t530 t533 bt593.1 true)) else (reckonerlaw02_NatPowersOfTwo.j1 kj11 t530 t533 bt593.1 true)) else (reckonerlaw02_NatPowersOfTwo.j1 kj11 t530 t533 bt593.1 true)) else (reckonerlaw02_NatPowersOfTwo.j1 kj11 t530 t533 bt593.1 true)) else (reckonerlaw02_NatPowersOfTwo.j1 kj11 t530 t533 bt593.1 true)) else (reckonerlaw02_NatPowersOfTwo.j1 kj11 t530 t533 bt593.1 true)) else (reckonerlaw02_NatPowersOfTwo.j1 kj11 t530 t533 bt593.1 true)))) = some r := H
    have A54 := Aside0.mk A540
    clear A540
    replace H := Option.bind_eq_some_iff.mp H
    obtain ⟨⟨t589, t590⟩, A550, H⟩ := H
    replace H : ((nat_Mul.f t530 t533).bind fun bt593 => (if t570 = 0 then (if t574 = 0 then (if t578 = 0 then (if t582 = 0 then (if t586 = 0 then (if t590 = 0 then (if bt593.2 = 0 then ((nat_Cmp.f t581 t585).bind fun t597 => (if t597 = 0 then ((nat_Cmp.f t577 t589).bind fun t598 => (reckonerlaw02_NatPowersOfTwo.j1 kj11 t530 t533 bt593.1 (t598 != 0))) else (reckonerlaw02_NatPowersOfTwo.j1 kj11 t530 t533 bt593.1 true))) else (reckonerlaw02_NatPowersOfTwo.j1 kj11 t530 t533 bt593.1 true)) else (reckonerlaw02_NatPowersOfTwo.j1 kj11 t530 t533 bt593.1 true)) else (reckonerlaw02_NatPowersOfTwo.j1 kj11 t530 t533 bt593.1 true)) else (reckonerlaw02_NatPowersOfTwo.j1 kj11 t530 t533 bt593.1 true)) else (reckonerlaw02_NatPowersOfTwo.j1 kj11 t530 t533 bt593.1 true)) else (reckonerlaw02_NatPowersOfTwo.j1 kj11 t530 t533 bt593.1 true)) else (reckonerlaw02_NatPowersOfTwo.j1 kj11 t530 t533 bt593.1 true))) = some r := H
    have A55 := Aside0.mk A550
    clear A550
    replace H := Option.bind_eq_some_iff.mp H
    obtain ⟨⟨t593, t594⟩, A560, H⟩ := H
    replace H : (if t570 = 0 then (if t574 = 0 then (if t578 = 0 then (if t582 = 0 then (if t586 = 0 then (if t590 = 0 then (if t594 = 0 then ((nat_Cmp.f t581 t585).bind fun t597 => (if t597 = 0 then ((nat_Cmp.f t577 t589).bind fun t598 => (reckonerlaw02_NatPowersOfTwo.j1 kj11 t530 t533 t593 (t598 != 0))) else (reckonerlaw02_NatPowersOfTwo.j1 kj11 t530 t533 t593 true))) else (reckonerlaw02_NatPowersOfTwo.j1 kj11 t530 t533 t593 true)) else (reckonerlaw02_NatPowersOfTwo.j1 kj11 t530 t533 t593 true)) else (reckonerlaw02_NatPowersOfTwo.j1 kj11 t530 t533 t593 true)) else (reckonerlaw02_NatPowersOfTwo.j1 kj11 t530 t533 t593 true)) else (reckonerlaw02_NatPowersOfTwo.j1 kj11 t530 t533 t593 true)) else (reckonerlaw02_NatPowersOfTwo.j1 kj11 t530 t533 t593 true)) else (reckonerlaw02_NatPowersOfTwo.j1 kj11 t530 t533 t593 true)) = some r := H
    have A56 := Aside0.mk A560
    clear A560
    have HC57 := Aside0.mk H
    clear H
    obtain ⟨Ao58, co58, eo58⟩ := Kd.R_slice HO_8.out
    subst eo58
    go_upto_region 18 with (first | ((with_reducible refine gate_callee (f := 14) rfl ?_); refine goesL_ (some 126) rfl rfl Tryd.func14 (by kernel_rfl) rfl #[.slice Ao19 t530.length co19, .slice Ao58 t533.length co58] rfl (by (try simp only [List.map_toArray, List.map_cons, List.map_nil]); first | done | rfl | (simp only [List.length_drop, List.length_take]; rfl)) ?_; (with_reducible refine (nat_And.calls _ _ t530 _ _ t533 t569 t570 _ ?side1 ?side2 ?side3 ?side4 (LaidJ.below HLj.out (by repeat (first | (with_reducible first | exact HB.out | apply below_alloc | apply pw_below_drewN | apply below_drew1) | exact HB.out))) A50.out).mono ?_); (case side1 => repeat (first | exact (Kd.R_reads' HO_7.out).2.2 | (with_reducible refine Kd.C_alloc ?_ _) | (with_reducible refine Kd.C_drewN ?_ _) | (with_reducible refine Kd.C_drew ?_))); (case side2 => exact (Kd.R_reads' HO_7.out).2.1); (case side3 => repeat (first | exact (Kd.R_reads' HO_8.out).2.2 | (with_reducible refine Kd.C_alloc ?_ _) | (with_reducible refine Kd.C_drewN ?_ _) | (with_reducible refine Kd.C_drew ?_))); (case side4 => exact (Kd.R_reads' HO_8.out).2.1); rintro e w59 ⟨v571, rfl, ho0, hb⟩; refine ⟨_, rfl, ?_⟩; have n0_ := Aside0.mk (Kd.R_elder' (by (with_reducible repeat (first | apply Kd.R_alloc | apply Kd.R_drewN | apply Kd.R_drew)); exact HO_7.out) (Kd.R_base ho0) hb); have n1_ := Aside0.mk (Kd.R_elder' (by (with_reducible repeat (first | apply Kd.R_alloc | apply Kd.R_drewN | apply Kd.R_drew)); exact HO_8.out) (Kd.R_base ho0) hb); have n2_ := Aside0.mk (Kd.R_lower (Kd.R_new' (Kd.R_new' ho0 (Kd.R_lt (by (with_reducible repeat (first | apply Kd.R_alloc | apply Kd.R_drewN | apply Kd.R_drew)); exact HO_7.out))) (Kd.R_lt (by (with_reducible repeat (first | apply Kd.R_alloc | apply Kd.R_drewN | apply Kd.R_drew)); exact HO_8.out))) (below_size (by repeat (first | (with_reducible first | exact HB.out | apply below_alloc | apply pw_below_drewN | apply below_drew1) | exact HB.out)))); have n3_ := Aside0.mk (below_step (by repeat (first | (with_reducible first | exact HB.out | apply below_alloc | apply pw_below_drewN | apply below_drew1) | exact HB.out)) hb); clear HO_7; clear HO_8; clear HB; have HO_7 := n0_; have HO_8 := n1_; have HO572 := n2_; have HB := n3_; clear n0_ n1_ n2_ n3_; (try clear hb); (try clear hb2); (try clear hk); (try clear hi); (try clear ho0)) | ((with_reducible refine gate_callee (f := 15) rfl ?_); refine goesL_ (some 132) rfl rfl Tryd.func15 (by kernel_rfl) rfl #[.slice Ao19 t530.length co19, .slice Ao58 t533.length co58] rfl (by (try simp only [List.map_toArray, List.map_cons, List.map_nil]); first | done | rfl | (simp only [List.length_drop, List.length_take]; rfl)) ?_; (with_reducible refine (nat_Or.calls _ _ t530 _ _ t533 t573 t574 _ ?side1 ?side2 ?side3 ?side4 (LaidJ.below HLj.out (by repeat (first | (with_reducible first | exact HB.out | apply below_alloc | apply pw_below_drewN | apply below_drew1) | exact HB.out))) A51.out).mono ?_); (case side1 => repeat (first | exact (Kd.R_reads' HO_7.out).2.2 | (with_reducible refine Kd.C_alloc ?_ _) | (with_reducible refine Kd.C_drewN ?_ _) | (with_reducible refine Kd.C_drew ?_))); (case side2 => exact (Kd.R_reads' HO_7.out).2.1); (case side3 => repeat (first | exact (Kd.R_reads' HO_8.out).2.2 | (with_reducible refine Kd.C_alloc ?_ _) | (with_reducible refine Kd.C_drewN ?_ _) | (with_reducible refine Kd.C_drew ?_))); (case side4 => exact (Kd.R_reads' HO_8.out).2.1); rintro e w60 ⟨v575, rfl, ho0, hb⟩; refine ⟨_, rfl, ?_⟩; have n0_ := Aside0.mk (Kd.R_elder' (by (with_reducible repeat (first | apply Kd.R_alloc | apply Kd.R_drewN | apply Kd.R_drew)); exact HO_7.out) (Kd.R_base ho0) hb); have n1_ := Aside0.mk (Kd.R_elder' (by (with_reducible repeat (first | apply Kd.R_alloc | apply Kd.R_drewN | apply Kd.R_drew)); exact HO_8.out) (Kd.R_base ho0) hb); have n2_ := Aside0.mk (Kd.R_elder' (by (with_reducible repeat (first | apply Kd.R_alloc | apply Kd.R_drewN | apply Kd.R_drew)); exact HO572.out) (Kd.R_base ho0) hb); have n3_ := Aside0.mk (Kd.R_lower (Kd.R_new' (Kd.R_new' (Kd.R_new' ho0 (Kd.R_lt (by (with_reducible repeat (first | apply Kd.R_alloc | apply Kd.R_drewN | apply Kd.R_drew)); exact HO_7.out))) (Kd.R_lt (by (with_reducible repeat (first | apply Kd.R_alloc | apply Kd.R_drewN | apply Kd.R_drew)); exact HO_8.out))) (Kd.R_lt (by (with_reducible repeat (first | apply Kd.R_alloc | apply Kd.R_drewN | apply Kd.R_drew)); exact HO572.out))) (below_size (by repeat (first | (with_reducible first | exact HB.out | apply below_alloc | apply pw_below_drewN | apply below_drew1) | exact HB.out)))); have n4_ := Aside0.mk (below_step (by repeat (first | (with_reducible first | exact HB.out | apply below_alloc | apply pw_below_drewN | apply below_drew1) | exact HB.out)) hb); clear HO_7; clear HO_8; clear HO572; clear HB; have HO_7 := n0_; have HO_8 := n1_; have HO572 := n2_; have HO576 := n3_; have HB := n4_; clear n0_ n1_ n2_ n3_ n4_; (try clear hb); (try clear hb2); (try clear hk); (try clear hi); (try clear ho0)) | ((with_reducible refine gate_callee (f := 16) rfl ?_); refine goesL_ (some 138) rfl rfl Tryd.func16 (by kernel_rfl) rfl #[.slice Ao19 t530.length co19, .slice Ao58 t533.length co58] rfl (by (try simp only [List.map_toArray, List.map_cons, List.map_nil]); first | done | rfl | (simp only [List.length_drop, List.length_take]; rfl)) ?_; (with_reducible refine (nat_Xor.calls _ _ t530 _ _ t533 t577 t578 _ ?side1 ?side2 ?side3 ?side4 (LaidJ.below HLj.out (by repeat (first | (with_reducible first | exact HB.out | apply below_alloc | apply pw_below_drewN | apply below_drew1) | exact HB.out))) A52.out).mono ?_); (case side1 => repeat (first | exact (Kd.R_reads' HO_7.out).2.2 | (with_reducible refine Kd.C_alloc ?_ _) | (with_reducible refine Kd.C_drewN ?_ _) | (with_reducible refine Kd.C_drew ?_))); (case side2 => exact (Kd.R_reads' HO_7.out).2.1); (case side3 => repeat (first | exact (Kd.R_reads' HO_8.out).2.2 | (with_reducible refine Kd.C_alloc ?_ _) | (with_reducible refine Kd.C_drewN ?_ _) | (with_reducible refine Kd.C_drew ?_))); (case side4 => exact (Kd.R_reads' HO_8.out).2.1); rintro e w61 ⟨v579, rfl, ho0, hb⟩; refine ⟨_, rfl, ?_⟩; have n0_ := Aside0.mk (Kd.R_elder' (by (with_reducible repeat (first | apply Kd.R_alloc | apply Kd.R_drewN | apply Kd.R_drew)); exact HO_7.out) (Kd.R_base ho0) hb); have n1_ := Aside0.mk (Kd.R_elder' (by (with_reducible repeat (first | apply Kd.R_alloc | apply Kd.R_drewN | apply Kd.R_drew)); exact HO_8.out) (Kd.R_base ho0) hb); have n2_ := Aside0.mk (Kd.R_elder' (by (with_reducible repeat (first | apply Kd.R_alloc | apply Kd.R_drewN | apply Kd.R_drew)); exact HO572.out) (Kd.R_base ho0) hb); have n3_ := Aside0.mk (Kd.R_elder' (by (with_reducible repeat (first | apply Kd.R_alloc | apply Kd.R_drewN | apply Kd.R_drew)); exact HO576.out) (Kd.R_base ho0) hb); have n4_ := Aside0.mk (Kd.R_lower (Kd.R_new' (Kd.R_new' (Kd.R_new' (Kd.R_new' ho0 (Kd.R_lt (by (with_reducible repeat (first | apply Kd.R_alloc | apply Kd.R_drewN | apply Kd.R_drew)); exact HO_7.out))) (Kd.R_lt (by (with_reducible repeat (first | apply Kd.R_alloc | apply Kd.R_drewN | apply Kd.R_drew)); exact HO_8.out))) (Kd.R_lt (by (with_reducible repeat (first | apply Kd.R_alloc | apply Kd.R_drewN | apply Kd.R_drew)); exact HO572.out))) (Kd.R_lt (by (with_reducible repeat (first | apply Kd.R_alloc | apply Kd.R_drewN | apply Kd.R_drew)); exact HO576.out))) (below_size (by repeat (first | (with_reducible first | exact HB.out | apply below_alloc | apply pw_below_drewN | apply below_drew1) | exact HB.out)))); have n5_ := Aside0.mk (below_step (by repeat (first | (with_reducible first | exact HB.out | apply below_alloc | apply pw_below_drewN | apply below_drew1) | exact HB.out)) hb); clear HO_7; clear HO_8; clear HO572; clear HO576; clear HB; have HO_7 := n0_; have HO_8 := n1_; have HO572 := n2_; have HO576 := n3_; have HO580 := n4_; have HB := n5_; clear n0_ n1_ n2_ n3_ n4_ n5_; (try clear hb); (try clear hb2); (try clear hk); (try clear hi); (try clear ho0); obtain ⟨Ao62, co62, eo62⟩ := Kd.R_slice HO572.out; subst eo62; obtain ⟨Ao63, co63, eo63⟩ := Kd.R_slice HO576.out; subst eo63) | ((with_reducible refine gate_callee (f := 29) rfl ?_); refine goesL_ (some 144) rfl rfl Tryd.func29 (by kernel_rfl) rfl #[.slice Ao62 t569.length co62, .slice Ao63 t573.length co63] rfl (by (try simp only [List.map_toArray, List.map_cons, List.map_nil]); first | done | rfl | (simp only [List.length_drop, List.length_take]; rfl)) ?_; (with_reducible refine (nat_Add.calls _ _ t569 _ _ t573 t581 t582 _ ?side1 ?side2 ?side3 ?side4 A53.out).mono ?_); (case side1 => repeat (first | exact (Kd.R_reads' HO572.out).2.2 | (with_reducible refine Kd.C_alloc ?_ _) | (with_reducible refine Kd.C_drewN ?_ _) | (with_reducible refine Kd.C_drew ?_))); (case side2 => exact (Kd.R_reads' HO572.out).2.1); (case side3 => repeat (first | exact (Kd.R_reads' HO576.out).2.2 | (with_reducible refine Kd.C_alloc ?_ _) | (with_reducible refine Kd.C_drewN ?_ _) | (with_reducible refine Kd.C_drew ?_))); (case side4 => exact (Kd.R_reads' HO576.out).2.1); rintro e w64 ⟨v583, rfl, ho0, hb⟩; refine ⟨_, rfl, ?_⟩; have n0_ := Aside0.mk (Kd.R_elder' (by (with_reducible repeat (first | apply Kd.R_alloc | apply Kd.R_drewN | apply Kd.R_drew)); exact HO_7.out) (Kd.R_base ho0) hb); have n1_ := Aside0.mk (Kd.R_elder' (by (with_reducible repeat (first | apply Kd.R_alloc | apply Kd.R_drewN | apply Kd.R_drew)); exact HO_8.out) (Kd.R_base ho0) hb); have n2_ := Aside0.mk (Kd.R_elder' (by (with_reducible repeat (first | apply Kd.R_alloc | apply Kd.R_drewN | apply Kd.R_drew)); exact HO572.out) (Kd.R_base ho0) hb); have n3_ := Aside0.mk (Kd.R_elder' (by (with_reducible repeat (first | apply Kd.R_alloc | apply Kd.R_drewN | apply Kd.R_drew)); exact HO576.out) (Kd.R_base ho0) hb); have n4_ := Aside0.mk (Kd.R_elder' (by (with_reducible repeat (first | apply Kd.R_alloc | apply Kd.R_drewN | apply Kd.R_drew)); exact HO580.out) (Kd.R_base ho0) hb); have n5_ := Aside0.mk (Kd.R_lower (Kd.R_new' (Kd.R_new' (Kd.R_new' (Kd.R_new' (Kd.R_new' ho0 (Kd.R_lt (by (with_reducible repeat (first | apply Kd.R_alloc | apply Kd.R_drewN | apply Kd.R_drew)); exact HO_7.out))) (Kd.R_lt (by (with_reducible repeat (first | apply Kd.R_alloc | apply Kd.R_drewN | apply Kd.R_drew)); exact HO_8.out))) (Kd.R_lt (by (with_reducible repeat (first | apply Kd.R_alloc | apply Kd.R_drewN | apply Kd.R_drew)); exact HO572.out))) (Kd.R_lt (by (with_reducible repeat (first | apply Kd.R_alloc | apply Kd.R_drewN | apply Kd.R_drew)); exact HO576.out))) (Kd.R_lt (by (with_reducible repeat (first | apply Kd.R_alloc | apply Kd.R_drewN | apply Kd.R_drew)); exact HO580.out))) (below_size (by repeat (first | (with_reducible first | exact HB.out | apply below_alloc | apply pw_below_drewN | apply below_drew1) | exact HB.out)))); have n6_ := Aside0.mk (below_step (by repeat (first | (with_reducible first | exact HB.out | apply below_alloc | apply pw_below_drewN | apply below_drew1) | exact HB.out)) hb); clear HO_7; clear HO_8; clear HO572; clear HO576; clear HO580; clear HB; have HO_7 := n0_; have HO_8 := n1_; have HO572 := n2_; have HO576 := n3_; have HO580 := n4_; have HO584 := n5_; have HB := n6_; clear n0_ n1_ n2_ n3_ n4_ n5_ n6_; (try clear hb); (try clear hb2); (try clear hk); (try clear hi); (try clear ho0)) | ((with_reducible refine gate_callee (f := 29) rfl ?_); refine goesL_ (some 150) rfl rfl Tryd.func29 (by kernel_rfl) rfl #[.slice Ao19 t530.length co19, .slice Ao58 t533.length co58] rfl (by (try simp only [List.map_toArray, List.map_cons, List.map_nil]); first | done | rfl | (simp only [List.length_drop, List.length_take]; rfl)) ?_; (with_reducible refine (nat_Add.calls _ _ t530 _ _ t533 t585 t586 _ ?side1 ?side2 ?side3 ?side4 A54.out).mono ?_); (case side1 => repeat (first | exact (Kd.R_reads' HO_7.out).2.2 | (with_reducible refine Kd.C_alloc ?_ _) | (with_reducible refine Kd.C_drewN ?_ _) | (with_reducible refine Kd.C_drew ?_))); (case side2 => exact (Kd.R_reads' HO_7.out).2.1); (case side3 => repeat (first | exact (Kd.R_reads' HO_8.out).2.2 | (with_reducible refine Kd.C_alloc ?_ _) | (with_reducible refine Kd.C_drewN ?_ _) | (with_reducible refine Kd.C_drew ?_))); (case side4 => exact (Kd.R_reads' HO_8.out).2.1); rintro e w65 ⟨v587, rfl, ho0, hb⟩; refine ⟨_, rfl, ?_⟩; have n0_ := Aside0.mk (Kd.R_elder' (by (with_reducible repeat (first | apply Kd.R_alloc | apply Kd.R_drewN | apply Kd.R_drew)); exact HO_7.out) (Kd.R_base ho0) hb); have n1_ := Aside0.mk (Kd.R_elder' (by (with_reducible repeat (first | apply Kd.R_alloc | apply Kd.R_drewN | apply Kd.R_drew)); exact HO_8.out) (Kd.R_base ho0) hb); have n2_ := Aside0.mk (Kd.R_elder' (by (with_reducible repeat (first | apply Kd.R_alloc | apply Kd.R_drewN | apply Kd.R_drew)); exact HO572.out) (Kd.R_base ho0) hb); have n3_ := Aside0.mk (Kd.R_elder' (by (with_reducible repeat (first | apply Kd.R_alloc | apply Kd.R_drewN | apply Kd.R_drew)); exact HO576.out) (Kd.R_base ho0) hb); have n4_ := Aside0.mk (Kd.R_elder' (by (with_reducible repeat (first | apply Kd.R_alloc | apply Kd.R_drewN | apply Kd.R_drew)); exact HO580.out) (Kd.R_base ho0) hb); have n5_ := Aside0.mk (Kd.R_elder' (by (with_reducible repeat (first | apply Kd.R_alloc | apply Kd.R_drewN | apply Kd.R_drew)); exact HO584.out) (Kd.R_base ho0) hb); have n6_ := Aside0.mk (Kd.R_lower (Kd.R_new' (Kd.R_new' (Kd.R_new' (Kd.R_new' (Kd.R_new' (Kd.R_new' ho0 (Kd.R_lt (by (with_reducible repeat (first | apply Kd.R_alloc | apply Kd.R_drewN | apply Kd.R_drew)); exact HO_7.out))) (Kd.R_lt (by (with_reducible repeat (first | apply Kd.R_alloc | apply Kd.R_drewN | apply Kd.R_drew)); exact HO_8.out))) (Kd.R_lt (by (with_reducible repeat (first | apply Kd.R_alloc | apply Kd.R_drewN | apply Kd.R_drew)); exact HO572.out))) (Kd.R_lt (by (with_reducible repeat (first | apply Kd.R_alloc | apply Kd.R_drewN | apply Kd.R_drew)); exact HO576.out))) (Kd.R_lt (by (with_reducible repeat (first | apply Kd.R_alloc | apply Kd.R_drewN | apply Kd.R_drew)); exact HO580.out))) (Kd.R_lt (by (with_reducible repeat (first | apply Kd.R_alloc | apply Kd.R_drewN | apply Kd.R_drew)); exact HO584.out))) (below_size (by repeat (first | (with_reducible first | exact HB.out | apply below_alloc | apply pw_below_drewN | apply below_drew1) | exact HB.out)))); have n7_ := Aside0.mk (below_step (by repeat (first | (with_reducible first | exact HB.out | apply below_alloc | apply pw_below_drewN | apply below_drew1) | exact HB.out)) hb); clear HO_7; clear HO_8; clear HO572; clear HO576; clear HO580; clear HO584; clear HB; have HO_7 := n0_; have HO_8 := n1_; have HO572 := n2_; have HO576 := n3_; have HO580 := n4_; have HO584 := n5_; have HO588 := n6_; have HB := n7_; clear n0_ n1_ n2_ n3_ n4_ n5_ n6_ n7_; (try clear hb); (try clear hb2); (try clear hk); (try clear hi); (try clear ho0)) | ((with_reducible refine gate_callee (f := 37) rfl ?_); refine goesL_ (some 156) rfl rfl Tryd.func37 (by kernel_rfl) rfl #[.slice Ao63 t573.length co63, .slice Ao62 t569.length co62] rfl (by (try simp only [List.map_toArray, List.map_cons, List.map_nil]); first | done | rfl | (simp only [List.length_drop, List.length_take]; rfl)) ?_; (with_reducible refine (nat_Sub.calls _ _ t573 _ _ t569 t589 t590 _ ?side1 ?side2 ?side3 ?side4 A55.out).mono ?_); (case side1 => repeat (first | exact (Kd.R_reads' HO576.out).2.2 | (with_reducible refine Kd.C_alloc ?_ _) | (with_reducible refine Kd.C_drewN ?_ _) | (with_reducible refine Kd.C_drew ?_))); (case side2 => exact (Kd.R_reads' HO576.out).2.1); (case side3 => repeat (first | exact (Kd.R_reads' HO572.out).2.2 | (with_reducible refine Kd.C_alloc ?_ _) | (with_reducible refine Kd.C_drewN ?_ _) | (with_reducible refine Kd.C_drew ?_))); (case side4 => exact (Kd.R_reads' HO572.out).2.1); rintro e w66 ⟨v591, rfl, ho0, hb⟩; refine ⟨_, rfl, ?_⟩; have n0_ := Aside0.mk (Kd.R_elder' (by (with_reducible repeat (first | apply Kd.R_alloc | apply Kd.R_drewN | apply Kd.R_drew)); exact HO_7.out) (Kd.R_base ho0) hb); have n1_ := Aside0.mk (Kd.R_elder' (by (with_reducible repeat (first | apply Kd.R_alloc | apply Kd.R_drewN | apply Kd.R_drew)); exact HO_8.out) (Kd.R_base ho0) hb); have n2_ := Aside0.mk (Kd.R_elder' (by (with_reducible repeat (first | apply Kd.R_alloc | apply Kd.R_drewN | apply Kd.R_drew)); exact HO572.out) (Kd.R_base ho0) hb); have n3_ := Aside0.mk (Kd.R_elder' (by (with_reducible repeat (first | apply Kd.R_alloc | apply Kd.R_drewN | apply Kd.R_drew)); exact HO576.out) (Kd.R_base ho0) hb); have n4_ := Aside0.mk (Kd.R_elder' (by (with_reducible repeat (first | apply Kd.R_alloc | apply Kd.R_drewN | apply Kd.R_drew)); exact HO580.out) (Kd.R_base ho0) hb); have n5_ := Aside0.mk (Kd.R_elder' (by (with_reducible repeat (first | apply Kd.R_alloc | apply Kd.R_drewN | apply Kd.R_drew)); exact HO584.out) (Kd.R_base ho0) hb); have n6_ := Aside0.mk (Kd.R_elder' (by (with_reducible repeat (first | apply Kd.R_alloc | apply Kd.R_drewN | apply Kd.R_drew)); exact HO588.out) (Kd.R_base ho0) hb); have n7_ := Aside0.mk (Kd.R_lower (Kd.R_new' (Kd.R_new' (Kd.R_new' (Kd.R_new' (Kd.R_new' (Kd.R_new' (Kd.R_new' ho0 (Kd.R_lt (by (with_reducible repeat (first | apply Kd.R_alloc | apply Kd.R_drewN | apply Kd.R_drew)); exact HO_7.out))) (Kd.R_lt (by (with_reducible repeat (first | apply Kd.R_alloc | apply Kd.R_drewN | apply Kd.R_drew)); exact HO_8.out))) (Kd.R_lt (by (with_reducible repeat (first | apply Kd.R_alloc | apply Kd.R_drewN | apply Kd.R_drew)); exact HO572.out))) (Kd.R_lt (by (with_reducible repeat (first | apply Kd.R_alloc | apply Kd.R_drewN | apply Kd.R_drew)); exact HO576.out))) (Kd.R_lt (by (with_reducible repeat (first | apply Kd.R_alloc | apply Kd.R_drewN | apply Kd.R_drew)); exact HO580.out))) (Kd.R_lt (by (with_reducible repeat (first | apply Kd.R_alloc | apply Kd.R_drewN | apply Kd.R_drew)); exact HO584.out))) (Kd.R_lt (by (with_reducible repeat (first | apply Kd.R_alloc | apply Kd.R_drewN | apply Kd.R_drew)); exact HO588.out))) (below_size (by repeat (first | (with_reducible first | exact HB.out | apply below_alloc | apply pw_below_drewN | apply below_drew1) | exact HB.out)))); have n8_ := Aside0.mk (below_step (by repeat (first | (with_reducible first | exact HB.out | apply below_alloc | apply pw_below_drewN | apply below_drew1) | exact HB.out)) hb); clear HO_7; clear HO_8; clear HO572; clear HO576; clear HO580; clear HO584; clear HO588; clear HB; have HO_7 := n0_; have HO_8 := n1_; have HO572 := n2_; have HO576 := n3_; have HO580 := n4_; have HO584 := n5_; have HO588 := n6_; have HO592 := n7_; have HB := n8_; clear n0_ n1_ n2_ n3_ n4_ n5_ n6_ n7_ n8_; (try clear hb); (try clear hb2); (try clear hk); (try clear hi); (try clear ho0)) | ((with_reducible refine gate_callee (f := 30) rfl ?_); refine goesL_ (some 162) rfl rfl Tryd.func30 (by kernel_rfl) rfl #[.slice Ao19 t530.length co19, .slice Ao58 t533.length co58] rfl (by (try simp only [List.map_toArray, List.map_cons, List.map_nil]); first | done | rfl | (simp only [List.length_drop, List.length_take]; rfl)) ?_; (with_reducible refine (nat_Mul.calls _ _ t530 _ _ t533 t593 t594 _ ?side1 ?side2 ?side3 ?side4 A56.out).mono ?_); (case side1 => repeat (first | exact (Kd.R_reads' HO_7.out).2.2 | (with_reducible refine Kd.C_alloc ?_ _) | (with_reducible refine Kd.C_drewN ?_ _) | (with_reducible refine Kd.C_drew ?_))); (case side2 => exact (Kd.R_reads' HO_7.out).2.1); (case side3 => repeat (first | exact (Kd.R_reads' HO_8.out).2.2 | (with_reducible refine Kd.C_alloc ?_ _) | (with_reducible refine Kd.C_drewN ?_ _) | (with_reducible refine Kd.C_drew ?_))); (case side4 => exact (Kd.R_reads' HO_8.out).2.1); rintro e w67 ⟨v595, rfl, ho0, hb⟩; refine ⟨_, rfl, ?_⟩; have n0_ := Aside0.mk (Kd.R_elder' (by (with_reducible repeat (first | apply Kd.R_alloc | apply Kd.R_drewN | apply Kd.R_drew)); exact HO_7.out) (Kd.R_base ho0) hb); have n1_ := Aside0.mk (Kd.R_elder' (by (with_reducible repeat (first | apply Kd.R_alloc | apply Kd.R_drewN | apply Kd.R_drew)); exact HO_8.out) (Kd.R_base ho0) hb); have n2_ := Aside0.mk (Kd.R_elder' (by (with_reducible repeat (first | apply Kd.R_alloc | apply Kd.R_drewN | apply Kd.R_drew)); exact HO572.out) (Kd.R_base ho0) hb); have n3_ := Aside0.mk (Kd.R_elder' (by (with_reducible repeat (first | apply Kd.R_alloc | apply Kd.R_drewN | apply Kd.R_drew)); exact HO576.out) (Kd.R_base ho0) hb); have n4_ := Aside0.mk (Kd.R_elder' (by (with_reducible repeat (first | apply Kd.R_alloc | apply Kd.R_drewN | apply Kd.R_drew)); exact HO580.out) (Kd.R_base ho0) hb); have n5_ := Aside0.mk (Kd.R_elder' (by (with_reducible repeat (first | apply Kd.R_alloc | apply Kd.R_drewN | apply Kd.R_drew)); exact HO584.out) (Kd.R_base ho0) hb); have n6_ := Aside0.mk (Kd.R_elder' (by (with_reducible repeat (first | apply Kd.R_alloc | apply Kd.R_drewN | apply Kd.R_drew)); exact HO588.out) (Kd.R_base ho0) hb); have n7_ := Aside0.mk (Kd.R_elder' (by (with_reducible repeat (first | apply Kd.R_alloc | apply Kd.R_drewN | apply Kd.R_drew)); exact HO592.out) (Kd.R_base ho0) hb); have n8_ := Aside0.mk (Kd.R_lower (Kd.R_new' (Kd.R_new' (Kd.R_new' (Kd.R_new' (Kd.R_new' (Kd.R_new' (Kd.R_new' (Kd.R_new' ho0 (Kd.R_lt (by (with_reducible repeat (first | apply Kd.R_alloc | apply Kd.R_drewN | apply Kd.R_drew)); exact HO_7.out))) (Kd.R_lt (by (with_reducible repeat (first | apply Kd.R_alloc | apply Kd.R_drewN | apply Kd.R_drew)); exact HO_8.out))) (Kd.R_lt (by (with_reducible repeat (first | apply Kd.R_alloc | apply Kd.R_drewN | apply Kd.R_drew)); exact HO572.out))) (Kd.R_lt (by (with_reducible repeat (first | apply Kd.R_alloc | apply Kd.R_drewN | apply Kd.R_drew)); exact HO576.out))) (Kd.R_lt (by (with_reducible repeat (first | apply Kd.R_alloc | apply Kd.R_drewN | apply Kd.R_drew)); exact HO580.out))) (Kd.R_lt (by (with_reducible repeat (first | apply Kd.R_alloc | apply Kd.R_drewN | apply Kd.R_drew)); exact HO584.out))) (Kd.R_lt (by (with_reducible repeat (first | apply Kd.R_alloc | apply Kd.R_drewN | apply Kd.R_drew)); exact HO588.out))) (Kd.R_lt (by (with_reducible repeat (first | apply Kd.R_alloc | apply Kd.R_drewN | apply Kd.R_drew)); exact HO592.out))) (below_size (by repeat (first | (with_reducible first | exact HB.out | apply below_alloc | apply pw_below_drewN | apply below_drew1) | exact HB.out)))); have n9_ := Aside0.mk (below_step (by repeat (first | (with_reducible first | exact HB.out | apply below_alloc | apply pw_below_drewN | apply below_drew1) | exact HB.out)) hb); clear HO_7; clear HO_8; clear HO572; clear HO576; clear HO580; clear HO584; clear HO588; clear HO592; clear HB; have HO_7 := n0_; have HO_8 := n1_; have HO572 := n2_; have HO576 := n3_; have HO580 := n4_; have HO584 := n5_; have HO588 := n6_; have HO592 := n7_; have HO596 := n8_; have HB := n9_; clear n0_ n1_ n2_ n3_ n4_ n5_ n6_ n7_ n8_ n9_; (try clear hb); (try clear hb2); (try clear hk); (try clear hi); (try clear ho0)))
    (try simp only [Act.put, List.setIfInBounds_toArray, List.set_cons_zero, List.set_cons_succ])
    go_cut [202] (fun v202 wc => ∃ (kq : Nat) (x202_56 : Bool), v202 = .bool x202_56 ∧ Aside0 (reckonerlaw02_NatPowersOfTwo.j1 kq t530 t533 t593 x202_56 = some r) ∧ Aside0 (kq ≤ kj11) ∧ Aside0 (Kd.R (Kd.int .u64) 36 wc w.heap.size (fun k_ => some k_ ≠ ((.slice Ao58 t533.length co58) : Value).ownBlock ∧ some k_ ≠ (v595 : Value).ownBlock) (.slice Ao19 t530.length co19) t530) ∧ Aside0 (Kd.R (Kd.int .u64) 36 wc w.heap.size (fun k_ => some k_ ≠ ((.slice Ao19 t530.length co19) : Value).ownBlock ∧ some k_ ≠ (v595 : Value).ownBlock) (.slice Ao58 t533.length co58) t533) ∧ Aside0 (Kd.R (Kd.int .u64) 36 wc w.heap.size (fun k_ => some k_ ≠ ((.slice Ao19 t530.length co19) : Value).ownBlock ∧ some k_ ≠ ((.slice Ao58 t533.length co58) : Value).ownBlock) v595 t593) ∧ Aside0 (Below w.heap.size w wc))
    case first => as_aux_lemma =>
     have H := HC57.out
     clear HC57
     by_cases c68 : t570 = 0
     ·rw [if_pos c68] at H
      have c68b0 : (t570 == 0) = true := beq_iff_eq.mpr c68
      have c68b1 : (t570 != 0) = false := bne_eq_false_iff_eq.mpr c68
      clear c68
      (first | rw [c68b0] | (simp only [i64_w, i32_w]; rw [c68b0]) | skip)
      by_cases c69 : t574 = 0
      ·rw [if_pos c69] at H
       have c69b0 : (t574 == 0) = true := beq_iff_eq.mpr c69
       have c69b1 : (t574 != 0) = false := bne_eq_false_iff_eq.mpr c69
       clear c69
       by_cases c70 : t578 = 0
       ·rw [if_pos c70] at H
        have c70b0 : (t578 == 0) = true := beq_iff_eq.mpr c70
        have c70b1 : (t578 != 0) = false := bne_eq_false_iff_eq.mpr c70
        clear c70
        by_cases c71 : t582 = 0
        ·rw [if_pos c71] at H
         have c71b0 : (t582 == 0) = true := beq_iff_eq.mpr c71
         have c71b1 : (t582 != 0) = false := bne_eq_false_iff_eq.mpr c71
         clear c71
         by_cases c72 : t586 = 0
         ·rw [if_pos c72] at H
          have c72b0 : (t586 == 0) = true := beq_iff_eq.mpr c72
          have c72b1 : (t586 != 0) = false := bne_eq_false_iff_eq.mpr c72
          clear c72
          by_cases c73 : t590 = 0
          ·rw [if_pos c73] at H
           have c73b0 : (t590 == 0) = true := beq_iff_eq.mpr c73
           have c73b1 : (t590 != 0) = false := bne_eq_false_iff_eq.mpr c73
           clear c73
           by_cases c74 : t594 = 0
           ·rw [if_pos c74] at H
            have c74b0 : (t594 == 0) = true := beq_iff_eq.mpr c74
            have c74b1 : (t594 != 0) = false := bne_eq_false_iff_eq.mpr c74
            clear c74
            replace H := Option.bind_eq_some_iff.mp H
            obtain ⟨t597, A750, H⟩ := H
            replace H : (if t597 = 0 then ((nat_Cmp.f t577 t589).bind fun t598 => (reckonerlaw02_NatPowersOfTwo.j1 kj11 t530 t533 t593 (t598 != 0))) else (reckonerlaw02_NatPowersOfTwo.j1 kj11 t530 t533 t593 true)) = some r := H
            have A75 := Aside0.mk A750
            clear A750
            by_cases c76 : t597 = 0
            ·rw [if_pos c76] at H
             have c76b0 : (t597 == 0) = true := beq_iff_eq.mpr c76
             have c76b1 : (t597 != 0) = false := bne_eq_false_iff_eq.mpr c76
             clear c76
             replace H := Option.bind_eq_some_iff.mp H
             obtain ⟨t598, A770, H⟩ := H
             replace H : (reckonerlaw02_NatPowersOfTwo.j1 kj11 t530 t533 t593 (t598 != 0)) = some r := H
             have A77 := Aside0.mk A770
             clear A770
             have H' := Aside0.mk H
             clear H
             obtain ⟨Ao78, co78, eo78⟩ := Kd.R_slice HO584.out
             subst eo78
             obtain ⟨Ao79, co79, eo79⟩ := Kd.R_slice HO588.out
             subst eo79
             go_wp2_with (first | (go_at_call 24; (with_reducible refine (nat_Cmp.calls _ _ t581 _ _ t585 t597 _ ?side1 ?side2 ?side3 ?side4 A75.out).mono ?_); (case side1 => repeat (first | exact (Kd.R_reads' HO584.out).2.2 | (with_reducible refine Kd.C_alloc ?_ _) | (with_reducible refine Kd.C_drewN ?_ _) | (with_reducible refine Kd.C_drew ?_))); (case side2 => exact (Kd.R_reads' HO584.out).2.1); (case side3 => repeat (first | exact (Kd.R_reads' HO588.out).2.2 | (with_reducible refine Kd.C_alloc ?_ _) | (with_reducible refine Kd.C_drewN ?_ _) | (with_reducible refine Kd.C_drew ?_))); (case side4 => exact (Kd.R_reads' HO588.out).2.1); rintro e w' ⟨rfl, ⟨nd, rfl⟩⟩; obtain ⟨Ao80, co80, eo80⟩ := Kd.R_slice HO580.out; subst eo80; obtain ⟨Ao81, co81, eo81⟩ := Kd.R_slice HO592.out; subst eo81) | (go_at_call 24; (with_reducible refine (nat_Cmp.calls _ _ t577 _ _ t589 t598 _ ?side1 ?side2 ?side3 ?side4 A77.out).mono ?_); (case side1 => repeat (first | exact (Kd.R_reads' HO580.out).2.2 | (with_reducible refine Kd.C_alloc ?_ _) | (with_reducible refine Kd.C_drewN ?_ _) | (with_reducible refine Kd.C_drew ?_))); (case side2 => exact (Kd.R_reads' HO580.out).2.1); (case side3 => repeat (first | exact (Kd.R_reads' HO592.out).2.2 | (with_reducible refine Kd.C_alloc ?_ _) | (with_reducible refine Kd.C_drewN ?_ _) | (with_reducible refine Kd.C_drew ?_))); (case side4 => exact (Kd.R_reads' HO592.out).2.1); rintro e w' ⟨rfl, ⟨nd, rfl⟩⟩))
             go_meet
             case rel => exact ⟨_, ((t598 != 0)), (by first | rfl | (simp; done) | (simp [*]; done)), H', ⟨by have := HJ11.out; first | omega | exact Nat.le_refl _⟩, ⟨by (with_reducible repeat (first | apply Kd.R_alloc | apply Kd.R_drewN | apply Kd.R_drew)); exact Kd.R_mono HO_7.out (fun _ hk => ⟨hk.1.1.1.1.1.1.1, hk.2⟩)⟩, ⟨by (with_reducible repeat (first | apply Kd.R_alloc | apply Kd.R_drewN | apply Kd.R_drew)); exact Kd.R_mono HO_8.out (fun _ hk => ⟨hk.1.1.1.1.1.1.1, hk.2⟩)⟩, ⟨by (with_reducible repeat (first | apply Kd.R_alloc | apply Kd.R_drewN | apply Kd.R_drew)); exact Kd.R_mono HO596.out (fun _ hk => ⟨hk.1.1.1.1.1.1.1.2, hk.1.1.1.1.1.1.2⟩)⟩, ⟨by repeat (first | (with_reducible first | exact HB.out | apply below_alloc | apply pw_below_drewN | apply below_drew1) | exact HB.out)⟩⟩
            ·rw [if_neg c76] at H
             have c76b0 : (t597 == 0) = false := beq_eq_false_iff_ne.mpr c76
             have c76b1 : (t597 != 0) = true := bne_iff_ne.mpr c76
             have H' := Aside0.mk H
             clear H
             obtain ⟨Ao82, co82, eo82⟩ := Kd.R_slice HO584.out
             subst eo82
             obtain ⟨Ao83, co83, eo83⟩ := Kd.R_slice HO588.out
             subst eo83
             go_wp2_with (first | (go_at_call 24; (with_reducible refine (nat_Cmp.calls _ _ t581 _ _ t585 t597 _ ?side1 ?side2 ?side3 ?side4 A75.out).mono ?_); (case side1 => repeat (first | exact (Kd.R_reads' HO584.out).2.2 | (with_reducible refine Kd.C_alloc ?_ _) | (with_reducible refine Kd.C_drewN ?_ _) | (with_reducible refine Kd.C_drew ?_))); (case side2 => exact (Kd.R_reads' HO584.out).2.1); (case side3 => repeat (first | exact (Kd.R_reads' HO588.out).2.2 | (with_reducible refine Kd.C_alloc ?_ _) | (with_reducible refine Kd.C_drewN ?_ _) | (with_reducible refine Kd.C_drew ?_))); (case side4 => exact (Kd.R_reads' HO588.out).2.1); rintro e w' ⟨rfl, ⟨nd, rfl⟩⟩))
             go_meet
             case rel => exact ⟨_, (true), (by first | rfl | (simp; done) | (simp [*]; done)), H', ⟨by have := HJ11.out; first | omega | exact Nat.le_refl _⟩, ⟨by (with_reducible repeat (first | apply Kd.R_alloc | apply Kd.R_drewN | apply Kd.R_drew)); exact Kd.R_mono HO_7.out (fun _ hk => ⟨hk.1.1.1.1.1.1.1, hk.2⟩)⟩, ⟨by (with_reducible repeat (first | apply Kd.R_alloc | apply Kd.R_drewN | apply Kd.R_drew)); exact Kd.R_mono HO_8.out (fun _ hk => ⟨hk.1.1.1.1.1.1.1, hk.2⟩)⟩, ⟨by (with_reducible repeat (first | apply Kd.R_alloc | apply Kd.R_drewN | apply Kd.R_drew)); exact Kd.R_mono HO596.out (fun _ hk => ⟨hk.1.1.1.1.1.1.1.2, hk.1.1.1.1.1.1.2⟩)⟩, ⟨by repeat (first | (with_reducible first | exact HB.out | apply below_alloc | apply pw_below_drewN | apply below_drew1) | exact HB.out)⟩⟩
           ·rw [if_neg c74] at H
            have c74b0 : (t594 == 0) = false := beq_eq_false_iff_ne.mpr c74
            have c74b1 : (t594 != 0) = true := bne_iff_ne.mpr c74
            have H' := Aside0.mk H
            clear H
            go_wp2
            go_meet
            case rel => exact ⟨_, (true), (by first | rfl | (simp; done) | (simp [*]; done)), H', ⟨by have := HJ11.out; first | omega | exact Nat.le_refl _⟩, ⟨by (with_reducible repeat (first | apply Kd.R_alloc | apply Kd.R_drewN | apply Kd.R_drew)); exact Kd.R_mono HO_7.out (fun _ hk => ⟨hk.1.1.1.1.1.1.1, hk.2⟩)⟩, ⟨by (with_reducible repeat (first | apply Kd.R_alloc | apply Kd.R_drewN | apply Kd.R_drew)); exact Kd.R_mono HO_8.out (fun _ hk => ⟨hk.1.1.1.1.1.1.1, hk.2⟩)⟩, ⟨by (with_reducible repeat (first | apply Kd.R_alloc | apply Kd.R_drewN | apply Kd.R_drew)); exact Kd.R_mono HO596.out (fun _ hk => ⟨hk.1.1.1.1.1.1.1.2, hk.1.1.1.1.1.1.2⟩)⟩, ⟨by repeat (first | (with_reducible first | exact HB.out | apply below_alloc | apply pw_below_drewN | apply below_drew1) | exact HB.out)⟩⟩
          ·rw [if_neg c73] at H
           have c73b0 : (t590 == 0) = false := beq_eq_false_iff_ne.mpr c73
           have c73b1 : (t590 != 0) = true := bne_iff_ne.mpr c73
           have H' := Aside0.mk H
           clear H
           go_wp2
           go_meet
           case rel => exact ⟨_, (true), (by first | rfl | (simp; done) | (simp [*]; done)), H', ⟨by have := HJ11.out; first | omega | exact Nat.le_refl _⟩, ⟨by (with_reducible repeat (first | apply Kd.R_alloc | apply Kd.R_drewN | apply Kd.R_drew)); exact Kd.R_mono HO_7.out (fun _ hk => ⟨hk.1.1.1.1.1.1.1, hk.2⟩)⟩, ⟨by (with_reducible repeat (first | apply Kd.R_alloc | apply Kd.R_drewN | apply Kd.R_drew)); exact Kd.R_mono HO_8.out (fun _ hk => ⟨hk.1.1.1.1.1.1.1, hk.2⟩)⟩, ⟨by (with_reducible repeat (first | apply Kd.R_alloc | apply Kd.R_drewN | apply Kd.R_drew)); exact Kd.R_mono HO596.out (fun _ hk => ⟨hk.1.1.1.1.1.1.1.2, hk.1.1.1.1.1.1.2⟩)⟩, ⟨by repeat (first | (with_reducible first | exact HB.out | apply below_alloc | apply pw_below_drewN | apply below_drew1) | exact HB.out)⟩⟩
         ·rw [if_neg c72] at H
          have c72b0 : (t586 == 0) = false := beq_eq_false_iff_ne.mpr c72
          have c72b1 : (t586 != 0) = true := bne_iff_ne.mpr c72
          have H' := Aside0.mk H
          clear H
          go_wp2
          go_meet
          case rel => exact ⟨_, (true), (by first | rfl | (simp; done) | (simp [*]; done)), H', ⟨by have := HJ11.out; first | omega | exact Nat.le_refl _⟩, ⟨by (with_reducible repeat (first | apply Kd.R_alloc | apply Kd.R_drewN | apply Kd.R_drew)); exact Kd.R_mono HO_7.out (fun _ hk => ⟨hk.1.1.1.1.1.1.1, hk.2⟩)⟩, ⟨by (with_reducible repeat (first | apply Kd.R_alloc | apply Kd.R_drewN | apply Kd.R_drew)); exact Kd.R_mono HO_8.out (fun _ hk => ⟨hk.1.1.1.1.1.1.1, hk.2⟩)⟩, ⟨by (with_reducible repeat (first | apply Kd.R_alloc | apply Kd.R_drewN | apply Kd.R_drew)); exact Kd.R_mono HO596.out (fun _ hk => ⟨hk.1.1.1.1.1.1.1.2, hk.1.1.1.1.1.1.2⟩)⟩, ⟨by repeat (first | (with_reducible first | exact HB.out | apply below_alloc | apply pw_below_drewN | apply below_drew1) | exact HB.out)⟩⟩
        ·rw [if_neg c71] at H
         have c71b0 : (t582 == 0) = false := beq_eq_false_iff_ne.mpr c71
         have c71b1 : (t582 != 0) = true := bne_iff_ne.mpr c71
         have H' := Aside0.mk H
         clear H
         go_wp2
         go_meet
         case rel => exact ⟨_, (true), (by first | rfl | (simp; done) | (simp [*]; done)), H', ⟨by have := HJ11.out; first | omega | exact Nat.le_refl _⟩, ⟨by (with_reducible repeat (first | apply Kd.R_alloc | apply Kd.R_drewN | apply Kd.R_drew)); exact Kd.R_mono HO_7.out (fun _ hk => ⟨hk.1.1.1.1.1.1.1, hk.2⟩)⟩, ⟨by (with_reducible repeat (first | apply Kd.R_alloc | apply Kd.R_drewN | apply Kd.R_drew)); exact Kd.R_mono HO_8.out (fun _ hk => ⟨hk.1.1.1.1.1.1.1, hk.2⟩)⟩, ⟨by (with_reducible repeat (first | apply Kd.R_alloc | apply Kd.R_drewN | apply Kd.R_drew)); exact Kd.R_mono HO596.out (fun _ hk => ⟨hk.1.1.1.1.1.1.1.2, hk.1.1.1.1.1.1.2⟩)⟩, ⟨by repeat (first | (with_reducible first | exact HB.out | apply below_alloc | apply pw_below_drewN | apply below_drew1) | exact HB.out)⟩⟩
       ·rw [if_neg c70] at H
        have c70b0 : (t578 == 0) = false := beq_eq_false_iff_ne.mpr c70
        have c70b1 : (t578 != 0) = true := bne_iff_ne.mpr c70
        have H' := Aside0.mk H
        clear H
        go_wp2
        go_meet
        case rel => exact ⟨_, (true), (by first | rfl | (simp; done) | (simp [*]; done)), H', ⟨by have := HJ11.out; first | omega | exact Nat.le_refl _⟩, ⟨by (with_reducible repeat (first | apply Kd.R_alloc | apply Kd.R_drewN | apply Kd.R_drew)); exact Kd.R_mono HO_7.out (fun _ hk => ⟨hk.1.1.1.1.1.1.1, hk.2⟩)⟩, ⟨by (with_reducible repeat (first | apply Kd.R_alloc | apply Kd.R_drewN | apply Kd.R_drew)); exact Kd.R_mono HO_8.out (fun _ hk => ⟨hk.1.1.1.1.1.1.1, hk.2⟩)⟩, ⟨by (with_reducible repeat (first | apply Kd.R_alloc | apply Kd.R_drewN | apply Kd.R_drew)); exact Kd.R_mono HO596.out (fun _ hk => ⟨hk.1.1.1.1.1.1.1.2, hk.1.1.1.1.1.1.2⟩)⟩, ⟨by repeat (first | (with_reducible first | exact HB.out | apply below_alloc | apply pw_below_drewN | apply below_drew1) | exact HB.out)⟩⟩
      ·rw [if_neg c69] at H
       have c69b0 : (t574 == 0) = false := beq_eq_false_iff_ne.mpr c69
       have c69b1 : (t574 != 0) = true := bne_iff_ne.mpr c69
       have H' := Aside0.mk H
       clear H
       go_wp2
       go_meet
       case rel => exact ⟨_, (true), (by first | rfl | (simp; done) | (simp [*]; done)), H', ⟨by have := HJ11.out; first | omega | exact Nat.le_refl _⟩, ⟨by (with_reducible repeat (first | apply Kd.R_alloc | apply Kd.R_drewN | apply Kd.R_drew)); exact Kd.R_mono HO_7.out (fun _ hk => ⟨hk.1.1.1.1.1.1.1, hk.2⟩)⟩, ⟨by (with_reducible repeat (first | apply Kd.R_alloc | apply Kd.R_drewN | apply Kd.R_drew)); exact Kd.R_mono HO_8.out (fun _ hk => ⟨hk.1.1.1.1.1.1.1, hk.2⟩)⟩, ⟨by (with_reducible repeat (first | apply Kd.R_alloc | apply Kd.R_drewN | apply Kd.R_drew)); exact Kd.R_mono HO596.out (fun _ hk => ⟨hk.1.1.1.1.1.1.1.2, hk.1.1.1.1.1.1.2⟩)⟩, ⟨by repeat (first | (with_reducible first | exact HB.out | apply below_alloc | apply pw_below_drewN | apply below_drew1) | exact HB.out)⟩⟩
     ·rw [if_neg c68] at H
      have c68b0 : (t570 == 0) = false := beq_eq_false_iff_ne.mpr c68
      have c68b1 : (t570 != 0) = true := bne_iff_ne.mpr c68
      (first | rw [c68b0] | (simp only [i64_w, i32_w]; rw [c68b0]) | skip)
      have H' := Aside0.mk H
      clear H
      go_wp2
      go_meet
      case rel => exact ⟨_, (true), (by first | rfl | (simp; done) | (simp [*]; done)), H', ⟨by have := HJ11.out; first | omega | exact Nat.le_refl _⟩, ⟨by (with_reducible repeat (first | apply Kd.R_alloc | apply Kd.R_drewN | apply Kd.R_drew)); exact Kd.R_mono HO_7.out (fun _ hk => ⟨hk.1.1.1.1.1.1.1, hk.2⟩)⟩, ⟨by (with_reducible repeat (first | apply Kd.R_alloc | apply Kd.R_drewN | apply Kd.R_drew)); exact Kd.R_mono HO_8.out (fun _ hk => ⟨hk.1.1.1.1.1.1.1, hk.2⟩)⟩, ⟨by (with_reducible repeat (first | apply Kd.R_alloc | apply Kd.R_drewN | apply Kd.R_drew)); exact Kd.R_mono HO596.out (fun _ hk => ⟨hk.1.1.1.1.1.1.1.2, hk.1.1.1.1.1.1.2⟩)⟩, ⟨by repeat (first | (with_reducible first | exact HB.out | apply below_alloc | apply pw_below_drewN | apply below_drew1) | exact HB.out)⟩⟩
    case rest => as_aux_lemma =>
     clear HC57
     try clear c1
     try clear c2
     try clear p2
     try clear c3
     try clear c4
     try clear c6
     try clear p6
     try clear c7
     try clear c8
     try clear c14
     try clear c15
     try clear c16
     try clear c26
     try clear c26b0
     try clear c26b1
     try clear c27
     try clear c27b0
     try clear c27b1
     try clear c28
     try clear c28b0
     try clear c28b1
     try clear c29
     try clear c29b0
     try clear c29b1
     try clear c30
     try clear c30b0
     try clear c30b1
     try clear c31
     try clear c31b0
     try clear c31b1
     try clear c33
     try clear c33b0
     try clear c33b1
     try clear c34
     try clear c35
     try clear c35b0
     try clear c35b1
     try clear c36
     try clear c37
     try clear c49
     try clear p64
     try clear c68
     try clear c68b0
     try clear c68b1
     try clear c69
     try clear c69b0
     try clear c69b1
     try clear c70
     try clear c70b0
     try clear c70b1
     try clear c71
     try clear c71b0
     try clear c71b1
     try clear c72
     try clear c72b0
     try clear c72b1
     try clear c73
     try clear c73b0
     try clear c73b1
     try clear c74
     try clear c74b0
     try clear c74b1
     try clear c76
     try clear c76b0
     try clear c76b1
     try clear p2
     try clear p6
     obtain ⟨kq, x202_56, rfl, HA, HJ56, HO_7, HO_8, HO_34, HB⟩ := hcut
     cases kq with
     | zero => exact absurd HA.out (by simp [reckonerlaw02_NatPowersOfTwo.j1])
     | succ kj56 =>
      have H := HA.out
      clear HA
      simp only [reckonerlaw02_NatPowersOfTwo.j1] at H
      by_cases c84 : x202_56 = true
      ·subst c84
       have H1 : (none) = some r := by rw [if_pos rfl] at H; exact H
       clear H
       have H := H1
       clear H1
       exact absurd H (by simp)
      ·replace c84 := Bool.eq_false_iff.mpr c84
       subst c84
       have H1 : ((nat_Len.f t530).bind fun t599 => (if t599 = 0 then (reckonerlaw02_NatPowersOfTwo.j2 kj56 t530 t533 t593 true) else ((nat_Len.f t533).bind fun t600 => (reckonerlaw02_NatPowersOfTwo.j2 kj56 t530 t533 t593 (t600 == 0))))) = some r := by rw [if_neg (show ¬ (false = true) by decide)] at H; exact H
       clear H
       have H := H1
       clear H1
       have HC85 := Aside0.mk H
       clear H
       go_upto_region 20 with (fail)
       go_cut [210] (fun v210 wc => ∃ (kq : Nat) (x210_84 : Bool), v210 = .bool x210_84 ∧ Aside0 (reckonerlaw02_NatPowersOfTwo.j2 kq t530 t533 t593 x210_84 = some r) ∧ Aside0 (kq ≤ kj56) ∧ Aside0 (Kd.R (Kd.int .u64) 36 wc w.heap.size (fun k_ => some k_ ≠ ((.slice Ao58 t533.length co58) : Value).ownBlock ∧ some k_ ≠ (v595 : Value).ownBlock) (.slice Ao19 t530.length co19) t530) ∧ Aside0 (Kd.R (Kd.int .u64) 36 wc w.heap.size (fun k_ => some k_ ≠ ((.slice Ao19 t530.length co19) : Value).ownBlock ∧ some k_ ≠ (v595 : Value).ownBlock) (.slice Ao58 t533.length co58) t533) ∧ Aside0 (Kd.R (Kd.int .u64) 36 wc w.heap.size (fun k_ => some k_ ≠ ((.slice Ao19 t530.length co19) : Value).ownBlock ∧ some k_ ≠ ((.slice Ao58 t533.length co58) : Value).ownBlock) v595 t593) ∧ Aside0 (Below w.heap.size w wc))
       case first => as_aux_lemma =>
        have H := HC85.out
        clear HC85
        replace H := Option.bind_eq_some_iff.mp H
        obtain ⟨t599, A860, H⟩ := H
        replace H : (if t599 = 0 then (reckonerlaw02_NatPowersOfTwo.j2 kj56 t530 t533 t593 true) else ((nat_Len.f t533).bind fun t600 => (reckonerlaw02_NatPowersOfTwo.j2 kj56 t530 t533 t593 (t600 == 0)))) = some r := H
        have A86 := Aside0.mk A860
        clear A860
        by_cases c87 : t599 = 0
        ·rw [if_pos c87] at H
         have c87b0 : (t599 == 0) = true := beq_iff_eq.mpr c87
         have c87b1 : (t599 != 0) = false := bne_eq_false_iff_eq.mpr c87
         clear c87
         (first | rw [c87b0] | (simp only [i64_w, i32_w]; rw [c87b0]) | skip)
         have H' := Aside0.mk H
         clear H
         go_wp2_with (first | ((with_reducible refine gate_callee (f := 26) rfl ?_); refine goesL_ (some 204) rfl rfl Tryd.func26 (by kernel_rfl) rfl #[.slice Ao19 t530.length co19] rfl (by (try simp only [List.map_toArray, List.map_cons, List.map_nil]); first | done | rfl | (simp only [List.length_drop, List.length_take]; rfl)) ?_; (with_reducible refine (nat_Len.calls _ _ t530 t599 _ ?side1 ?side2 A86.out).mono ?_); (case side1 => repeat (first | exact (Kd.R_reads' HO_7.out).2.2 | (with_reducible refine Kd.C_alloc ?_ _) | (with_reducible refine Kd.C_drewN ?_ _) | (with_reducible refine Kd.C_drew ?_))); (case side2 => exact (Kd.R_reads' HO_7.out).2.1); rintro e w' ⟨rfl, ⟨nd, rfl⟩⟩; refine ⟨_, rfl, ?_⟩))
         go_meet
         case rel => exact ⟨_, (true), (by first | rfl | (simp; done) | (simp [*]; done)), H', ⟨by have := HJ11.out; have := HJ56.out; first | omega | exact Nat.le_refl _⟩, ⟨by (with_reducible repeat (first | apply Kd.R_alloc | apply Kd.R_drewN | apply Kd.R_drew)); exact HO_7.out⟩, ⟨by (with_reducible repeat (first | apply Kd.R_alloc | apply Kd.R_drewN | apply Kd.R_drew)); exact HO_8.out⟩, ⟨by (with_reducible repeat (first | apply Kd.R_alloc | apply Kd.R_drewN | apply Kd.R_drew)); exact HO_34.out⟩, ⟨by repeat (first | (with_reducible first | exact HB.out | apply below_alloc | apply pw_below_drewN | apply below_drew1) | exact HB.out)⟩⟩
        ·rw [if_neg c87] at H
         have c87b0 : (t599 == 0) = false := beq_eq_false_iff_ne.mpr c87
         have c87b1 : (t599 != 0) = true := bne_iff_ne.mpr c87
         (first | rw [c87b0] | (simp only [i64_w, i32_w]; rw [c87b0]) | skip)
         replace H := Option.bind_eq_some_iff.mp H
         obtain ⟨t600, A880, H⟩ := H
         replace H : (reckonerlaw02_NatPowersOfTwo.j2 kj56 t530 t533 t593 (t600 == 0)) = some r := H
         have A88 := Aside0.mk A880
         clear A880
         have H' := Aside0.mk H
         clear H
         go_wp2_with (first | ((with_reducible refine gate_callee (f := 26) rfl ?_); refine goesL_ (some 204) rfl rfl Tryd.func26 (by kernel_rfl) rfl #[.slice Ao19 t530.length co19] rfl (by (try simp only [List.map_toArray, List.map_cons, List.map_nil]); first | done | rfl | (simp only [List.length_drop, List.length_take]; rfl)) ?_; (with_reducible refine (nat_Len.calls _ _ t530 t599 _ ?side1 ?side2 A86.out).mono ?_); (case side1 => repeat (first | exact (Kd.R_reads' HO_7.out).2.2 | (with_reducible refine Kd.C_alloc ?_ _) | (with_reducible refine Kd.C_drewN ?_ _) | (with_reducible refine Kd.C_drew ?_))); (case side2 => exact (Kd.R_reads' HO_7.out).2.1); rintro e w' ⟨rfl, ⟨nd, rfl⟩⟩; refine ⟨_, rfl, ?_⟩) | (go_at_call 26; (with_reducible refine (nat_Len.calls _ _ t533 t600 _ ?side1 ?side2 A88.out).mono ?_); (case side1 => repeat (first | exact (Kd.R_reads' HO_8.out).2.2 | (with_reducible refine Kd.C_alloc ?_ _) | (with_reducible refine Kd.C_drewN ?_ _) | (with_reducible refine Kd.C_drew ?_))); (case side2 => exact (Kd.R_reads' HO_8.out).2.1); rintro e w' ⟨rfl, ⟨nd, rfl⟩⟩))
         go_meet
         case rel => exact ⟨_, ((t600 == 0)), (by first | rfl | (simp; done) | (simp [*]; done)), H', ⟨by have := HJ11.out; have := HJ56.out; first | omega | exact Nat.le_refl _⟩, ⟨by (with_reducible repeat (first | apply Kd.R_alloc | apply Kd.R_drewN | apply Kd.R_drew)); exact HO_7.out⟩, ⟨by (with_reducible repeat (first | apply Kd.R_alloc | apply Kd.R_drewN | apply Kd.R_drew)); exact HO_8.out⟩, ⟨by (with_reducible repeat (first | apply Kd.R_alloc | apply Kd.R_drewN | apply Kd.R_drew)); exact HO_34.out⟩, ⟨by repeat (first | (with_reducible first | exact HB.out | apply below_alloc | apply pw_below_drewN | apply below_drew1) | exact HB.out)⟩⟩
       case rest => as_aux_lemma =>
        clear HC85
        try clear c1
        try clear c2
        try clear p2
        try clear c3
        try clear c4
        try clear c6
        try clear p6
        try clear c7
        try clear c8
        try clear c14
        try clear c15
        try clear c16
        try clear c26
        try clear c26b0
        try clear c26b1
        try clear c27
        try clear c27b0
        try clear c27b1
        try clear c28
        try clear c28b0
        try clear c28b1
        try clear c29
        try clear c29b0
        try clear c29b1
        try clear c30
        try clear c30b0
        try clear c30b1
        try clear c31
        try clear c31b0
        try clear c31b1
        try clear c33
        try clear c33b0
        try clear c33b1
        try clear c34
        try clear c35
        try clear c35b0
        try clear c35b1
        try clear c36
        try clear c37
        try clear c49
        try clear p64
        try clear c68
        try clear c68b0
        try clear c68b1
        try clear c69
        try clear c69b0
        try clear c69b1
        try clear c70
        try clear c70b0
        try clear c70b1
        try clear c71
        try clear c71b0
        try clear c71b1
        try clear c72
        try clear c72b0
        try clear c72b1
        try clear c73
        try clear c73b0
        try clear c73b1
        try clear c74
        try clear c74b0
        try clear c74b1
        try clear c76
        try clear c76b0
        try clear c76b1
        try clear c84
        try clear c87
        try clear c87b0
        try clear c87b1
        try clear p2
        try clear p6
        try clear p64
        obtain ⟨kq, x210_84, rfl, HA, HJ84, HO_7, HO_8, HO_34, HB⟩ := hcut
        cases kq with
        | zero => exact absurd HA.out (by simp [reckonerlaw02_NatPowersOfTwo.j2])
        | succ kj84 =>
         have H := HA.out
         clear HA
         simp only [reckonerlaw02_NatPowersOfTwo.j2] at H
         by_cases c89 : x210_84 = true
         ·subst c89
          have H1 : ((nat_Len.f t593).bind fun t601 => (if t601 = 0 then ((reckonerlaw02_awake.f kj84).bind fun t602 => (some t602)) else (none))) = some r := by rw [if_pos rfl] at H; exact H
          clear H
          have H := H1
          clear H1
          replace H := Option.bind_eq_some_iff.mp H
          obtain ⟨t601, A900, H⟩ := H
          replace H : (if t601 = 0 then ((reckonerlaw02_awake.f kj84).bind fun t602 => (some t602)) else (none)) = some r := H
          have A90 := Aside0.mk A900
          clear A900
          by_cases c91 : t601 = 0
          ·rw [if_pos c91] at H
           have c91b0 : (t601 == 0) = true := beq_iff_eq.mpr c91
           have c91b1 : (t601 != 0) = false := bne_eq_false_iff_eq.mpr c91
           clear c91
           replace H := Option.bind_eq_some_iff.mp H
           obtain ⟨t602, A920, H⟩ := H
           replace H : (some t602) = some r := H
           have A92 := Aside0.mk A920
           clear A920
           obtain rfl := Option.some.inj H
           obtain ⟨Ao93, co93, eo93⟩ := Kd.R_slice HO_34.out
           subst eo93
           go_wp2_with (first | ((with_reducible refine gate_callee (f := 26) rfl ?_); refine goesL_ (some 212) rfl rfl Tryd.func26 (by kernel_rfl) rfl #[.slice Ao93 t593.length co93] rfl (by (try simp only [List.map_toArray, List.map_cons, List.map_nil]); first | done | rfl | (simp only [List.length_drop, List.length_take]; rfl)) ?_; (with_reducible refine (nat_Len.calls _ _ t593 t601 _ ?side1 ?side2 A90.out).mono ?_); (case side1 => repeat (first | exact (Kd.R_reads' HO_34.out).2.2 | (with_reducible refine Kd.C_alloc ?_ _) | (with_reducible refine Kd.C_drewN ?_ _) | (with_reducible refine Kd.C_drew ?_))); (case side2 => exact (Kd.R_reads' HO_34.out).2.1); rintro e w' ⟨rfl, ⟨nd, rfl⟩⟩; refine ⟨_, rfl, ?_⟩) | (go_at_call 18; (with_reducible refine (reckonerlaw02_awake.calls kj84  t602 _ A92.out).mono ?_); rintro e w94 ⟨rfl, hb⟩; have n0_ := Aside0.mk (Kd.R_below (by (with_reducible repeat (first | apply Kd.R_alloc | apply Kd.R_drewN | apply Kd.R_drew)); exact HO_7.out) hb); have n1_ := Aside0.mk (Kd.R_below (by (with_reducible repeat (first | apply Kd.R_alloc | apply Kd.R_drewN | apply Kd.R_drew)); exact HO_8.out) hb); have n2_ := Aside0.mk (Kd.R_below (by (with_reducible repeat (first | apply Kd.R_alloc | apply Kd.R_drewN | apply Kd.R_drew)); exact HO_34.out) hb); have n3_ := Aside0.mk (below_step (by repeat (first | (with_reducible first | exact HB.out | apply below_alloc | apply pw_below_drewN | apply below_drew1) | exact HB.out)) hb); clear HO_7; clear HO_8; clear HO_34; clear HB; have HO_7 := n0_; have HO_8 := n1_; have HO_34 := n2_; have HB := n3_; clear n0_ n1_ n2_ n3_; (try clear hb); (try clear hb2); (try clear hk); (try clear hi)))
           go_ret
           exact ⟨by first | rfl | (simp [errW_none, errW_some] <;> rfl) | (simp [*, errW_none, errW_some] <;> rfl), by repeat (first | (with_reducible first | exact HB.out | apply below_alloc | apply pw_below_drewN | apply below_drew1) | exact HB.out)⟩
          ·rw [if_neg c91] at H
           exact absurd H (by simp)
         ·replace c89 := Bool.eq_false_iff.mpr c89
          subst c89
          have H1 : ((nat_Len.f t593).bind fun t603 => ((nat_Len.f t530).bind fun t604 => ((nat_Len.f t533).bind fun t605 => (if t603 = (wrap64 (t604 + t605)) then ((reckonerlaw02_awake.f kj84).bind fun t606 => (some t606)) else (if t603 = (wrap64 ((wrap64 (t604 + t605)) - 1)) then ((reckonerlaw02_awake.f kj84).bind fun t607 => (some t607)) else (none)))))) = some r := by rw [if_neg (show ¬ (false = true) by decide)] at H; exact H
          clear H
          have H := H1
          clear H1
          replace H := Option.bind_eq_some_iff.mp H
          obtain ⟨t603, A950, H⟩ := H
          replace H : ((nat_Len.f t530).bind fun t604 => ((nat_Len.f t533).bind fun t605 => (if t603 = (wrap64 (t604 + t605)) then ((reckonerlaw02_awake.f kj84).bind fun t606 => (some t606)) else (if t603 = (wrap64 ((wrap64 (t604 + t605)) - 1)) then ((reckonerlaw02_awake.f kj84).bind fun t607 => (some t607)) else (none))))) = some r := H
          have A95 := Aside0.mk A950
          clear A950
          replace H := Option.bind_eq_some_iff.mp H
          obtain ⟨t604, A960, H⟩ := H
          replace H : ((nat_Len.f t533).bind fun t605 => (if t603 = (wrap64 (t604 + t605)) then ((reckonerlaw02_awake.f kj84).bind fun t606 => (some t606)) else (if t603 = (wrap64 ((wrap64 (t604 + t605)) - 1)) then ((reckonerlaw02_awake.f kj84).bind fun t607 => (some t607)) else (none)))) = some r := H
          have A96 := Aside0.mk A960
          clear A960
          replace H := Option.bind_eq_some_iff.mp H
          obtain ⟨t605, A970, H⟩ := H
          replace H : (if t603 = (wrap64 (t604 + t605)) then ((reckonerlaw02_awake.f kj84).bind fun t606 => (some t606)) else (if t603 = (wrap64 ((wrap64 (t604 + t605)) - 1)) then ((reckonerlaw02_awake.f kj84).bind fun t607 => (some t607)) else (none))) = some r := H
          have A97 := Aside0.mk A970
          clear A970
          by_cases c98 : t603 = (wrap64 (t604 + t605))
          ·rw [if_pos c98] at H
           have c98b0 : (t603 == (wrap64 (t604 + t605))) = true := beq_iff_eq.mpr c98
           have c98b1 : (t603 != (wrap64 (t604 + t605))) = false := bne_eq_false_iff_eq.mpr c98
           clear c98
           replace H := Option.bind_eq_some_iff.mp H
           obtain ⟨t606, A990, H⟩ := H
           replace H : (some t606) = some r := H
           have A99 := Aside0.mk A990
           clear A990
           obtain rfl := Option.some.inj H
           obtain ⟨Ao100, co100, eo100⟩ := Kd.R_slice HO_34.out
           subst eo100
           go_wp2_with (first | ((with_reducible refine gate_callee (f := 26) rfl ?_); refine goesL_ (some 218) rfl rfl Tryd.func26 (by kernel_rfl) rfl #[.slice Ao100 t593.length co100] rfl (by (try simp only [List.map_toArray, List.map_cons, List.map_nil]); first | done | rfl | (simp only [List.length_drop, List.length_take]; rfl)) ?_; (with_reducible refine (nat_Len.calls _ _ t593 t603 _ ?side1 ?side2 A95.out).mono ?_); (case side1 => repeat (first | exact (Kd.R_reads' HO_34.out).2.2 | (with_reducible refine Kd.C_alloc ?_ _) | (with_reducible refine Kd.C_drewN ?_ _) | (with_reducible refine Kd.C_drew ?_))); (case side2 => exact (Kd.R_reads' HO_34.out).2.1); rintro e w' ⟨rfl, ⟨nd, rfl⟩⟩; refine ⟨_, rfl, ?_⟩) | ((with_reducible refine gate_callee (f := 26) rfl ?_); refine goesL_ (some 220) rfl rfl Tryd.func26 (by kernel_rfl) rfl #[.slice Ao19 t530.length co19] rfl (by (try simp only [List.map_toArray, List.map_cons, List.map_nil]); first | done | rfl | (simp only [List.length_drop, List.length_take]; rfl)) ?_; (with_reducible refine (nat_Len.calls _ _ t530 t604 _ ?side1 ?side2 A96.out).mono ?_); (case side1 => repeat (first | exact (Kd.R_reads' HO_7.out).2.2 | (with_reducible refine Kd.C_alloc ?_ _) | (with_reducible refine Kd.C_drewN ?_ _) | (with_reducible refine Kd.C_drew ?_))); (case side2 => exact (Kd.R_reads' HO_7.out).2.1); rintro e w' ⟨rfl, ⟨nd, rfl⟩⟩; refine ⟨_, rfl, ?_⟩) | ((with_reducible refine gate_callee (f := 26) rfl ?_); refine goesL_ (some 222) rfl rfl Tryd.func26 (by kernel_rfl) rfl #[.slice Ao58 t533.length co58] rfl (by (try simp only [List.map_toArray, List.map_cons, List.map_nil]); first | done | rfl | (simp only [List.length_drop, List.length_take]; rfl)) ?_; (with_reducible refine (nat_Len.calls _ _ t533 t605 _ ?side1 ?side2 A97.out).mono ?_); (case side1 => repeat (first | exact (Kd.R_reads' HO_8.out).2.2 | (with_reducible refine Kd.C_alloc ?_ _) | (with_reducible refine Kd.C_drewN ?_ _) | (with_reducible refine Kd.C_drew ?_))); (case side2 => exact (Kd.R_reads' HO_8.out).2.1); rintro e w' ⟨rfl, ⟨nd, rfl⟩⟩; refine ⟨_, rfl, ?_⟩) | (go_at_call 18; (with_reducible refine (reckonerlaw02_awake.calls kj84  t606 _ A99.out).mono ?_); rintro e w101 ⟨rfl, hb⟩; have n0_ := Aside0.mk (Kd.R_below (by (with_reducible repeat (first | apply Kd.R_alloc | apply Kd.R_drewN | apply Kd.R_drew)); exact HO_7.out) hb); have n1_ := Aside0.mk (Kd.R_below (by (with_reducible repeat (first | apply Kd.R_alloc | apply Kd.R_drewN | apply Kd.R_drew)); exact HO_8.out) hb); have n2_ := Aside0.mk (Kd.R_below (by (with_reducible repeat (first | apply Kd.R_alloc | apply Kd.R_drewN | apply Kd.R_drew)); exact HO_34.out) hb); have n3_ := Aside0.mk (below_step (by repeat (first | (with_reducible first | exact HB.out | apply below_alloc | apply pw_below_drewN | apply below_drew1) | exact HB.out)) hb); clear HO_7; clear HO_8; clear HO_34; clear HB; have HO_7 := n0_; have HO_8 := n1_; have HO_34 := n2_; have HB := n3_; clear n0_ n1_ n2_ n3_; (try clear hb); (try clear hb2); (try clear hk); (try clear hi)))
           go_ret
           exact ⟨by first | rfl | (simp [errW_none, errW_some] <;> rfl) | (simp [*, errW_none, errW_some] <;> rfl), by repeat (first | (with_reducible first | exact HB.out | apply below_alloc | apply pw_below_drewN | apply below_drew1) | exact HB.out)⟩
          ·rw [if_neg c98] at H
           have c98b0 : (t603 == (wrap64 (t604 + t605))) = false := beq_eq_false_iff_ne.mpr c98
           have c98b1 : (t603 != (wrap64 (t604 + t605))) = true := bne_iff_ne.mpr c98
           by_cases c102 : t603 = (wrap64 ((wrap64 (t604 + t605)) - 1))
           ·rw [if_pos c102] at H
            have c102b0 : (t603 == (wrap64 ((wrap64 (t604 + t605)) - 1))) = true := beq_iff_eq.mpr c102
            have c102b1 : (t603 != (wrap64 ((wrap64 (t604 + t605)) - 1))) = false := bne_eq_false_iff_eq.mpr c102
            clear c102
            replace H := Option.bind_eq_some_iff.mp H
            obtain ⟨t607, A1030, H⟩ := H
            replace H : (some t607) = some r := H
            have A103 := Aside0.mk A1030
            clear A1030
            obtain rfl := Option.some.inj H
            obtain ⟨Ao104, co104, eo104⟩ := Kd.R_slice HO_34.out
            subst eo104
            go_wp2_with (first | ((with_reducible refine gate_callee (f := 26) rfl ?_); refine goesL_ (some 218) rfl rfl Tryd.func26 (by kernel_rfl) rfl #[.slice Ao104 t593.length co104] rfl (by (try simp only [List.map_toArray, List.map_cons, List.map_nil]); first | done | rfl | (simp only [List.length_drop, List.length_take]; rfl)) ?_; (with_reducible refine (nat_Len.calls _ _ t593 t603 _ ?side1 ?side2 A95.out).mono ?_); (case side1 => repeat (first | exact (Kd.R_reads' HO_34.out).2.2 | (with_reducible refine Kd.C_alloc ?_ _) | (with_reducible refine Kd.C_drewN ?_ _) | (with_reducible refine Kd.C_drew ?_))); (case side2 => exact (Kd.R_reads' HO_34.out).2.1); rintro e w' ⟨rfl, ⟨nd, rfl⟩⟩; refine ⟨_, rfl, ?_⟩) | ((with_reducible refine gate_callee (f := 26) rfl ?_); refine goesL_ (some 220) rfl rfl Tryd.func26 (by kernel_rfl) rfl #[.slice Ao19 t530.length co19] rfl (by (try simp only [List.map_toArray, List.map_cons, List.map_nil]); first | done | rfl | (simp only [List.length_drop, List.length_take]; rfl)) ?_; (with_reducible refine (nat_Len.calls _ _ t530 t604 _ ?side1 ?side2 A96.out).mono ?_); (case side1 => repeat (first | exact (Kd.R_reads' HO_7.out).2.2 | (with_reducible refine Kd.C_alloc ?_ _) | (with_reducible refine Kd.C_drewN ?_ _) | (with_reducible refine Kd.C_drew ?_))); (case side2 => exact (Kd.R_reads' HO_7.out).2.1); rintro e w' ⟨rfl, ⟨nd, rfl⟩⟩; refine ⟨_, rfl, ?_⟩) | ((with_reducible refine gate_callee (f := 26) rfl ?_); refine goesL_ (some 222) rfl rfl Tryd.func26 (by kernel_rfl) rfl #[.slice Ao58 t533.length co58] rfl (by (try simp only [List.map_toArray, List.map_cons, List.map_nil]); first | done | rfl | (simp only [List.length_drop, List.length_take]; rfl)) ?_; (with_reducible refine (nat_Len.calls _ _ t533 t605 _ ?side1 ?side2 A97.out).mono ?_); (case side1 => repeat (first | exact (Kd.R_reads' HO_8.out).2.2 | (with_reducible refine Kd.C_alloc ?_ _) | (with_reducible refine Kd.C_drewN ?_ _) | (with_reducible refine Kd.C_drew ?_))); (case side2 => exact (Kd.R_reads' HO_8.out).2.1); rintro e w' ⟨rfl, ⟨nd, rfl⟩⟩; refine ⟨_, rfl, ?_⟩) | (go_at_call 18; (with_reducible refine (reckonerlaw02_awake.calls kj84  t607 _ A103.out).mono ?_); rintro e w105 ⟨rfl, hb⟩; have n0_ := Aside0.mk (Kd.R_below (by (with_reducible repeat (first | apply Kd.R_alloc | apply Kd.R_drewN | apply Kd.R_drew)); exact HO_7.out) hb); have n1_ := Aside0.mk (Kd.R_below (by (with_reducible repeat (first | apply Kd.R_alloc | apply Kd.R_drewN | apply Kd.R_drew)); exact HO_8.out) hb); have n2_ := Aside0.mk (Kd.R_below (by (with_reducible repeat (first | apply Kd.R_alloc | apply Kd.R_drewN | apply Kd.R_drew)); exact HO_34.out) hb); have n3_ := Aside0.mk (below_step (by repeat (first | (with_reducible first | exact HB.out | apply below_alloc | apply pw_below_drewN | apply below_drew1) | exact HB.out)) hb); clear HO_7; clear HO_8; clear HO_34; clear HB; have HO_7 := n0_; have HO_8 := n1_; have HO_34 := n2_; have HB := n3_; clear n0_ n1_ n2_ n3_; (try clear hb); (try clear hb2); (try clear hk); (try clear hi)))
            go_ret
            exact ⟨by first | rfl | (simp [errW_none, errW_some] <;> rfl) | (simp [*, errW_none, errW_some] <;> rfl), by repeat (first | (with_reducible first | exact HB.out | apply below_alloc | apply pw_below_drewN | apply below_drew1) | exact HB.out)⟩
           ·rw [if_neg c102] at H
            exact absurd H (by simp)
/-- THE ONE PURE STATEMENT of reckonerlaw02_NatPowersOfTwo: yours. -/
def reckonerlaw02_NatPowersOfTwo.Pure : Prop := ∀ (l0 : List Int) (l1 : List Int) (a2 : Int), l0.length ≤ maxLen → l0.length * 8 ≤ 140737488351232 → (∀ x ∈ l0, (Lit.int .u64 x).wf = true) → l1.length ≤ maxLen → l1.length * 8 ≤ 140737488351232 → (∀ x ∈ l1, (Lit.int .u64 x).wf = true) → (Lit.int .i64 a2).wf = true → ∃ k, reckonerlaw02_NatPowersOfTwo.f k l0 l1 a2 = some true
theorem reckonerlaw02_NatPowersOfTwo.walk (P : reckonerlaw02_NatPowersOfTwo.Pure) (a0 : Option Addr) (len0 cap0 : Nat) (z0 : List Int) (a1 : Option Addr) (len1 cap1 : Nat) (z1 : List Int) (a2 : Int) (w : World) (w0 : (a0 = none ∧ len0 = 0 ∧ cap0 = 0 ∧ z0 = []) ∨ ∃ x, a0 = some x ∧ len0 ≤ cap0 ∧ cap0 ≤ maxLen ∧ z0.length = cap0 ∧ (∀ i, i < z0.length → w.cell? (x.add i) = some (.int .u64 (z0.getD i 0))) ∧ ∀ n ∈ z0, (Lit.int .u64 n).wf = true) (y0 : len0 * 8 ≤ 140737488351232) (w1 : (a1 = none ∧ len1 = 0 ∧ cap1 = 0 ∧ z1 = []) ∨ ∃ x, a1 = some x ∧ len1 ≤ cap1 ∧ cap1 ≤ maxLen ∧ z1.length = cap1 ∧ (∀ i, i < z1.length → w.cell? (x.add i) = some (.int .u64 (z1.getD i 0))) ∧ ∀ n ∈ z1, (Lit.int .u64 n).wf = true) (y1 : len1 * 8 ≤ 140737488351232) (w2 : (Lit.int .i64 a2).wf = true) (hj : LaidJ w) :
    Calls Tryd.prog 6 #[.slice a0 len0 cap0, .slice a1 len1 cap1, .int .i64 a2] w fun e w' => e = .returned (.bool true) ∧ Below w.heap.size w w' := by
  obtain ⟨l0, rfl, hr0, hm0, hw0, hc0⟩ := ReadsInt.ofRowC w0
  obtain ⟨l1, rfl, hr1, hm1, hw1, hc1⟩ := ReadsInt.ofRowC w1
  obtain ⟨k, h⟩ := P l0 l1 a2 hm0 y0 hw0 hm1 y1 hw1 w2
  refine (reckonerlaw02_NatPowersOfTwo.calls k _ _ l0 _ _ l1 a2 true w (Kd.C_of_reads (d := (0 : Int)) (h1 := fun _ => rfl) hr0) hc0 (Kd.C_of_reads (d := (0 : Int)) (h1 := fun _ => rfl) hr1) hc1 hj h).mono ?_
  rintro e w' ⟨rfl, hd⟩
  exact ⟨rfl, hd⟩
-- OURS: function 39 (nat_DivWord)

-- OURS: function 40 (nat_Product)

-- NOT PRINTED: function 7 (reckonerlaw02_NatSizes)

end Go.Proofs.YtkkkbalefnileaaDoor.T
/- What the reference's functions on digits hand back (printed in Tx1, Tx2). -/
namespace Go.Proofs.YtkkkbalefnileaaDoor.Ex
open Go.RowKit Go.Proofs.YtkkkbalefnileaaDoorW.PrintWords Go.Proofs.YtkkkbalefnileaaDoorW.PrintLast Go.Proofs.YtkkkbalefnileaaDoorW.PrintMore Go.Proofs.YtkkkbalefnileaaDoor.T
set_option linter.unusedVariables false
set_option linter.unusedSimpArgs false

/-- The base of the reference's digits. -/
def H32 : Int := 4294967296
theorem H32_eq : H32 = 4294967296 := rfl
theorem H32_pos : 0 < H32 := by decide
theorem H32_sq : H32 * H32 = W64 := by decide
theorem rd_nat (l : List Int) (i : Nat) : rd l (i : Int) = l.getD i 0 := by simp [rd]
theorem w64_nat (n : Nat) (h : n < 4611686018427387904) : wrap64 (n : Int) = (n : Int) := by unfold wrap64; omega
theorem w64_int (n : Int) (h0 : -4611686018427387904 ≤ n) (h : n < 4611686018427387904) : wrap64 n = n := by unfold wrap64; omega
theorem wrapW (q : Int) (h0 : 0 ≤ q) (h1 : q < 18446744073709551616) : IntKind.u64.wrap q = q := Int.emod_eq_of_lt h0 h1
theorem tmodH (q : Int) (h : 0 ≤ q) : Int.tmod q 4294967296 = q % H32 := Int.tmod_eq_emod_of_nonneg h
theorem tdivH (q : Int) (h : 0 ≤ q) : Int.tdiv q 4294967296 = q / H32 := Int.tdiv_eq_ediv_of_nonneg h
theorem Ev.now' {α : Type} {g : Nat → Option α} {r : α} (h : ∀ k, g (k + 1) = some r) : Ev g r := Ev.step h (Ev.now r)
/-! ### digits -/
def digitsL : List Int → List Int
  | [] => []
  | x :: l => x % H32 :: x / H32 :: digitsL l
theorem digitsL_length : ∀ l, (digitsL l).length = 2 * l.length
  | [] => rfl
  | x :: l => by simp [digitsL, digitsL_length l]; omega
theorem digitsL_in : ∀ {l}, inW l → inB H32 (digitsL l)
  | [], _ => inB_nil
  | x :: l, h => by
    have h1 := inW_cons.1 h
    have h2 := h1.1.1
    have h3 := h1.1.2
    rw [W64_eq] at h3
    exact inB_cons.2 ⟨by rw [H32_eq]; omega, inB_cons.2 ⟨by rw [H32_eq]; omega, digitsL_in h1.2⟩⟩
theorem digitsL_val : ∀ l, valB H32 (digitsL l) = valB W64 l
  | [] => rfl
  | x :: l => by
    show x % H32 + H32 * (x / H32 + H32 * valB H32 (digitsL l)) = x + W64 * valB W64 l
    rw [digitsL_val l, Int.mul_add, ← Int.mul_assoc, H32_sq, ← Int.add_assoc]
    have := Int.emod_add_mul_ediv x H32
    omega
theorem Digits_loop (l : List Int) (hl : inW l) (hn : l.length ≤ 1000000) : ∀ n i acc, i + n = l.length → acc.length = 2 * i → Ev (fun k => reckonerref01_Digits.l0 k l acc (i : Int)) (acc ++ digitsL (l.drop i))
  | 0, i, acc, h, _ => by
    rw [List.drop_of_length_le (by omega)]
    refine Ev.now' fun k => ?_
    rw [reckonerref01_Digits.l0, if_neg (by omega)]
    simp [digitsL]
  | n + 1, i, acc, h, ha => by
    have hi : i < l.length := by omega
    have ih := Digits_loop l hl hn n (i + 1) (acc ++ [l[i] % H32, l[i] / H32]) (by omega) (by simp [ha]; omega)
    have hx : isW l[i] := hl _ (List.getElem_mem _)
    have h1 := hx.1
    have h2 := hx.2
    rw [W64_eq] at h2
    rw [List.drop_eq_getElem_cons hi]
    have e : acc ++ digitsL (l[i] :: l.drop (i + 1)) = (acc ++ [l[i] % H32, l[i] / H32]) ++ digitsL (l.drop (i + 1)) := by simp [digitsL]
    rw [e]
    refine Ev.step (fun k => ?_) ih
    have hg : l.getD i 0 = l[i] := by simp [List.getD_eq_getElem?_getD, List.getElem?_eq_getElem hi]
    have e1 : wrap64 ((i : Int) + 1) = ((i + 1 : Nat) : Int) := by rw [← w64_nat (i + 1) (by omega)]; rfl
    rw [reckonerref01_Digits.l0, if_pos (by omega), if_pos (by omega), Option.bind_some, if_pos (by simp; omega), rd_nat, hg, e1, tmodH _ h1, tdivH _ h1, wrapW _ (by rw [H32_eq]; omega) (by rw [H32_eq]; omega)]
theorem Digits_ev (l : List Int) (hl : inW l) (hn : l.length ≤ 1000000) : Ev (fun k => reckonerref01_Digits.f k l) (digitsL l) := by
  have h := Digits_loop l hl hn l.length 0 [] (by omega) rfl
  rw [List.drop_zero, List.nil_append] at h
  exact h
/-! ### a row of digits -/
def rowL : List Int → List Int
  | a :: b :: l => (a + b * H32) :: rowL l
  | _ => []
theorem rowL_in : ∀ {d}, inB H32 d → inW (rowL d)
  | [], _ => inW_nil
  | [_], _ => inW_nil
  | a :: b :: l, h => by
    have h1 := inB_cons.1 h
    have h2 := inB_cons.1 h1.2
    have h3 := h1.1
    have h4 := h2.1
    rw [H32_eq] at h3 h4
    exact inW_cons.2 ⟨by unfold isW; rw [H32_eq, W64_eq]; omega, rowL_in h2.2⟩
theorem rowL_length : ∀ d, (rowL d).length = d.length / 2
  | [] => rfl
  | [_] => by simp [rowL]
  | a :: b :: l => by
    have h := rowL_length l
    show (rowL l).length + 1 = (l.length + 1 + 1) / 2
    omega
theorem rowL_val : ∀ d, d.length % 2 = 0 → valB W64 (rowL d) = valB H32 d
  | [], _ => rfl
  | [_], h => by simp at h
  | a :: b :: l, h => by
    show a + b * H32 + W64 * valB W64 (rowL l) = a + H32 * (b + H32 * valB H32 l)
    rw [rowL_val l (by simp at h; omega), Int.mul_add, ← Int.mul_assoc, H32_sq, Int.mul_comm b]
    omega
theorem Row_loop (d : List Int) (hd : inB H32 d) (hn : d.length ≤ 4000000) : ∀ n i acc, 2 * (i + n) = d.length ∨ 2 * (i + n) + 1 = d.length → acc.length = i → Ev (fun k => reckonerref01_Row.l0 k d acc ((2 * i : Nat) : Int)) (acc ++ rowL (d.drop (2 * i)))
  | 0, i, acc, h, _ => by
    have e : rowL (d.drop (2 * i)) = [] := by
      have h1 : (d.drop (2 * i)).length ≤ 1 := by rw [List.length_drop]; omega
      match hm : d.drop (2 * i), h1 with
      | [], _ => rfl
      | [_], _ => rfl
      | _ :: _ :: _, h1 => simp at h1
    rw [e, List.append_nil]
    refine Ev.now' fun k => ?_
    have e1 : wrap64 (((2 * i : Nat) : Int) + 1) = ((2 * i + 1 : Nat) : Int) := by rw [← w64_nat (2 * i + 1) (by omega)]; rfl
    rw [reckonerref01_Row.l0, e1, if_neg (by omega)]
  | n + 1, i, acc, h, ha => by
    have hi : 2 * i < d.length := by omega
    have hi1 : 2 * i + 1 < d.length := by omega
    have ih := Row_loop d hd hn n (i + 1) (acc ++ [d[2 * i] + d[2 * i + 1] * H32]) (by omega) (by simp [ha])
    have h1 := hd _ (List.getElem_mem hi)
    have h2 := hd _ (List.getElem_mem hi1)
    rw [H32_eq] at h1 h2
    rw [List.drop_eq_getElem_cons hi, List.drop_eq_getElem_cons hi1]
    have e : acc ++ rowL (d[2 * i] :: d[2 * i + 1] :: d.drop (2 * i + 1 + 1)) = (acc ++ [d[2 * i] + d[2 * i + 1] * H32]) ++ rowL (d.drop (2 * (i + 1))) := by simp [rowL, Nat.mul_add]
    rw [e]
    refine Ev.step (fun k => ?_) ih
    have hg : d.getD (2 * i) 0 = d[2 * i] := by simp [List.getD_eq_getElem?_getD, List.getElem?_eq_getElem hi]
    have hg1 : d.getD (2 * i + 1) 0 = d[2 * i + 1] := by simp [List.getD_eq_getElem?_getD, List.getElem?_eq_getElem hi1]
    have e1 : wrap64 (((2 * i : Nat) : Int) + 1) = ((2 * i + 1 : Nat) : Int) := by rw [← w64_nat (2 * i + 1) (by omega)]; rfl
    have e2 : wrap64 (((2 * i : Nat) : Int) + 2) = ((2 * (i + 1) : Nat) : Int) := by rw [← w64_nat (2 * (i + 1)) (by omega)]; rfl
    rw [reckonerref01_Row.l0, e1, if_pos (by omega), if_pos (by omega), if_pos (by omega), if_pos (by omega), if_pos (by omega), rd_nat, rd_nat, hg, hg1, e2, wrapW (d[2 * i + 1] * 4294967296) (by omega) (by omega), wrapW _ (by omega) (by omega)]
    rfl
theorem Row_ev (d : List Int) (hd : inB H32 d) (hn : d.length ≤ 4000000) : Ev (fun k => reckonerref01_Row.f k d) (rowL d) := by
  have h := Row_loop d hd hn (d.length / 2) 0 [] (by omega) rfl
  rw [List.drop_zero, List.nil_append] at h
  exact h
/-! ### a digit, 0 beyond the end -/
theorem digit_some (a : List Int) (i : Nat) : reckonerref01_digit.f a (i : Int) = some (a.getD i 0) := by
  unfold reckonerref01_digit.f
  by_cases h : i < a.length
  · rw [if_pos (by omega), if_pos (by omega), rd_nat]
  · rw [if_neg (by omega)]
    simp [List.getD_eq_getElem?_getD, List.getElem?_eq_none (by omega : a.length ≤ i)]
/-! ### sums -/
def plusS (a b : List Int) (i : Nat) (c : Int) : Int × Int := ((c + a.getD i 0 + b.getD i 0) % H32, (c + a.getD i 0 + b.getD i 0) / H32)
theorem plusS_ok {a b : List Int} (ha : inB H32 a) (hb : inB H32 b) (i : Nat) {c : Int} (hc : 0 ≤ c ∧ c ≤ 1) :
    (0 ≤ (plusS a b i c).2 ∧ (plusS a b i c).2 ≤ 1) ∧ (0 ≤ (plusS a b i c).1 ∧ (plusS a b i c).1 < H32) ∧ (plusS a b i c).1 + H32 * (1 * (plusS a b i c).2) = (a.getD i 0 + b.getD i 0) + 1 * c := by
  have h1 := inB_getD H32_pos ha i
  have h2 := inB_getD H32_pos hb i
  unfold plusS
  simp only [H32_eq] at *
  omega
theorem Plus_loop (a b : List Int) (ha : inB H32 a) (hb : inB H32 b) (hn : a.length ≤ 4000000) (hm : b.length ≤ 4000000) : ∀ n i c (acc : List Int), i + n = max a.length b.length → acc.length = i → 0 ≤ c ∧ c ≤ 1 →
    Ev (fun k => reckonerref01_Plus.l0 k a b acc c (i : Int)) (acc ++ (carryL (plusS a b) n i c).1 ++ [(carryL (plusS a b) n i c).2])
  | 0, i, c, acc, h, hacc, hc => by
    refine Ev.step (f := fun k => reckonerref01_Plus.j1 k a b acc c (i : Int) false) (fun k => ?_) (Ev.now' fun k => ?_)
    · rw [reckonerref01_Plus.l0, if_neg (by omega)]
      have e : decide ((i : Int) < (b.length : Int)) = false := decide_eq_false (by omega)
      rw [e]
    · rw [reckonerref01_Plus.j1, if_neg (by decide), if_pos (by omega)]
      simp [carryL]
  | n + 1, i, c, acc, h, hacc, hc => by
    have q1 : acc.length < 17592186044416 := by omega
    have q2 : ¬ (i : Int) < (a.length : Int) → (i : Int) < (b.length : Int) := by omega
    have h1 := inB_getD H32_pos ha i
    have h2 := inB_getD H32_pos hb i
    rw [H32_eq] at h1 h2
    have q3 : IntKind.u64.wrap (c + a.getD i 0) = c + a.getD i 0 := wrapW _ (by omega) (by omega)
    have q4 : 0 ≤ c + a.getD i 0 + b.getD i 0 ∧ c + a.getD i 0 + b.getD i 0 < 18446744073709551616 := by omega
    have q5 : 0 ≤ (c + a.getD i 0 + b.getD i 0) / H32 ∧ (c + a.getD i 0 + b.getD i 0) / H32 < 18446744073709551616 := by rw [H32_eq]; omega
    have e1 : wrap64 ((i : Int) + 1) = ((i + 1 : Nat) : Int) := by rw [← w64_nat (i + 1) (by omega)]; rfl
    obtain ⟨k1, k2, _⟩ := plusS_ok ha hb i hc
    have ih := Plus_loop a b ha hb hn hm n (i + 1) (plusS a b i c).2 (acc ++ [(plusS a b i c).1]) (by omega) (by simp [hacc]) k1
    have e : acc ++ (carryL (plusS a b) (n + 1) i c).1 ++ [(carryL (plusS a b) (n + 1) i c).2] = (acc ++ [(plusS a b i c).1]) ++ (carryL (plusS a b) n (i + 1) (plusS a b i c).2).1 ++ [(carryL (plusS a b) n (i + 1) (plusS a b i c).2).2] := by simp [carryL]
    rw [e]
    refine Ev.step (f := fun k => reckonerref01_Plus.j1 k a b acc c (i : Int) true) (fun k => ?_) (Ev.step (fun k => ?_) ih)
    · show reckonerref01_Plus.l0 (k + 1) a b acc c (i : Int) = reckonerref01_Plus.j1 k a b acc c (i : Int) true
      rw [reckonerref01_Plus.l0]
      by_cases hl : (i : Int) < (a.length : Int)
      · exact if_pos hl
      · have e : decide ((i : Int) < (b.length : Int)) = true := decide_eq_true (q2 hl)
        exact (if_neg hl).trans (by rw [e])
    · rw [reckonerref01_Plus.j1, if_pos rfl, digit_some, digit_some, Option.bind_some, Option.bind_some, if_pos q1, e1, q3, wrapW _ q4.1 q4.2, tmodH _ q4.1, tdivH _ q4.1, wrapW _ q5.1 q5.2]
      rfl
/-- A sum of digits. -/
theorem Plus_ev (a b : List Int) (ha : inB H32 a) (hb : inB H32 b) (hn : a.length ≤ 4000000) (hm : b.length ≤ 4000000) :
    ∃ r, Ev (fun k => reckonerref01_Plus.f k a b) r ∧ inB H32 r ∧ r.length = max a.length b.length + 1 ∧ valB H32 r = valB H32 a + valB H32 b := by
  have h := Plus_loop a b ha hb hn hm (max a.length b.length) 0 0 [] (by omega) rfl ⟨Int.le_refl 0, by decide⟩
  obtain ⟨k1, k2, k3⟩ := carryL_val H32 (plusS a b) (fun i => a.getD i 0 + b.getD i 0) 1 (fun c => 0 ≤ c ∧ c ≤ 1) (max a.length b.length) 0 0 ⟨Int.le_refl 0, by decide⟩ (fun j _ _ c hc => plusS_ok ha hb j hc)
  have kl := carryL_length (plusS a b) (max a.length b.length) 0 0
  rw [List.nil_append] at h
  refine ⟨_, h, inB_append.2 ⟨k2, inB_cons.2 ⟨⟨k1.1, by have := k1.2; rw [H32_eq]; omega⟩, inB_nil⟩⟩, by simp [kl], ?_⟩
  rw [valB_append, kl]
  rw [sumB_add, sumB_pad H32 a _ (Nat.le_max_left _ _), sumB_pad H32 b _ (Nat.le_max_right _ _)] at k3
  simp only [valB, Int.mul_zero, Int.add_zero, Int.one_mul] at k3 ⊢
  exact k3
/-! ### differences -/
/-! ### two rows the same -/
theorem Same_loop (a b : List Int) (hl : a.length = b.length) (hn : a.length ≤ 1000000) : ∀ n i, i + n = a.length → a.take i = b.take i → Ev (fun k => reckonerref01_Same.l0 k a b (i : Int)) (decide (a = b))
  | 0, i, h, ht => by
    refine Ev.now' fun k => ?_
    rw [List.take_of_length_le (by omega), List.take_of_length_le (by omega)] at ht
    rw [reckonerref01_Same.l0, if_neg (by omega), decide_eq_true ht]
  | n + 1, i, h, ht => by
    have e1 : wrap64 ((i : Int) + 1) = ((i + 1 : Nat) : Int) := by rw [← w64_nat (i + 1) (by omega)]; rfl
    have hi : i < a.length := by omega
    have hi' : i < b.length := by omega
    have ga : a.getD i 0 = a[i] := by simp [List.getD_eq_getElem?_getD, List.getElem?_eq_getElem hi]
    have gb : b.getD i 0 = b[i] := by simp [List.getD_eq_getElem?_getD, List.getElem?_eq_getElem hi']
    by_cases hs : a[i] = b[i]
    · refine Ev.step (fun k => ?_) (Same_loop a b hl hn n (i + 1) (by omega) ?_)
      · rw [reckonerref01_Same.l0, if_pos (by omega), if_pos (by omega), if_pos (by omega), rd_nat, rd_nat, ga, gb, if_pos hs, e1]
      · rw [List.take_succ_eq_append_getElem hi, List.take_succ_eq_append_getElem hi', ht, hs]
    · refine Ev.now' fun k => ?_
      rw [reckonerref01_Same.l0, if_pos (by omega), if_pos (by omega), if_pos (by omega), rd_nat, rd_nat, ga, gb, if_neg hs]
      rw [decide_eq_false]
      rintro rfl
      exact hs rfl
theorem RSame_ev (a b : List Int) (hn : a.length ≤ 1000000) : Ev (fun k => reckonerref01_Same.f k a b) (decide (a = b)) := by
  by_cases hl : a.length = b.length
  · refine Ev.congr (fun k => ?_) (Same_loop a b hl hn a.length 0 (by omega) rfl)
    show reckonerref01_Same.f k a b = _
    unfold reckonerref01_Same.f
    rw [if_pos (by omega)]
    rfl
  · refine Ev.congr (f := fun _ => some (decide (a = b))) (fun k => ?_) (Ev.now _)
    show reckonerref01_Same.f k a b = _
    unfold reckonerref01_Same.f
    rw [if_neg (by omega), decide_eq_false (fun e => hl (by rw [e]))]
end Go.Proofs.YtkkkbalefnileaaDoor.Ex
/- The reference's Cut, Add, Sub (printed in Tx1, Tx2), and the row functions' results in values. -/
namespace Go.Proofs.YtkkkbalefnileaaDoor.Ex
open Go.RowKit Go.Proofs.YtkkkbalefnileaaDoorW.PrintWords Go.Proofs.YtkkkbalefnileaaDoorW.PrintLast Go.Proofs.YtkkkbalefnileaaDoorW.PrintMore Go.Proofs.YtkkkbalefnileaaDoor.T
set_option linter.unusedVariables false
set_option linter.unusedSimpArgs false

theorem H32_pow (n : Nat) : H32 ^ (2 * n) = W64 ^ n := by
  rw [Int.pow_mul, show H32 ^ 2 = W64 by decide]
/-- The value of a row's two highest digits. -/
theorem getD_two {d : List Int} (n : Nat) (h : n + 2 ≤ d.length) : d.drop n = d.getD n 0 :: d.getD (n + 1) 0 :: d.drop (n + 2) := by
  have h1 : n < d.length := by omega
  have h2 : n + 1 < d.length := by omega
  rw [List.drop_eq_getElem_cons h1, List.drop_eq_getElem_cons h2]
  simp [List.getD_eq_getElem?_getD, List.getElem?_eq_getElem h1, List.getElem?_eq_getElem h2]
/-- What Cut makes of digits that are enough. -/
theorem Cut_done (d : List Int) (hd : inB H32 d) (n : Nat) (hn : n ≤ 1000000) (hm : d.length ≤ 4000000) (hl : 2 * n + 2 ≤ d.length) :
    Ev (fun k => reckonerref01_Cut.l0 k (n : Int) d) (rowL (d.take (2 * n)), d.getD (2 * n) 0 + d.getD (2 * n + 1) 0 * H32) := by
  have e1 : wrap64 (2 * (n : Int)) = ((2 * n : Nat) : Int) := by rw [← w64_nat (2 * n) (by omega)]; rfl
  have e2 : wrap64 (((2 * n : Nat) : Int) + 2) = ((2 * n + 2 : Nat) : Int) := by rw [← w64_nat (2 * n + 2) (by omega)]; rfl
  have e3 : wrap64 (((2 * n : Nat) : Int) + 1) = ((2 * n + 1 : Nat) : Int) := by rw [← w64_nat (2 * n + 1) (by omega)]; rfl
  have h1 := inB_getD H32_pos hd (2 * n)
  have h2 := inB_getD H32_pos hd (2 * n + 1)
  rw [H32_eq] at h1 h2
  have q1 : ¬ (d.length : Int) < ((2 * n + 2 : Nat) : Int) := by omega
  have q2 : (0 : Int) ≤ ((2 * n : Nat) : Int) := by omega
  have q3 : ((2 * n : Nat) : Int) ≤ (d.length : Int) := by omega
  have q4 : ((2 * n : Nat) : Int) < (d.length : Int) := by omega
  have q5 : (0 : Int) ≤ ((2 * n + 1 : Nat) : Int) := by omega
  have q6 : ((2 * n + 1 : Nat) : Int) < (d.length : Int) := by omega
  have q7 : IntKind.u64.wrap (d.getD (2 * n + 1) 0 * 4294967296) = d.getD (2 * n + 1) 0 * 4294967296 := wrapW _ (by omega) (by omega)
  have q8 : IntKind.u64.wrap (d.getD (2 * n) 0 + d.getD (2 * n + 1) 0 * 4294967296) = d.getD (2 * n) 0 + d.getD (2 * n + 1) 0 * 4294967296 := wrapW _ (by omega) (by omega)
  have hR := Row_ev (d.take (2 * n)) (inB_take hd _) (by rw [List.length_take]; omega)
  refine Ev.step (f := fun k => (reckonerref01_Row.f k (d.take (2 * n))).bind fun t => some (t, d.getD (2 * n) 0 + d.getD (2 * n + 1) 0 * H32)) (fun k => ?_) (Ev.bind hR (Ev.now _))
  rw [reckonerref01_Cut.l0, e1, e2, e3, if_neg q1, if_pos q2, if_pos q3, Int.toNat_natCast]
  simp only [if_pos q4, if_pos q5, if_pos q6, rd_nat, q7, q8]
  rfl
/-- Cut: the row of n words, and the word above it; what digits there are beyond that is left out. -/
theorem Cut_loop (n : Nat) (hn : n ≤ 1000000) : ∀ m (d : List Int), inB H32 d → d.length ≤ 4000000 → 2 * n + 2 - d.length = m →
    ∃ r t, Ev (fun k => reckonerref01_Cut.l0 k (n : Int) d) (r, t) ∧ inW r ∧ r.length = n ∧ isW t ∧ valB W64 r + W64 ^ n * t = valB H32 d % (W64 ^ n * W64)
  | 0, d, hd, hm, hl => by
    have h1 := inB_getD H32_pos hd (2 * n)
    have h2 := inB_getD H32_pos hd (2 * n + 1)
    have hl2 : 2 * n + 2 ≤ d.length := by omega
    have hlt : (d.take (2 * n)).length = 2 * n := by rw [List.length_take]; omega
    refine ⟨_, _, Cut_done d hd n hn hm hl2, rowL_in (inB_take hd _), by rw [rowL_length, hlt]; omega, ?_, ?_⟩
    · rw [H32_eq] at h1 h2
      unfold isW
      rw [H32_eq, W64_eq]
      omega
    · rw [rowL_val _ (by rw [hlt]; omega)]
      have e1 : W64 ^ n * W64 = H32 ^ (2 * n + 2) := by rw [show 2 * n + 2 = 2 * (n + 1) by omega, H32_pow, Int.pow_succ]
      rw [e1, ← valB_take H32_pos hd (2 * n + 2) hl2, valB_split H32 (d.take (2 * n + 2)) (2 * n) (by rw [List.length_take]; omega), List.take_take, Nat.min_eq_left (by omega : 2 * n ≤ 2 * n + 2), H32_pow]
      congr 1
      have e2 : (d.take (2 * n + 2)).drop (2 * n) = [d.getD (2 * n) 0, d.getD (2 * n + 1) 0] := by
        rw [List.drop_take, getD_two (2 * n) hl2]
        simp
      rw [e2]
      congr 1
      simp [valB, Int.mul_comm]
  | m + 1, d, hd, hm, hl => by
    have e1 : wrap64 (2 * (n : Int)) = ((2 * n : Nat) : Int) := by rw [← w64_nat (2 * n) (by omega)]; rfl
    have e2 : wrap64 (((2 * n : Nat) : Int) + 2) = ((2 * n + 2 : Nat) : Int) := by rw [← w64_nat (2 * n + 2) (by omega)]; rfl
    have q1 : (d.length : Int) < ((2 * n + 2 : Nat) : Int) := by omega
    have q2 : d.length < 17592186044416 := by omega
    have ho : inB H32 (d ++ [0]) := inB_append.2 ⟨hd, inB_cons.2 ⟨⟨Int.le_refl 0, H32_pos⟩, inB_nil⟩⟩
    obtain ⟨r, t, h1, h2⟩ := Cut_loop n hn m (d ++ [0]) ho (by simp; omega) (by simp; omega)
    refine ⟨r, t, Ev.step (fun k => ?_) h1, ?_⟩
    · rw [reckonerref01_Cut.l0, e1, e2, if_pos q1, if_pos q2]
    · have e3 : valB H32 (d ++ [0]) = valB H32 d := by rw [valB_append]; simp [valB]
      rw [e3] at h2
      exact h2
theorem Cut_ev (n : Nat) (hn : n ≤ 1000000) (d : List Int) (hd : inB H32 d) (hm : d.length ≤ 4000000) :
    ∃ r t, Ev (fun k => reckonerref01_Cut.f k d (n : Int)) (r, t) ∧ inW r ∧ r.length = n ∧ isW t ∧ valB W64 r + W64 ^ n * t = valB H32 d % (W64 ^ n * W64) := by
  obtain ⟨r, t, h1, h2⟩ := Cut_loop n hn _ d hd hm rfl
  refine ⟨r, t, ?_, h2⟩
  have q : (([] : List Int).length + d.length < 17592186044416) := by simp; omega
  refine Ev.congr (fun k => ?_) h1
  show reckonerref01_Cut.f k d (n : Int) = _
  unfold reckonerref01_Cut.f
  rw [if_pos q, List.nil_append]
end Go.Proofs.YtkkkbalefnileaaDoor.Ex
/- The reference's Word and Times (printed in Tx4, Tx5). -/
namespace Go.Proofs.YtkkkbalefnileaaDoor.Ex
open Go.RowKit Go.Proofs.YtkkkbalefnileaaDoorW.PrintWords Go.Proofs.YtkkkbalefnileaaDoorW.PrintLast Go.Proofs.YtkkkbalefnileaaDoorW.PrintMore Go.Proofs.YtkkkbalefnileaaDoor.T
set_option linter.unusedVariables false
set_option linter.unusedSimpArgs false

theorem w64_add (a b : Nat) (h : a + b < 4611686018427387904) : wrap64 ((a : Int) + (b : Int)) = ((a + b : Nat) : Int) := by rw [← Int.natCast_add]; exact w64_nat (a + b) h
theorem w64_sub1 (n : Nat) (h : n < 4611686018427387904) : wrap64 (((n + 1 : Nat) : Int) - 1) = (n : Int) := by rw [← w64_nat n h]; congr 1; omega
theorem lin5 (u v o c p : Int) (h : u + v = c + o + p) : (u - o) + v = c + p := by omega
theorem Word_some (w : Int) (hw : isW w) : reckonerref01_Word.f w = some [w % H32, w / H32] := by
  have h0 := hw.1
  have h1 := hw.2
  rw [W64_eq] at h1
  have q : 0 ≤ w / H32 ∧ w / H32 < 18446744073709551616 := by rw [H32_eq]; omega
  unfold reckonerref01_Word.f
  rw [tmodH _ h0, tdivH _ h0, wrapW _ q.1 q.2]
theorem word_in (w : Int) (hw : isW w) : inB H32 [w % H32, w / H32] := digitsL_in (inW_cons.2 ⟨hw, inW_nil⟩)
theorem word_val (w : Int) : valB H32 [w % H32, w / H32] = w := by
  have h := digitsL_val [w]
  simpa [digitsL, valB] using h
/-- What holds of a product's digits between two rounds. -/
structure Prod (a b out : List Int) (i : Nat) : Prop where
  len : out.length = a.length + b.length
  dig : inB H32 out
  zero : ∀ j, i + b.length ≤ j → out.getD j 0 = 0
theorem getD_set (l : List Int) (i j : Nat) (x : Int) : (l.set i x).getD j 0 = if i = j ∧ i < l.length then x else l.getD j 0 := by
  simp only [List.getD_eq_getElem?_getD, List.getElem?_set]
  by_cases h : i = j
  · subst h
    by_cases h1 : i < l.length
    · simp [h1]
    · simp [h1]
  · simp [h]
def Good (a b r : List Int) : Prop := inB H32 r ∧ r.length = a.length + b.length ∧ valB H32 r = valB H32 a * valB H32 b
theorem Times_inner (a b : List Int) (ha : inB H32 a) (hb : inB H32 b) (hn : a.length ≤ 1000000) (hm : b.length ≤ 1000000) (i : Nat) (hi : i < a.length)
    (hO : ∀ out, Prod a b out (i + 1) → valB H32 out = valB H32 (a.take (i + 1)) * valB H32 b → ∃ r, Ev (fun k => reckonerref01_Times.l0 k a b out ((i + 1 : Nat) : Int)) r ∧ Good a b r) :
    ∀ (n kk : Nat) (out : List Int) (c : Int), kk + n = b.length → Prod a b out i → (0 ≤ c ∧ c < H32) → valB H32 out + H32 ^ (i + kk) * c = valB H32 (a.take i) * valB H32 b + H32 ^ i * (a.getD i 0 * valB H32 (b.take kk)) →
      ∃ r, Ev (fun k => reckonerref01_Times.l1 k a b out (i : Int) c (kk : Int)) r ∧ Good a b r
  | 0, kk, out, c, hk, hP, hc, hv => by
    have HV := Aside0.mk hv
    clear hv
    obtain rfl : kk = b.length := by omega
    have hlen := hP.len
    have q1 : i + b.length < out.length := by omega
    have q2 : ¬ (b.length : Int) < (b.length : Int) := by omega
    have q3 : (0 : Int) ≤ ((i + b.length : Nat) : Int) := by omega
    have q4 : ((i + b.length : Nat) : Int) < (out.length : Int) := by omega
    have e1 : wrap64 ((i : Int) + (b.length : Int)) = ((i + b.length : Nat) : Int) := w64_add i b.length (by omega)
    have e2 : wrap64 ((i : Int) + 1) = ((i + 1 : Nat) : Int) := by rw [← w64_nat (i + 1) (by omega)]; rfl
    have hz := hP.zero (i + b.length) (Nat.le_refl _)
    obtain ⟨r, h1, h2⟩ := hO (out.set (i + b.length) c) ⟨by rw [List.length_set]; exact hlen, inB_set hP.dig _ hc, fun j hj => by
        rw [getD_set, if_neg (by omega)]
        exact hP.zero j (by omega)⟩ (by
        rw [valB_set H32 out _ c q1, hz, Int.sub_zero, HV.out, valB_take_succ H32 a i hi, List.take_of_length_le (Nat.le_refl _), Int.add_mul, Int.mul_assoc])
    refine ⟨r, Ev.step (fun k => ?_) h1, h2⟩
    rw [reckonerref01_Times.l1, if_neg q2, e1, if_pos q3, if_pos q4, Int.toNat_natCast, e2]
  | n + 1, kk, out, c, hk, hP, hc, hv => by
    have HV := Aside0.mk hv
    clear hv
    have hlen := hP.len
    have hk' : kk + 1 + n = b.length := by omega
    have hjj : ∀ j, i + b.length ≤ j → ¬ (i + kk = j ∧ i + kk < out.length) := by omega
    have hkb : kk < b.length := by omega
    have e1 : wrap64 ((i : Int) + (kk : Int)) = ((i + kk : Nat) : Int) := w64_add i kk (by omega)
    have e2 : wrap64 ((kk : Int) + 1) = ((kk + 1 : Nat) : Int) := by rw [← w64_nat (kk + 1) (by omega)]; rfl
    have q1 : (kk : Int) < (b.length : Int) := by omega
    have q2 : (0 : Int) ≤ ((i + kk : Nat) : Int) := by omega
    have q3 : ((i + kk : Nat) : Int) < (out.length : Int) := by omega
    have q4 : (0 : Int) ≤ (i : Int) := by omega
    have q5 : (i : Int) < (a.length : Int) := by omega
    have q6 : (0 : Int) ≤ (kk : Int) := by omega
    have q7 : i + kk < out.length := by omega
    have h1 := inB_getD H32_pos ha i
    have h2 := inB_getD H32_pos hb kk
    have h3 := inB_getD H32_pos hP.dig (i + kk)
    rw [H32_eq] at h1 h2 h3 hc
    have hmul : a.getD i 0 * b.getD kk 0 ≤ 18446744065119617025 := Int.le_trans (Int.mul_le_mul (show a.getD i 0 ≤ 4294967295 by omega) (show b.getD kk 0 ≤ 4294967295 by omega) h2.1 (by decide)) (by decide)
    have hmul0 : 0 ≤ a.getD i 0 * b.getD kk 0 := Int.mul_nonneg h1.1 h2.1
    obtain ⟨p, hp⟩ : ∃ p, p = a.getD i 0 * b.getD kk 0 := ⟨_, rfl⟩
    rw [← hp] at hmul hmul0
    have HPP := Aside0.mk hp
    clear hp
    have w1 : IntKind.u64.wrap (c + out.getD (i + kk) 0) = c + out.getD (i + kk) 0 := wrapW _ (by omega) (by omega)
    have w2 : IntKind.u64.wrap p = p := wrapW _ (by omega) (by omega)
    have w3 : 0 ≤ c + out.getD (i + kk) 0 + p ∧ c + out.getD (i + kk) 0 + p < 18446744073709551616 := by omega
    have w4 : 0 ≤ (c + out.getD (i + kk) 0 + p) / H32 ∧ (c + out.getD (i + kk) 0 + p) / H32 < 4294967296 := by rw [H32_eq]; omega
    have w5 : (c + out.getD (i + kk) 0 + p) / H32 < 18446744073709551616 := by omega
    have w6 : 0 ≤ (c + out.getD (i + kk) 0 + p) % H32 ∧ (c + out.getD (i + kk) 0 + p) % H32 < H32 := by rw [H32_eq]; omega
    have hdm := Int.emod_add_mul_ediv (c + out.getD (i + kk) 0 + p) H32
    obtain ⟨r, k1, k2⟩ := Times_inner a b ha hb hn hm i hi hO n (kk + 1) (out.set (i + kk) ((c + out.getD (i + kk) 0 + p) % H32)) ((c + out.getD (i + kk) 0 + p) / H32) hk'
      ⟨by rw [List.length_set]; exact hlen, inB_set hP.dig _ w6, fun j hj => by rw [getD_set, if_neg (hjj j hj)]; exact hP.zero j hj⟩ w4 (by
        rw [valB_set H32 out _ _ q7, valB_take_succ H32 b kk hkb, Int.mul_add (a.getD i 0), Int.mul_add (H32 ^ i), ← Int.add_assoc, ← HV.out]
        have e4 : H32 ^ i * (a.getD i 0 * (H32 ^ kk * b.getD kk 0)) = H32 ^ (i + kk) * p := by
          rw [HPP.out, Int.pow_add, Int.mul_left_comm (a.getD i 0), ← Int.mul_assoc]
        have e5 : H32 ^ (i + (kk + 1)) = H32 ^ (i + kk) * H32 := by rw [← Nat.add_assoc, Int.pow_succ]
        have e6 : H32 ^ (i + kk) * ((c + out.getD (i + kk) 0 + p) % H32 - out.getD (i + kk) 0) + H32 ^ (i + kk) * H32 * ((c + out.getD (i + kk) 0 + p) / H32) = H32 ^ (i + kk) * c + H32 ^ (i + kk) * p := by
          rw [Int.mul_assoc, ← Int.mul_add, ← Int.mul_add, lin5 _ _ _ _ _ hdm]
        rw [e4, e5, Int.add_assoc (valB H32 out), e6, ← Int.add_assoc])
    refine ⟨r, Ev.step (fun k => ?_) k1, k2⟩
    rw [reckonerref01_Times.l1, if_pos q1, e1, if_pos q2, if_pos q3, if_pos q4, if_pos q5, if_pos q6, rd_nat, rd_nat, rd_nat, ← HPP.out, w1, w2, wrapW _ w3.1 w3.2, tmodH _ w3.1, tdivH _ w3.1, wrapW _ w4.1 w5, e2, Int.toNat_natCast]
theorem Times_outer (a b : List Int) (ha : inB H32 a) (hb : inB H32 b) (hn : a.length ≤ 1000000) (hm : b.length ≤ 1000000) : ∀ (m i : Nat) (out : List Int), i + m = a.length → Prod a b out i → valB H32 out = valB H32 (a.take i) * valB H32 b →
      ∃ r, Ev (fun k => reckonerref01_Times.l0 k a b out (i : Int)) r ∧ Good a b r
  | 0, i, out, hi, hP, hv => by
    have q0 : a.length ≤ i := by clear hv; omega
    have q1 : ¬ (i : Int) < (a.length : Int) := by clear hv; omega
    rw [List.take_of_length_le q0] at hv
    exact ⟨out, Ev.now' fun k => by rw [reckonerref01_Times.l0, if_neg q1], hP.dig, hP.len, hv⟩
  | m + 1, i, out, hi, hP, hv => by
    have q1 : (i : Int) < (a.length : Int) := by clear hv; omega
    have q2 : i < a.length := by clear hv; omega
    have q3 : i + 1 + m = a.length := by clear hv; omega
    obtain ⟨r, h1, h2⟩ := Times_inner a b ha hb hn hm i q2 (fun out hP hv => Times_outer a b ha hb hn hm m (i + 1) out q3 hP hv) b.length 0 out 0 (Nat.zero_add _) hP ⟨Int.le_refl 0, H32_pos⟩ (by
      rw [List.take_zero]
      simp [valB, hv])
    exact ⟨r, Ev.step (fun k => by rw [reckonerref01_Times.l0, if_pos q1]; rfl) h1, h2⟩
/-- A product of digits. -/
theorem Times_ev (a b : List Int) (ha : inB H32 a) (hb : inB H32 b) (hn : a.length ≤ 1000000) (hm : b.length ≤ 1000000) : ∃ r, Ev (fun k => reckonerref01_Times.f k a b) r ∧ Good a b r := by
  obtain ⟨r, h1, h2⟩ := Times_outer a b ha hb hn hm a.length 0 (List.replicate (a.length + b.length) 0) (by omega)
    ⟨by simp, inB_zeros H32_pos _, fun j _ => by
        simp only [List.getD_eq_getElem?_getD, List.getElem?_replicate]
        split <;> rfl⟩ (by rw [valB_zeros, List.take_zero]; simp [valB])
  have e1 : wrap64 ((a.length : Int) + (b.length : Int)) = ((a.length + b.length : Nat) : Int) := w64_add a.length b.length (by omega)
  have q1 : (0 : Int) ≤ ((a.length + b.length : Nat) : Int) := by omega
  have q2 : a.length + b.length ≤ 35184372088832 := by omega
  refine ⟨r, Ev.congr (fun k => ?_) h1, h2⟩
  show reckonerref01_Times.f k a b = _
  unfold reckonerref01_Times.f
  rw [e1, if_pos q1, Int.toNat_natCast, if_pos q2]
  rfl
end Go.Proofs.YtkkkbalefnileaaDoor.Ex
/- The reference's Short. -/
namespace Go.Proofs.YtkkkbalefnileaaDoor.Ex
open Go.RowKit Go.Proofs.YtkkkbalefnileaaDoorW.PrintWords Go.Proofs.YtkkkbalefnileaaDoorW.PrintLast Go.Proofs.YtkkkbalefnileaaDoorW.PrintMore Go.Proofs.YtkkkbalefnileaaDoor.T
set_option linter.unusedVariables false
set_option linter.unusedSimpArgs false

theorem pow_leB {n m : Nat} (h : n ≤ m) : H32 ^ n ≤ H32 ^ m := by
  obtain ⟨d, rfl⟩ : ∃ d, m = n + d := ⟨m - n, by omega⟩
  rw [Int.pow_add]
  have h1 := pow_posB H32_pos n
  have h2 := pow_posB H32_pos d
  have h3 : H32 ^ n * 1 ≤ H32 ^ n * H32 ^ d := Int.mul_le_mul_of_nonneg_left (by omega) (by omega)
  omega
/-! ### Short -/
theorem Short_stop (a : List Int) (n : Nat) (hn : n ≤ a.length) : (if 0 ≤ (n : Int) then (if (n : Int) ≤ (a.length : Int) then (some (a.take ((n : Int) : Int).toNat)) else (none)) else (none)) = some (a.take n) := by
  rw [if_pos (by omega), if_pos (by omega), Int.toNat_natCast]
theorem Short_loop (a : List Int) (hn : a.length ≤ 4000000) : ∀ n, n ≤ a.length → valB H32 (a.take n) = valB H32 a →
    ∃ m, m ≤ a.length ∧ Ev (fun k => reckonerref01_Short.l0 k a (n : Int)) (a.take m) ∧ valB H32 (a.take m) = valB H32 a ∧ (m = 0 ∨ a.getD (m - 1) 0 ≠ 0)
  | 0, h, hv => ⟨0, h, Ev.now' fun k => by
      have q : ¬ (((0 : Nat) : Int) > 0) := by decide
      rw [reckonerref01_Short.l0, if_neg q]
      exact Short_stop a 0 h, hv, Or.inl rfl⟩
  | n + 1, h, hv => by
    have q1 : (((n + 1 : Nat) : Int) > 0) := by omega
    have q2 : (0 : Int) ≤ (n : Int) := by omega
    have q3 : (n : Int) < (a.length : Int) := by omega
    have e1 := w64_sub1 n (by omega)
    by_cases hz : a.getD n 0 = 0
    · obtain ⟨m, m1, m2, m3⟩ := Short_loop a hn n (by omega) (by rw [← hv, valB_take_succ H32 a n (by omega), hz, Int.mul_zero, Int.add_zero])
      refine ⟨m, m1, Ev.step (fun k => ?_) m2, m3⟩
      rw [reckonerref01_Short.l0, if_pos q1, e1, if_pos q2, if_pos q3, rd_nat, if_pos hz]
    · refine ⟨n + 1, h, Ev.now' fun k => ?_, hv, Or.inr hz⟩
      rw [reckonerref01_Short.l0, if_pos q1, e1, if_pos q2, if_pos q3, rd_nat, if_neg hz]
      exact Short_stop a (n + 1) h
theorem Short_ev (a : List Int) (hn : a.length ≤ 4000000) : ∃ m, m ≤ a.length ∧ Ev (fun k => reckonerref01_Short.f k a) (a.take m) ∧ valB H32 (a.take m) = valB H32 a ∧ (m = 0 ∨ a.getD (m - 1) 0 ≠ 0) :=
  Short_loop a hn a.length (Nat.le_refl _) (by rw [List.take_of_length_le (Nat.le_refl _)])
end Go.Proofs.YtkkkbalefnileaaDoor.Ex
/- The reference's functions on numbers. -/
namespace Go.Proofs.YtkkkbalefnileaaDoor.Ex
open Go.RowKit Go.Proofs.YtkkkbalefnileaaDoorW.PrintWords Go.Proofs.YtkkkbalefnileaaDoorW.PrintLast Go.Proofs.YtkkkbalefnileaaDoorW.PrintMore Go.Proofs.YtkkkbalefnileaaDoor.T
set_option linter.unusedVariables false
set_option linter.unusedSimpArgs false

theorem isW_of_wf {x : Int} (h : (Lit.int .u64 x).wf = true) : isW x := by
  have h1 : 0 ≤ x ∧ x ≤ 18446744073709551615 := by
    simp [Lit.wf, IntKind.min, IntKind.max, IntKind.signed, IntKind.bits] at h
    omega
  unfold isW
  rw [W64_eq]
  omega
theorem inW_of_wf {l : List Int} (h : ∀ x ∈ l, (Lit.int .u64 x).wf = true) : inW l := fun x hx => isW_of_wf (h x hx)
theorem inW_take {l : List Int} (h : inW l) (n : Nat) : inW (l.take n) := fun x hx => h x (List.mem_of_mem_take hx)
theorem few_some (l : List Int) (n : Nat) (h : l.length ≤ 17592186044415) : reckonerlaw02_few.f l (n : Int) = some (l.take n) := by
  unfold reckonerlaw02_few.f
  rw [if_pos ⟨by omega, Or.inl h⟩, Int.toNat_natCast]
/-- A row of n words whose value has n words is the value's. -/
theorem can_of_len {r : List Int} (hr : inW r) (h : r = [] ∨ W64 ^ (r.length - 1) ≤ valB W64 r) : r = can (valB W64 r) := by
  have h0 := valW_nonneg hr
  rcases h with h | h
  · rw [h]; rfl
  · have h1 := can_high h0 h
    have h2 := can_le hr
    exact valB_inj W64_pos hr (can_in h0) (by omega) (can_val h0).symm
theorem RNat_ev (d : List Int) (hd : inB H32 d) (hm : d.length ≤ 1000000) : Ev (fun k => reckonerref02_nat.f k d) (can (valB H32 d)) := by
  obtain ⟨m, hm1, hs, hv, hnz⟩ := Short_ev d (by omega)
  have hdm : inB H32 (d.take m) := inB_take hd m
  have hlm : (d.take m).length = m := by rw [List.length_take]; omega
  obtain ⟨r, t, hc, hr1, hr2, hr3, hr4⟩ := Cut_ev ((m + 1) / 2) (by omega) (d.take m) hdm (by omega)
  have hlt := valB_lt H32_pos hdm
  have h0 := valB_nonneg H32_pos hdm
  rw [hlm] at hlt
  have hp : H32 ^ m ≤ W64 ^ ((m + 1) / 2) := by rw [← H32_pow]; exact pow_leB (by omega)
  have hpp := pow_posB W64_pos ((m + 1) / 2)
  have hmod : valB H32 (d.take m) % (W64 ^ ((m + 1) / 2) * W64) = valB H32 (d.take m) := by
    refine Int.emod_eq_of_lt h0 ?_
    have h1 : W64 ^ ((m + 1) / 2) * 1 ≤ W64 ^ ((m + 1) / 2) * W64 := Int.mul_le_mul_of_nonneg_left (by decide) (Int.le_of_lt hpp)
    rw [Int.mul_one] at h1
    omega
  rw [hmod, hv] at hr4
  rw [hv] at hlt h0
  have hrl := valB_lt W64_pos hr1
  have hr0 := valB_nonneg W64_pos hr1
  rw [hr2] at hrl
  have ht : t = 0 := by
    by_cases ht : t ≤ 0
    · have := hr3.1; omega
    · have h1 : W64 ^ ((m + 1) / 2) * 1 ≤ W64 ^ ((m + 1) / 2) * t := Int.mul_le_mul_of_nonneg_left (by omega) (Int.le_of_lt hpp)
      rw [Int.mul_one] at h1
      omega
  rw [ht, Int.mul_zero, Int.add_zero] at hr4
  have hcan : r = can (valB H32 d) := by
    have h1 := can_of_len hr1 (by
      rw [hr2]
      by_cases hm0 : m = 0
      · left; rw [hm0] at hr2; exact List.eq_nil_of_length_eq_zero hr2
      · right
        rw [hr4, ← hv]
        have h2 := valB_take_succ H32 d (m - 1) (by omega)
        rw [show m - 1 + 1 = m by omega] at h2
        rw [h2]
        have h3 := valB_nonneg H32_pos (inB_take hd (m - 1))
        have h4 : 1 ≤ d.getD (m - 1) 0 := by
          have h5 := (inB_getD H32_pos hd (m - 1)).1
          rcases hnz with h | h
          · exact (hm0 h).elim
          · omega
        have h6 : H32 ^ (m - 1) * 1 ≤ H32 ^ (m - 1) * d.getD (m - 1) 0 := Int.mul_le_mul_of_nonneg_left h4 (Int.le_of_lt (pow_posB H32_pos _))
        rw [Int.mul_one] at h6
        have h7 : W64 ^ ((m + 1) / 2 - 1) ≤ H32 ^ (m - 1) := by rw [← H32_pow]; exact pow_leB (by omega)
        omega)
    rw [hr4] at h1
    exact h1
  have e : wrap64 (Int.tdiv (wrap64 (((d.take m).length : Int) + 1)) 2) = (((m + 1) / 2 : Nat) : Int) := by
    rw [hlm, show ((m : Int) + 1) = ((m + 1 : Nat) : Int) by omega, w64_nat (m + 1) (by omega)]
    exact w64_nat ((m + 1) / 2) (by omega)
  refine Ev.bind hs ?_
  simp only [e]
  refine Ev.bind hc ?_
  rw [← hcan]
  exact Ev.now _
theorem RTrim_ev (x : List Int) (hx : inW x) (hn : x.length ≤ 400000) : Ev (fun k => reckonerref02_Trim.f k x) (can (valB W64 x)) := by
  have h := RNat_ev (digitsL x) (digitsL_in hx) (by rw [digitsL_length]; omega)
  rw [digitsL_val] at h
  exact Ev.bind (Digits_ev x hx (by omega)) (Ev.bind h (Ev.now _))
theorem RCan_some {x : List Int} (h : canL x) (hn : x.length ≤ 400000) : reckonerref02_Canonical.f x = some true := by
  unfold reckonerref02_Canonical.f
  by_cases h0 : x = []
  · subst h0; rfl
  · have hp : 0 < x.length := List.length_pos_iff.2 h0
    have e : wrap64 ((x.length : Int) - 1) = ((x.length - 1 : Nat) : Int) := by rw [← w64_nat (x.length - 1) (by omega)]; congr 1; omega
    have hl : x.getD (x.length - 1) 0 ≠ 0 := by
      intro e
      have h1 := canL_low h h0
      have h2 := valB_take_succ W64 x (x.length - 1) (by omega)
      rw [List.take_of_length_le (by omega), e, Int.mul_zero, Int.add_zero] at h2
      have h3 := valB_lt W64_pos (inB_take (canL_in h) (x.length - 1))
      rw [List.length_take, Nat.min_eq_left (by omega)] at h3
      omega
    rw [if_neg (by omega), e, if_pos (by omega), if_pos (by omega), rd_nat, bne_iff_ne.2 hl]
theorem RIs_ev {v : Int} (y : List Int) (hy : inW y) (hn : y.length ≤ 400000) (h : valB W64 y = v) : Ev (fun k => reckonerref02_Is.f k (can v) y) true := by
  have hv : 0 ≤ v := by rw [← h]; exact valW_nonneg hy
  have hl := can_le hy
  rw [h] at hl
  have ht := RTrim_ev y hy hn
  rw [h] at ht
  have hs := RSame_ev (can v) (can v) (by omega)
  rw [decide_eq_true rfl] at hs
  refine Ev.congr (f := fun k => (reckonerref02_Trim.f k y).bind fun t => (reckonerref01_Same.f k (can v) t).bind fun t => some t) (fun k => ?_) (Ev.bind ht (Ev.bind hs (Ev.now true)))
  show reckonerref02_Is.f k (can v) y = _
  unfold reckonerref02_Is.f
  rw [RCan_some (can_canL hv) (by omega), Option.bind_some, if_pos rfl]
theorem RWord_ev (w : Int) (hw : isW w) : Ev (fun k => reckonerref02_FromWord.f k w) (can w) := by
  have h := RNat_ev [w % H32, w / H32] (word_in w hw) (by simp)
  rw [word_val] at h
  refine Ev.congr (f := fun k => (reckonerref02_nat.f k [w % H32, w / H32]).bind fun t => some t) (fun k => ?_) (Ev.bind h (Ev.now _))
  show reckonerref02_FromWord.f k w = _
  unfold reckonerref02_FromWord.f
  rw [Word_some w hw, Option.bind_some]
theorem RAdd_ev (x y : List Int) (hx : inW x) (hy : inW y) (hn : x.length ≤ 400000) (hm : y.length ≤ 400000) : Ev (fun k => reckonerref02_Add.f k x y) (can (valB W64 x + valB W64 y)) := by
  obtain ⟨p, hp1, hp2, hp3, hp4⟩ := Plus_ev (digitsL x) (digitsL y) (digitsL_in hx) (digitsL_in hy) (by rw [digitsL_length]; omega) (by rw [digitsL_length]; omega)
  rw [digitsL_length, digitsL_length] at hp3
  rw [digitsL_val, digitsL_val] at hp4
  have h := RNat_ev p hp2 (by omega)
  rw [hp4] at h
  exact Ev.bind (Digits_ev x hx (by omega)) (Ev.bind (Digits_ev y hy (by omega)) (Ev.bind hp1 (Ev.bind h (Ev.now _))))
theorem RMul_ev (x y : List Int) (hx : inW x) (hy : inW y) (hn : x.length ≤ 200000) (hm : y.length ≤ 200000) : Ev (fun k => reckonerref02_Mul.f k x y) (can (valB W64 x * valB W64 y)) := by
  obtain ⟨p, hp1, hp2, hp3, hp4⟩ := Times_ev (digitsL x) (digitsL y) (digitsL_in hx) (digitsL_in hy) (by rw [digitsL_length]; omega) (by rw [digitsL_length]; omega)
  rw [digitsL_length, digitsL_length] at hp3
  rw [digitsL_val, digitsL_val] at hp4
  have h := RNat_ev p hp2 (by omega)
  rw [hp4] at h
  exact Ev.bind (Digits_ev x hx (by omega)) (Ev.bind (Digits_ev y hy (by omega)) (Ev.bind hp1 (Ev.bind h (Ev.now _))))
end Go.Proofs.YtkkkbalefnileaaDoor.Ex
/- math/bits.TrailingZeros64: by the library's table. -/
namespace Go.Proofs.YtkkkbalefnileaaDoor.Ex
open Go.RowKit Go.Shelf Go.Proofs.YtkkkbalefnileaaDoorW.PrintWords Go.Proofs.YtkkkbalefnileaaDoorW.PrintLast Go.Proofs.YtkkkbalefnileaaDoorW.PrintMore
set_option linter.unusedVariables false

/-- The library's table, as its initialiser lays it. -/
def LaidT (w : World) : Prop := Go.Proofs.TabAt 1 Lib.deBruijn64tab w
theorem LaidT.below {w w' : World} (h : LaidT w) (hb : Below w.heap.size w w') : LaidT w' := fun i hi => pw_cell_below hb (h i hi)
end Go.Proofs.YtkkkbalefnileaaDoor.Ex
/- Sums, products and the order of small numbers, as the program tells them. -/
namespace Go.Proofs.YtkkkbalefnileaaDoor.Ex
open Go.RowKit Go.Proofs.YtkkkbalefnileaaDoorW.PrintWords Go.Proofs.YtkkkbalefnileaaDoorW.PrintLast Go.Proofs.YtkkkbalefnileaaDoorW.PrintMore Go.Proofs.YtkkkbalefnileaaDoor.T
set_option linter.unusedVariables false
set_option linter.unusedSimpArgs false

theorem fitV_small {v : Int} (h0 : 0 ≤ v) (n : Nat) (h : v < W64 ^ n) (hn : n ≤ 4096) : fitV v = (can v, 0) := by
  have := can_short h0 h
  unfold fitV
  rw [if_pos (by omega)]
theorem sum_small {a b : List Int} (ha : inW a) (hb : inW b) (n : Nat) (hla : a.length ≤ n) (hlb : b.length ≤ n) : valB W64 a + valB W64 b < W64 ^ (n + 1) := by
  have h1 := valB_lt W64_pos ha
  have h2 := valB_lt W64_pos hb
  have h3 := pow_mono (B := W64) (by decide) hla
  have h4 := pow_mono (B := W64) (by decide) hlb
  have h5 := pow_posB W64_pos n
  rw [Int.pow_succ]
  have h6 : W64 ^ n * 2 ≤ W64 ^ n * W64 := Int.mul_le_mul_of_nonneg_left (by decide) (Int.le_of_lt h5)
  omega
theorem mul_small {a b : List Int} (ha : inW a) (hb : inW b) (n m : Nat) (hla : a.length ≤ n) (hlb : b.length ≤ m) : valB W64 a * valB W64 b < W64 ^ (n + m) := by
  have h1 := valB_lt W64_pos ha
  have h2 := valB_lt W64_pos hb
  have h3 := pow_mono (B := W64) (by decide) hla
  have h4 := pow_mono (B := W64) (by decide) hlb
  have h5 := valB_nonneg W64_pos hb
  rw [Int.pow_add]
  exact Int.lt_of_le_of_lt (Int.mul_le_mul_of_nonneg_right (by omega : valB W64 a ≤ W64 ^ n) h5) (Int.mul_lt_mul_of_pos_left (by omega) (pow_posB W64_pos n))
theorem NMul_some {a b : List Int} (ha : inW a) (hb : inW b) (hla : a.length ≤ 1000) (hlb : b.length ≤ 1000) : nat_Mul.f a b = some (can (valB W64 a * valB W64 b), 0) := by
  unfold nat_Mul.f
  rw [if_pos ⟨ha, hb⟩, if_pos ⟨by omega, by omega⟩, fitV_small (Int.mul_nonneg (valW_nonneg ha) (valW_nonneg hb)) _ (mul_small ha hb 1000 1000 hla hlb) (by decide)]
theorem NAdd_len {x y : List Int} (hx : inW x) (hy : inW y) (n : Nat) (h1 : x.length ≤ n) (h2 : y.length ≤ n) (hn : n ≤ 1000) : nat_Add.f x y = some (can (valB W64 x + valB W64 y), 0) ∧ (can (valB W64 x + valB W64 y)).length ≤ n + 1 := by
  have v0 : 0 ≤ valB W64 x + valB W64 y := by have := valW_nonneg hx; have := valW_nonneg hy; omega
  have hs := sum_small hx hy n h1 h2
  unfold nat_Add.f
  rw [if_pos ⟨hx, hy⟩, if_pos ⟨by omega, by omega⟩, fitV_small v0 (n + 1) hs (by omega)]
  exact ⟨rfl, can_short v0 hs⟩
theorem NMul_len {x y : List Int} (hx : inW x) (hy : inW y) (n m : Nat) (h1 : x.length ≤ n) (h2 : y.length ≤ m) (hn : n ≤ 1000) (hm : m ≤ 1000) : nat_Mul.f x y = some (can (valB W64 x * valB W64 y), 0) ∧ (can (valB W64 x * valB W64 y)).length ≤ n + m :=
  ⟨NMul_some hx hy (by omega) (by omega), can_short (Int.mul_nonneg (valW_nonneg hx) (valW_nonneg hy)) (mul_small hx hy n m h1 h2)⟩
theorem NCmp_same {x y : List Int} (hx : inW x) (hy : inW y) (h1 : x.length ≤ 1000) (h2 : y.length ≤ 1000) (h : valB W64 x = valB W64 y) : nat_Cmp.f x y = some 0 := by
  unfold nat_Cmp.f
  rw [if_pos ⟨hx, hy, by omega, by omega⟩, h]
  unfold cmpI
  rw [if_neg (Int.lt_irrefl _), if_neg (Int.lt_irrefl _)]
end Go.Proofs.YtkkkbalefnileaaDoor.Ex
/- The reference's Parse; what every law asks beside: awake. -/
namespace Go.Proofs.YtkkkbalefnileaaDoor.Ex
open Go.RowKit Go.Proofs.YtkkkbalefnileaaDoorW.PrintWords Go.Proofs.YtkkkbalefnileaaDoorW.PrintLast Go.Proofs.YtkkkbalefnileaaDoorW.PrintMore Go.Proofs.YtkkkbalefnileaaDoor.T
set_option linter.unusedVariables false
set_option linter.unusedSimpArgs false

/-- The number of the digits from place i on, behind v. -/
def pv (s : ByteArray) : Nat → Nat → Int → Int
  | _, 0, v => v
  | i, n + 1, v => pv s (i + 1) n (v * 10 + (bt s (i : Int) - 48) % 256)
theorem Parse_loop (s : ByteArray) (hs : s.size ≤ 1000) (n : Nat) : ∀ (i : Nat) (v : Int), i + n = s.size → 0 ≤ v → v < W64 ^ (i + 1) → Ev (fun k => reckonerref02_Parse.l0 k s (can v) (i : Int)) (can (pv s i n v)) := by
  induction n with
  | zero =>
    intro i v hi h0 h1
    refine Ev.now' fun k => ?_
    rw [reckonerref02_Parse.l0, if_neg (by omega)]
    rfl
  | succ n IH =>
    intro i v hi h0 h1
    have e1 : wrap64 ((i : Int) + 1) = ((i + 1 : Nat) : Int) := by rw [← w64_nat (i + 1) (by omega)]; rfl
    have hd0 : 0 ≤ (bt s (i : Int) - 48) % 256 := Int.emod_nonneg _ (by decide)
    have hd1 : (bt s (i : Int) - 48) % 256 < 256 := Int.emod_lt_of_pos _ (by decide)
    have hdw : isW ((bt s (i : Int) - 48) % 256) := by unfold isW; rw [W64_eq]; omega
    have htw : isW 10 := by decide
    have hl := can_short h0 h1
    have r1 := RWord_ev 10 htw
    have r2 := RMul_ev (can v) (can 10) (can_in h0) (can_in (by decide)) (by omega) (by decide)
    rw [can_val h0, can_val (by decide)] at r2
    have r3 := RWord_ev _ hdw
    have hp := pow_posB W64_pos (i + 1)
    have hb : v * 10 + (bt s (i : Int) - 48) % 256 < W64 ^ (i + 1 + 1) := by
      rw [Int.pow_succ _ (i + 1)]
      have h2 : W64 ^ (i + 1) * 1000 ≤ W64 ^ (i + 1) * W64 := Int.mul_le_mul_of_nonneg_left (by decide) (Int.le_of_lt hp)
      omega
    have hm0 : 0 ≤ v * 10 := by omega
    have hm1 : v * 10 < W64 ^ (i + 1 + 1) := by omega
    have hml := can_short hm0 hm1
    have hwl : (can ((bt s (i : Int) - 48) % 256)).length ≤ 1 := can_short hd0 (by rw [Int.pow_succ, Int.pow_zero, Int.one_mul]; exact hdw.2)
    have r4 := RAdd_ev (can (v * 10)) (can ((bt s (i : Int) - 48) % 256)) (can_in hm0) (can_in hd0) (by omega) (by omega)
    rw [can_val hm0, can_val hd0] at r4
    have ih := IH (i + 1) (v * 10 + (bt s (i : Int) - 48) % 256) (by omega) (by omega) hb
    refine Ev.step (f := fun k => (reckonerref02_FromWord.f k 10).bind fun t => (reckonerref02_Mul.f k (can v) t).bind fun t2 => (reckonerref02_FromWord.f k ((bt s (i : Int) - 48) % 256)).bind fun t3 => (reckonerref02_Add.f k t2 t3).bind fun t4 => reckonerref02_Parse.l0 k s t4 ((i + 1 : Nat) : Int)) (fun k => ?_) (Ev.bind r1 (Ev.bind r2 (Ev.bind r3 (Ev.bind r4 ih))))
    show reckonerref02_Parse.l0 (k + 1) s (can v) (i : Int) = _
    rw [reckonerref02_Parse.l0, if_pos (by omega)]
    simp only [if_pos (show (0 : Int) ≤ (i : Int) by omega), e1]
theorem Parse_ev (s : ByteArray) (hs : s.size ≤ 1000) (v : Int) (h : pv s 0 s.size 0 = v) : Ev (fun k => reckonerref02_Parse.f k s) (can v) := by
  have h1 := Parse_loop s hs s.size 0 0 (by omega) (Int.le_refl 0) (by decide)
  rw [h] at h1
  exact h1
theorem aw1 : nat_Pow.f [10] 20 = some (can 100000000000000000000, 0) := by
  have e : valB W64 [10] ^ (20 : Int).toNat = 100000000000000000000 := by decide
  have hl : (can 100000000000000000000).length ≤ 4096 := Nat.le_trans (can_short (n := 2) (by decide) (by decide)) (by decide)
  unfold nat_Pow.f
  rw [if_pos (by decide), if_pos (by decide), if_neg (by decide), e]
  unfold fitV
  rw [if_pos hl]
theorem aw2 : nat_Square.f [18446744073709551615] = some (can 340282366920938463426481119284349108225, 0) := by
  have e : valB W64 [18446744073709551615] * valB W64 [18446744073709551615] = 340282366920938463426481119284349108225 := by decide
  have hl : (can 340282366920938463426481119284349108225).length ≤ 4096 := Nat.le_trans (can_short (n := 2) (by decide) (by decide)) (by decide)
  unfold nat_Square.f
  rw [if_pos (by decide), if_pos (by decide), e]
  unfold fitV
  rw [if_pos hl]
theorem aw3 : nat_DivMod.f [7766279631452241920, 5] [3] = some (can 33333333333333333333, can 1, 0) := by
  have e1 : valB W64 [7766279631452241920, 5] / valB W64 [3] = 33333333333333333333 := by decide
  have e2 : valB W64 [7766279631452241920, 5] % valB W64 [3] = 1 := by decide
  unfold nat_DivMod.f
  rw [if_pos (by decide), if_pos (by decide), if_neg (by decide), e1, e2]
theorem aw4 : nat_Sub.f [1] [2] = some ([], 8) := by
  unfold nat_Sub.f
  rw [if_pos (by decide), if_pos (by decide), if_pos (by decide)]
theorem awake_ev : Ev (fun k => reckonerlaw02_awake.f k) true := by
  have p1 := Parse_ev ⟨#[49, 48, 48, 48, 48, 48, 48, 48, 48, 48, 48, 48, 48, 48, 48, 48, 48, 48, 48, 48, 48]⟩ (by decide) 100000000000000000000 (by decide +kernel)
  have p2 := Parse_ev ⟨#[51, 51, 51, 51, 51, 51, 51, 51, 51, 51, 51, 51, 51, 51, 51, 51, 51, 51, 51, 51]⟩ (by decide) 33333333333333333333 (by decide +kernel)
  have l1 : (can 100000000000000000000).length ≤ 2 := can_short (by decide) (by decide)
  have l2 : (can 33333333333333333333).length ≤ 2 := can_short (by decide) (by decide)
  have i1 := RIs_ev (can 100000000000000000000) (can_in (by decide)) (by omega) (can_val (by decide))
  have i2 := RIs_ev (v := 340282366920938463426481119284349108225) [1, 18446744073709551614] (by decide) (by decide) (by decide)
  have i3 := RIs_ev (can 33333333333333333333) (can_in (by decide)) (by omega) (can_val (by decide))
  have i4 := RIs_ev (v := 1) [1] (by decide) (by decide) (by decide)
  refine Ev.congr (f := fun k => (reckonerref02_Parse.f k (⟨#[49, 48, 48, 48, 48, 48, 48, 48, 48, 48, 48, 48, 48, 48, 48, 48, 48, 48, 48, 48, 48]⟩ : ByteArray)).bind fun t280 => ((reckonerref02_Is.f k (can 100000000000000000000) t280).bind fun t283 => (if t283 = true then ((reckonerref02_Is.f k (can 340282366920938463426481119284349108225) (([1, 18446744073709551614] : List Int))).bind fun t287 => (if t287 = true then ((reckonerref02_Parse.f k (⟨#[51, 51, 51, 51, 51, 51, 51, 51, 51, 51, 51, 51, 51, 51, 51, 51, 51, 51, 51, 51]⟩ : ByteArray)).bind fun t288 => ((reckonerref02_Is.f k (can 33333333333333333333) t288).bind fun t291 => (if t291 = true then ((reckonerref02_Is.f k (can 1) (([1] : List Int))).bind fun t295 => (if t295 = true then (some ((8 : Int) == 8)) else (none))) else (none)))) else (none))) else (none)))) (fun k => ?_) (Ev.bind p1 (Ev.bind i1 ?_))
  · show reckonerlaw02_awake.f k = _
    unfold reckonerlaw02_awake.f
    rw [aw1, aw2, aw3, aw4]
    rfl
  · simp only [if_true]
    refine Ev.bind i2 ?_
    simp only [if_true]
    refine Ev.bind p2 (Ev.bind i3 ?_)
    simp only [if_true]
    refine Ev.bind i4 ?_
    simp only [if_true]
    exact Ev.now true
end Go.Proofs.YtkkkbalefnileaaDoor.Ex
/- The bits of a word: what the library's OnesCount64 calculates; what is counted bit by bit. No program here. -/
namespace Go.Proofs.YtkkkbalefnileaaDoor.Ex
open Go Go.Lib
set_option linter.unusedVariables false

def f1 (b : Nat) : Nat := (b / 2 &&& 85) + (b &&& 85)
def f2 (b : Nat) : Nat := (b / 4 &&& 51) + (b &&& 51)
end Go.Proofs.YtkkkbalefnileaaDoor.Ex
/- The bits of a value: how many are set, which is the lowest. No program here. -/
namespace Go.Proofs.YtkkkbalefnileaaDoor.Ex
open Go.RowKit Go.Proofs.YtkkkbalefnileaaDoorW.PrintWords Go.Proofs.YtkkkbalefnileaaDoorW.PrintLast Go.Proofs.YtkkkbalefnileaaDoorW.PrintMore Go.Proofs.YtkkkbalefnileaaDoor.T
set_option linter.unusedVariables false
set_option linter.unusedSimpArgs false

/-- t is the lowest bit below n that is set (d if none is). -/
def LowB (v : Int) (n : Nat) (d t : Int) : Prop := (∃ j : Nat, j < n ∧ t = (j : Int) ∧ v / 2 ^ j % 2 = 1 ∧ ∀ i, i < j → v / 2 ^ i % 2 = 0) ∨ (t = d ∧ ∀ i, i < n → v / 2 ^ i % 2 = 0)
theorem LowB.one {v : Int} {n : Nat} {d t t' : Int} (h : LowB v n d t) (h' : LowB v n d t') : t = t' := by
  rcases h with ⟨j, h1, h2, h3, h4⟩ | ⟨h1, h2⟩ <;> rcases h' with ⟨j', k1, k2, k3, k4⟩ | ⟨k1, k2⟩
  · rcases Nat.lt_trichotomy j j' with c | c | c
    · have := k4 j c; omega
    · subst c; rw [h2, k2]
    · have := h4 j' c; omega
  · have := k2 j h1; omega
  · have := h2 j' k1; omega
  · rw [h1, k1]
theorem bit_beyond {v : Int} (h0 : 0 ≤ v) {n i : Nat} (h : v < 2 ^ n) (hi : n ≤ i) : v / 2 ^ i % 2 = 0 := by
  rw [Int.ediv_eq_zero_of_lt h0 (Int.lt_of_lt_of_le h (pow_mono (by decide) hi))]
  rfl
theorem LowB.more {v : Int} (h0 : 0 ≤ v) {n m : Nat} {d t : Int} (h : LowB v n d t) (hv : v < 2 ^ n) (hm : n ≤ m) : LowB v m d t := by
  rcases h with ⟨j, h1, h2, h3, h4⟩ | ⟨h1, h2⟩
  · exact Or.inl ⟨j, by omega, h2, h3, h4⟩
  · refine Or.inr ⟨h1, fun i hi => ?_⟩
    by_cases hin : i < n
    · exact h2 i hin
    · exact bit_beyond h0 hv (by omega)
end Go.Proofs.YtkkkbalefnileaaDoor.Ex
/- The reference's joined numbers, and its numbers with another bit. -/
namespace Go.Proofs.YtkkkbalefnileaaDoor.Ex
open Go.RowKit Go.Proofs.YtkkkbalefnileaaDoorW.PrintWords Go.Proofs.YtkkkbalefnileaaDoorW.PrintLast Go.Proofs.YtkkkbalefnileaaDoorW.PrintMore Go.Proofs.YtkkkbalefnileaaDoor.T
set_option linter.unusedVariables false
set_option linter.unusedSimpArgs false

theorem and_one (x : Int) (hx : isW x) : bits .and .u64 x 1 = Int.tmod x 2 := by
  obtain ⟨X, rfl⟩ := Int.eq_ofNat_of_zero_le hx.1
  have hX := hx.2
  rw [W64_eq] at hX
  have h := bits_and_u64_nat X 1 (by omega) (by decide)
  rw [Nat.and_one_is_mod] at h
  rw [Int.tmod_eq_emod_of_nonneg (by omega)]
  exact h
/-- Joined word by word, up to the end of the longer one. -/
def joinM (g : Int → Int → Int) (x y : List Int) : List Int := (List.range (max x.length y.length)).map fun i => g (x.getD i 0) (y.getD i 0)
theorem joinM_in {g : Int → Int → Int} (hg : ∀ x y, isW x → isW y → isW (g x y)) {x y : List Int} (hx : inW x) (hy : inW y) : inW (joinM g x y) := by
  intro z hz
  simp only [joinM, List.mem_map] at hz
  obtain ⟨i, _, rfl⟩ := hz
  exact hg _ _ (isW_get hx i) (isW_get hy i)
theorem joinM_len (g : Int → Int → Int) (x y : List Int) : (joinM g x y).length = max x.length y.length := by simp [joinM]
theorem joinR_eq (op : BinOp) (hc : ∀ a b, bits op .u64 a b = bits op .u64 b a) (x y : List Int) : joinR op x y = joinM (bits op .u64) x y := by
  unfold joinR joinL joinM
  by_cases h : x.length < y.length
  · rw [if_pos h, Nat.max_eq_right (by omega)]
    exact List.map_congr_left fun i _ => hc _ _
  · rw [if_neg h, Nat.max_eq_left (by omega)]
theorem and_comm64 (a b : Int) : bits .and .u64 a b = bits .and .u64 b a := by
  show IntKind.u64.wrap ((BitVec.ofInt 64 a &&& BitVec.ofInt 64 b).toNat : Int) = IntKind.u64.wrap ((BitVec.ofInt 64 b &&& BitVec.ofInt 64 a).toNat : Int)
  rw [BitVec.and_comm]
theorem or_comm64 (a b : Int) : bits .or .u64 a b = bits .or .u64 b a := by
  show IntKind.u64.wrap ((BitVec.ofInt 64 a ||| BitVec.ofInt 64 b).toNat : Int) = IntKind.u64.wrap ((BitVec.ofInt 64 b ||| BitVec.ofInt 64 a).toNat : Int)
  rw [BitVec.or_comm]
theorem xor_comm64 (a b : Int) : bits .xor .u64 a b = bits .xor .u64 b a := by
  show IntKind.u64.wrap ((BitVec.ofInt 64 a ^^^ BitVec.ofInt 64 b).toNat : Int) = IntKind.u64.wrap ((BitVec.ofInt 64 b ^^^ BitVec.ofInt 64 a).toNat : Int)
  rw [BitVec.xor_comm]
end Go.Proofs.YtkkkbalefnileaaDoor.Ex
/- NatPowersOfTwo: the plain law, by the numbers' values. -/
namespace Go.Proofs.YtkkkbalefnileaaDoor.Ex
open Go.RowKit Go.Proofs.YtkkkbalefnileaaDoorW.PrintWords Go.Proofs.YtkkkbalefnileaaDoorW.PrintLast Go.Proofs.YtkkkbalefnileaaDoorW.PrintMore Go.Proofs.YtkkkbalefnileaaDoor.T
set_option linter.unusedVariables false
set_option linter.unusedSimpArgs false

/-- The bits of two numbers: and, or, exclusive or. -/
theorem join_words : ∀ n a b : Nat, a < 2 ^ n → (a &&& b) + (a ||| b) = a + b ∧ (a ^^^ b) + (a &&& b) = a ||| b
  | 0, a, b, h => by
    obtain rfl : a = 0 := by simpa using h
    simp
  | n + 1, a, b, h => by
    rw [Nat.pow_succ] at h
    obtain ⟨i1, i2⟩ := join_words n (a / 2) (b / 2) (by omega)
    have d1 : (a &&& b) / 2 = a / 2 &&& b / 2 := Nat.and_div_two
    have d2 : (a ||| b) / 2 = a / 2 ||| b / 2 := Nat.or_div_two
    have d3 : (a ^^^ b) / 2 = a / 2 ^^^ b / 2 := Nat.xor_div_two
    have m1 : (a &&& b) % 2 = a % 2 &&& b % 2 := Nat.and_mod_two_pow (n := 1)
    have m2 : (a ||| b) % 2 = a % 2 ||| b % 2 := Nat.or_mod_two_pow (n := 1)
    have m3 : (a ^^^ b) % 2 = a % 2 ^^^ b % 2 := Nat.xor_mod_two_pow (n := 1)
    rw [← d1, ← d2] at i1
    rw [← d1, ← d2, ← d3] at i2
    have hb : (a % 2 &&& b % 2) + (a % 2 ||| b % 2) = a % 2 + b % 2 ∧ (a % 2 ^^^ b % 2) + (a % 2 &&& b % 2) = a % 2 ||| b % 2 := by
      rcases Nat.mod_two_eq_zero_or_one a with h1 | h1 <;> rcases Nat.mod_two_eq_zero_or_one b with h2 | h2 <;> rw [h1, h2] <;> decide
    obtain ⟨b1, b2⟩ := hb
    rw [← m1, ← m2] at b1
    rw [← m1, ← m2, ← m3] at b2
    omega
theorem join_ints (a b : Int) (ha : isW a) (hb : isW b) : bits .and .u64 a b + bits .or .u64 a b = a + b ∧ bits .xor .u64 a b + bits .and .u64 a b = bits .or .u64 a b := by
  obtain ⟨A, rfl⟩ := Int.eq_ofNat_of_zero_le ha.1
  obtain ⟨B, rfl⟩ := Int.eq_ofNat_of_zero_le hb.1
  have hA := ha.2
  have hB := hb.2
  rw [W64_eq] at hA hB
  have h1 := bits_and_u64_nat A B (by omega) (by omega)
  have h2 := bits_or_u64_nat A B (by omega) (by omega)
  have h3 := bits_xor_u64_nat A B (by omega) (by omega)
  obtain ⟨e1, e2⟩ := join_words 64 A B (by omega)
  rw [h1, h2, h3]
  omega
theorem joinM_val (g : Int → Int → Int) (x y : List Int) : valB W64 (joinM g x y) = sumB W64 (fun j => g (x.getD j 0) (y.getD j 0)) 0 (max x.length y.length) := by
  have h := sumB_all W64 (joinM g x y)
  rw [← h, joinM_len]
  refine sumB_congr W64 _ _ (fun j _ hj => ?_)
  have hj2 : j < max x.length y.length := by omega
  simp [joinM, List.getD_eq_getElem?_getD, List.getElem?_map, List.getElem?_range hj2]
theorem join_vals (x y : List Int) (hx : inW x) (hy : inW y) :
    valB W64 (joinM (bits .and .u64) x y) + valB W64 (joinM (bits .or .u64) x y) = valB W64 x + valB W64 y ∧ valB W64 (joinM (bits .xor .u64) x y) + valB W64 (joinM (bits .and .u64) x y) = valB W64 (joinM (bits .or .u64) x y) := by
  have ex := sumB_pad W64 x (max x.length y.length) (by omega)
  have ey := sumB_pad W64 y (max x.length y.length) (by omega)
  rw [joinM_val, joinM_val, joinM_val, ← sumB_add, ← sumB_add]
  refine ⟨?_, ?_⟩
  · rw [← ex, ← ey, ← sumB_add]
    exact sumB_congr W64 _ _ (fun j _ _ => (join_ints _ _ (isW_get hx j) (isW_get hy j)).1)
  · exact sumB_congr W64 _ _ (fun j _ _ => (join_ints _ _ (isW_get hx j) (isW_get hy j)).2)
/-- The length of a product. -/
theorem len_mul {u v : Int} (hu : 0 < u) (hv : 0 < v) : lenL (can (u * v)) = lenL (can u) + lenL (can v) ∨ lenL (can (u * v)) = lenL (can u) + lenL (can v) - 1 := by
  have hp := Int.mul_pos hu hv
  have nn : ∀ t : Int, 0 < t → 1 ≤ lenL (can t) ∧ 2 ^ (lenL (can t) - 1).toNat ≤ t ∧ t < 2 ^ (lenL (can t)).toNat := fun t ht => by
    have h0 : can t ≠ [] := fun e => by have := (can_nil_iff (by omega)).1 e; omega
    obtain ⟨b1, b2, b3, b4, b5⟩ := lenL_bounds (can_canL (v := t) (by omega)) h0
    rw [can_val (by omega)] at b4 b5
    exact ⟨b1, b4, b5⟩
  obtain ⟨u1, u2, u3⟩ := nn u hu
  obtain ⟨v1, v2, v3⟩ := nn v hv
  obtain ⟨p1, p2, p3⟩ := nn (u * v) hp
  generalize lenL (can u) = U at *
  generalize lenL (can v) = V at *
  generalize lenL (can (u * v)) = P at *
  have h1 : (2 : Int) ^ (U - 1).toNat * 2 ^ (V - 1).toNat ≤ u * v := Int.mul_le_mul u2 v2 (Int.pow_nonneg (by decide)) (by omega)
  have h2 : u * v < (2 : Int) ^ U.toNat * 2 ^ V.toNat := by
    have a1 : u * v < 2 ^ U.toNat * v := Int.mul_lt_mul_of_pos_right u3 hv
    have a2 : (2 : Int) ^ U.toNat * v ≤ 2 ^ U.toNat * 2 ^ V.toNat := Int.mul_le_mul_of_nonneg_left (Int.le_of_lt v3) (Int.pow_nonneg (by decide))
    exact Int.lt_of_lt_of_le a1 a2
  rw [← Int.pow_add] at h1 h2
  have lt_of : ∀ m n : Nat, (2 : Int) ^ m < 2 ^ n → m < n := fun m n h => by
    rcases Nat.lt_or_ge m n with h3 | h3
    · exact h3
    · exact absurd h (Int.not_lt.2 (pow_mono (by decide) h3))
  have l1 := lt_of _ _ (Int.lt_of_le_of_lt h1 p3)
  have l2 := lt_of _ _ (Int.lt_of_le_of_lt p2 h2)
  omega
theorem pureNatPowersOfTwo : reckonerlaw02_NatPowersOfTwo.Pure := by
  intro l0 l1 a2 _ h0 hw0 _ h1 hw1 hw2
  have f0 := few_some l0 20 (by omega)
  have f1 := few_some l1 20 (by omega)
  have ha := inW_take (inW_of_wf hw0) 20
  have hb := inW_take (inW_of_wf hw1) 20
  have hla : (l0.take 20).length ≤ 20 := by rw [List.length_take]; omega
  have hlb : (l1.take 20).length ≤ 20 := by rw [List.length_take]; omega
  generalize l0.take 20 = a at *
  generalize l1.take 20 = b at *
  rw [show ((20 : Nat) : Int) = 20 from rfl] at f0 f1
  obtain ⟨n, hn, hn7⟩ : ∃ n : Nat, wrap64 (Int.tmod (IntKind.u64.wrap a2) 700) = (n : Int) ∧ n < 700 := by
    have u0 : 0 ≤ IntKind.u64.wrap a2 := Int.emod_nonneg a2 (by decide : (18446744073709551616 : Int) ≠ 0)
    have t0 := Int.tmod_eq_emod_of_nonneg (b := 700) u0
    rw [t0]
    have m0 := Int.emod_nonneg (IntKind.u64.wrap a2) (show (700 : Int) ≠ 0 by decide)
    have m1 := Int.emod_lt_of_pos (IntKind.u64.wrap a2) (show (0 : Int) < 700 by decide)
    generalize IntKind.u64.wrap a2 % 700 = t at *
    rw [w64_int _ (by omega) (by omega)]
    exact ⟨t.toNat, by omega, by omega⟩
  have va := valW_nonneg ha
  have vb := valW_nonneg hb
  have alt := valB_lt W64_pos ha
  have hp := pow_posB (B := 2) (by decide) n
  have hp11 : (2 : Int) ^ n < W64 ^ 11 := by rw [pow2_W]; exact Int.pow_lt_pow_of_lt (by decide) (by omega)
  have c2 : inW (can (2 ^ n)) := can_in (by omega)
  have v2 : valB W64 (can (2 ^ n)) = 2 ^ n := can_val (by omega)
  have l2 := can_short (v := 2 ^ n) (by omega) hp11
  have g1 : nat_Pow.f [2] (n : Int) = some (can (2 ^ n), 0) := by
    have e2 : valB W64 [2] = 2 := by simp [valB]
    have i2 : inW [2] := fun z hz => by rw [List.mem_singleton.1 hz]; decide
    unfold nat_Pow.f
    rw [if_pos i2, if_pos (by show (1 : Nat) ≤ 4096; decide), if_neg (by omega), e2, Int.toNat_natCast, fitV_small (by omega) 11 hp11 (by decide)]
  obtain ⟨g3, k3⟩ := NMul_len ha c2 20 11 hla l2 (by decide) (by decide)
  rw [v2] at g3 k3
  have m0 : 0 ≤ valB W64 a * 2 ^ n := Int.mul_nonneg va (by omega)
  have g2 : nat_Left.f a (n : Int) = some (can (valB W64 a * 2 ^ n), 0) := by
    unfold nat_Left.f fitV
    rw [if_pos ha, if_pos (by omega), if_pos (by omega), Int.toNat_natCast, if_pos (by omega)]
  have q0 : 0 ≤ valB W64 a / 2 ^ n := Int.ediv_nonneg va (by omega)
  have r0 : 0 ≤ valB W64 a % 2 ^ n := Int.emod_nonneg _ (by omega)
  have hz : ¬ valB W64 (can (2 ^ n)) = 0 := by rw [v2]; omega
  have g4 : nat_DivMod.f a (can (2 ^ n)) = some (can (valB W64 a / 2 ^ n), can (valB W64 a % 2 ^ n), 0) := by
    unfold nat_DivMod.f
    rw [if_pos ⟨ha, c2⟩, if_pos ⟨by omega, by omega⟩, if_neg hz, v2]
  have g5 : nat_Right.f a (n : Int) = some (can (valB W64 a / 2 ^ n), 0) := by
    unfold nat_Right.f
    rw [if_pos ha, if_pos (by omega), if_pos (by omega), Int.toNat_natCast]
  have g6 : nat_Low.f a (n : Int) = some (can (valB W64 a % 2 ^ n), 0) := by
    unfold nat_Low.f
    rw [if_pos ha, if_pos (by omega), if_pos (by omega), Int.toNat_natCast]
  have ql : valB W64 a / 2 ^ n < W64 ^ 20 := Int.lt_of_le_of_lt (Int.ediv_le_self _ va) (Int.lt_of_lt_of_le alt (pow_mono (by decide) hla))
  have rl : valB W64 a % 2 ^ n < W64 ^ 11 := Int.lt_trans (Int.emod_lt_of_pos _ hp) hp11
  have ql2 := can_short q0 ql
  have rl2 := can_short r0 rl
  have s1 := NCmp_same (can_in m0) (can_in m0) (by omega) (by omega) rfl
  have s2 := NCmp_same (can_in q0) (can_in q0) (by omega) (by omega) rfl
  have s3 := NCmp_same (can_in r0) (can_in r0) (by omega) (by omega) rfl
  -- the second half
  obtain ⟨t1, t2⟩ := join_vals a b ha hb
  have hJ := fun op (hg : ∀ x y, isW x → isW y → isW (bits op .u64 x y)) => joinM_in (g := bits op .u64) hg ha hb
  have nA := valW_nonneg (hJ .and bits_in_and)
  have nO := valW_nonneg (hJ .or bits_in_or)
  have nX := valW_nonneg (hJ .xor bits_in_xor)
  have lA := can_le (hJ .and bits_in_and)
  have lO := can_le (hJ .or bits_in_or)
  have lX := can_le (hJ .xor bits_in_xor)
  rw [joinM_len] at lA lO lX
  have jf : ∀ s, nat_join.f a b s = if s = andS then some (can (valB W64 (joinR .and a b)), 0) else if s = orS then some (can (valB W64 (joinR .or a b)), 0) else if s = xorS then some (can (valB W64 (joinR .xor a b)), 0) else none := fun s => by
    unfold nat_join.f
    rw [if_pos ⟨ha, hb⟩, if_pos ⟨by omega, by omega⟩]
  have b1 : nat_And.f a b = some (can (valB W64 (joinM (bits .and .u64) a b)), 0) := by
    have h : nat_join.f a b andS = some (can (valB W64 (joinM (bits .and .u64) a b)), 0) := by rw [jf, if_pos rfl, joinR_eq _ and_comm64]
    unfold nat_And.f
    rw [h, Option.bind_some]
  have b2 : nat_Or.f a b = some (can (valB W64 (joinM (bits .or .u64) a b)), 0) := by
    have h : nat_join.f a b orS = some (can (valB W64 (joinM (bits .or .u64) a b)), 0) := by rw [jf, if_neg (by decide), if_pos rfl, joinR_eq _ or_comm64]
    unfold nat_Or.f
    rw [h, Option.bind_some]
  have b3 : nat_Xor.f a b = some (can (valB W64 (joinM (bits .xor .u64) a b)), 0) := by
    have h : nat_join.f a b xorS = some (can (valB W64 (joinM (bits .xor .u64) a b)), 0) := by rw [jf, if_neg (by decide), if_neg (by decide), if_pos rfl, joinR_eq _ xor_comm64]
    unfold nat_Xor.f
    rw [h, Option.bind_some]
  generalize valB W64 (joinM (bits .and .u64) a b) = NA at *
  generalize valB W64 (joinM (bits .or .u64) a b) = NO at *
  generalize valB W64 (joinM (bits .xor .u64) a b) = NX at *
  obtain ⟨b4, k4⟩ := NAdd_len (can_in nA) (can_in nO) 20 (by omega) (by omega) (by decide)
  rw [can_val nA, can_val nO, t1] at b4 k4
  obtain ⟨b5, k5⟩ := NAdd_len ha hb 20 hla hlb (by decide)
  have b6 : nat_Sub.f (can NO) (can NA) = some (can NX, 0) := by
    unfold nat_Sub.f
    rw [if_pos ⟨can_in nO, can_in nA⟩, if_pos ⟨by omega, by omega⟩, can_val nO, can_val nA, if_neg (by omega)]
    congr 3
    omega
  obtain ⟨b7, k7⟩ := NMul_len ha hb 20 20 hla hlb (by decide) (by decide)
  have ab0 : 0 ≤ valB W64 a + valB W64 b := by omega
  have s4 := NCmp_same (can_in ab0) (can_in ab0) (by omega) (by omega) rfl
  have s5 := NCmp_same (can_in nX) (can_in nX) (by omega) (by omega) rfl
  have abm : 0 ≤ valB W64 a * valB W64 b := Int.mul_nonneg va vb
  have fla : nat_Len.f a = some (lenL (can (valB W64 a))) := by unfold nat_Len.f; rw [if_pos ⟨ha, by omega⟩]
  have flb : nat_Len.f b = some (lenL (can (valB W64 b))) := by unfold nat_Len.f; rw [if_pos ⟨hb, by omega⟩]
  have flm : nat_Len.f (can (valB W64 a * valB W64 b)) = some (lenL (can (valB W64 a * valB W64 b))) := by unfold nat_Len.f; rw [if_pos ⟨can_in abm, by omega⟩, can_val abm]
  have len0 : ∀ v : Int, 0 ≤ v → (lenL (can v) = 0 ↔ v = 0) := fun v hv => by
    constructor
    · intro h
      rcases Int.lt_or_le 0 v with h1 | h1
      · have h0 : can v ≠ [] := fun e => by have := (can_nil_iff (by omega)).1 e; omega
        obtain ⟨b1, _⟩ := lenL_bounds (can_canL (v := v) (by omega)) h0
        omega
      · omega
    · rintro rfl; rfl
  have lenU : ∀ v : Int, 0 ≤ v → (can v).length ≤ 40 → 0 ≤ lenL (can v) ∧ lenL (can v) ≤ 2560 := fun v hv hl => by
    by_cases h0 : can v = []
    · rw [h0]; decide
    · obtain ⟨b1, b2, b3, _⟩ := lenL_bounds (can_canL (v := v) hv) h0
      omega
  have ua := lenU _ va (by have := can_le ha; omega)
  have ub := lenU _ vb (by have := can_le hb; omega)
  have za := len0 _ va
  have zb := len0 _ vb
  have zm := len0 _ abm
  have hm := fun h1 h2 => len_mul (u := valB W64 a) (v := valB W64 b) h1 h2
  have h3 : Ev (fun k => reckonerlaw02_NatPowersOfTwo.j2 k a b (can (valB W64 a * valB W64 b)) (decide (valB W64 a = 0 ∨ valB W64 b = 0))) true := by
    by_cases hc : valB W64 a = 0 ∨ valB W64 b = 0
    · have e0 : lenL (can (valB W64 a * valB W64 b)) = 0 := zm.2 (by rcases hc with h | h <;> rw [h] <;> simp)
      rw [decide_eq_true hc]
      refine Ev.step (f := fun k => (reckonerlaw02_awake.f k).bind fun t => some t) (fun k => ?_) (Ev.bind awake_ev (Ev.now true))
      rw [reckonerlaw02_NatPowersOfTwo.j2, if_pos rfl, flm, Option.bind_some, if_pos e0]
    · rw [decide_eq_false hc]
      have hd := hm (by omega) (by omega)
      have w1 : wrap64 (lenL (can (valB W64 a)) + lenL (can (valB W64 b))) = lenL (can (valB W64 a)) + lenL (can (valB W64 b)) := w64_int _ (by omega) (by omega)
      have w2 : wrap64 (lenL (can (valB W64 a)) + lenL (can (valB W64 b)) - 1) = lenL (can (valB W64 a)) + lenL (can (valB W64 b)) - 1 := by
        have : ¬ lenL (can (valB W64 a)) = 0 := fun h => hc (Or.inl (za.1 h))
        exact w64_int _ (by omega) (by omega)
      refine Ev.step (f := fun k => (reckonerlaw02_awake.f k).bind fun t => some t) (fun k => ?_) (Ev.bind awake_ev (Ev.now true))
      rw [reckonerlaw02_NatPowersOfTwo.j2, if_neg (by decide), flm, fla, flb, Option.bind_some, Option.bind_some, Option.bind_some, w1, w2]
      by_cases hq : lenL (can (valB W64 a * valB W64 b)) = lenL (can (valB W64 a)) + lenL (can (valB W64 b))
      · rw [if_pos hq]
      · rw [if_neg hq, if_pos (hd.resolve_left hq)]
  have h2 : Ev (fun k => reckonerlaw02_NatPowersOfTwo.j1 k a b (can (valB W64 a * valB W64 b)) false) true := by
    refine Ev.step (fun k => ?_) h3
    rw [reckonerlaw02_NatPowersOfTwo.j1, if_neg (by decide), fla, Option.bind_some]
    by_cases hc : valB W64 a = 0
    · rw [if_pos (za.2 hc), decide_eq_true (Or.inl hc)]
    · rw [if_neg (fun h => hc (za.1 h)), flb, Option.bind_some]
      by_cases hd : valB W64 b = 0
      · rw [decide_eq_true (Or.inr hd), zb.2 hd]; rfl
      · have e : ¬ lenL (can (valB W64 b)) = 0 := fun h => hd (zb.1 h)
        rw [decide_eq_false (by omega)]
        have : (lenL (can (valB W64 b)) == 0) = false := by simpa using e
        rw [this]
  have h1 : Ev (fun k => reckonerlaw02_NatPowersOfTwo.j0 k a b false) true := by
    refine Ev.step (fun k => ?_) h2
    rw [reckonerlaw02_NatPowersOfTwo.j0, if_neg (by decide), b1, b2, b3, Option.bind_some, Option.bind_some, Option.bind_some, b4, b5, b6, b7, Option.bind_some, Option.bind_some, Option.bind_some, Option.bind_some, if_pos rfl, if_pos rfl, if_pos rfl, if_pos rfl, if_pos rfl, if_pos rfl, if_pos rfl, s4, s5, Option.bind_some, if_pos rfl, Option.bind_some]
    rfl
  refine Ev.rounds (Ev.congr (f := fun k => reckonerlaw02_NatPowersOfTwo.j0 k a b false) (fun k => ?_) h1)
  show reckonerlaw02_NatPowersOfTwo.f k l0 l1 a2 = _
  unfold reckonerlaw02_NatPowersOfTwo.f
  rw [f0, f1, Option.bind_some, Option.bind_some, hn, g1, g2, Option.bind_some, Option.bind_some, g3, g4, g5, g6, Option.bind_some, Option.bind_some, Option.bind_some, Option.bind_some, if_pos rfl, if_pos rfl, if_pos rfl, if_pos rfl, if_pos rfl, if_pos rfl, s1, s2, s3, Option.bind_some, if_pos rfl, Option.bind_some, if_pos rfl, Option.bind_some]
  rfl
end Go.Proofs.YtkkkbalefnileaaDoor.Ex
/- The laid map of the ways to join, out of a row's condition. -/
namespace Go.Proofs.YtkkkbalefnileaaDoor.Ex
open Go.RowKit Go.WideMaps Go.WideElems
set_option linter.unusedVariables false
set_option linter.unusedSimpArgs false

theorem gJ : Tryd.prog.globalNamed "reckoner/nat.joins" = some 0 := by kernel_rfl
theorem tJ : (Tryd.prog.globals[0]?).map (·.type) = some 88 := by kernel_rfl
theorem uJ : Tryd.prog.underlying 88 = some (.map 9 87) := by kernel_rfl
theorem uJs : Tryd.prog.underlying 9 = some .string := by kernel_rfl
theorem uJf : Tryd.prog.underlying 87 = some (.func #[36, 36] #[36] false) := by kernel_rfl
theorem elemAt_func {P : Program} {W : World} {sp : Nat → Bool} {n : Nat} {t : TypeId} {ps rs : Array TypeId} {va : Bool} {v : Value} {b : UInt8} {r : List UInt8} {q : List MemPlace} {f0 : FuncId}
    (ht : P.underlying t = some (.func ps rs va)) (hone : ((List.range P.funcs.size).filter fun f => (P.funcs[f]?).any (·.name.toUTF8.data.toList == b :: r)) = [f0])
    (h : elemAt (funcToken P) P W 0 sp true n t v = some (.held (b :: r), q)) : v = .func (.func f0) #[] #[] := by
  unfold elemAt at h
  split at h
  · rename_i hf
    refine func_of_trod (w := W) (base := 0) (sp := sp) (fuel := n) (q := q) ht hone ?_
    cases v <;> first | exact h | (unfold Value.formed at hf; rw [ht] at hf; cases hf)
  · cases h
theorem look_of {W : World} {es : Array MapEntry} {clock bm m : Nat} {d : DataW (List UInt8)} (hb : W.heap[bm]? = some (.map es clock))
    (F : Fit Tryd.prog 9 (elemAt (funcToken Tryd.prog) Tryd.prog W 0 (fun _ => true) true m 87) es clock)
    (hx : d = .map ((es.toList.map (rg Tryd.prog 9 (elemAt (funcToken Tryd.prog) Tryd.prog W 0 (fun _ => true) true m 87))).foldr DataW.insert []))
    (s : ByteArray) (f0 : FuncId) (b : UInt8) (r : List UInt8) (hs : s.size ≤ maxLen) (hone : ((List.range Tryd.prog.funcs.size).filter fun f => (Tryd.prog.funcs[f]?).any (·.name.toUTF8.data.toList == b :: r)) = [f0])
    (hd : d.atKey (.string s.data.toList) .nil = .held (b :: r)) : LookJ W bm s f0 := by
  intro w' hB
  have hb' : w'.heap[bm]? = some (.map es clock) := by
    rw [← hb]
    exact hB.block bm (Array.getElem?_eq_some_iff.1 hb).1
  have hz : (zeroValue 87).run Tryd.prog w' = .ok .nilFunc w' := by kernel_rfl
  rcases fit_lookup (w := w') (string_law uJs) uJ hz hb' F (keyOf_string_mk (s := s) uJs hs) with ⟨_, hat⟩ | ⟨v, y, hrun, hRv, hat, _⟩
  · have h1 := hat .nil
    rw [← hx, hd] at h1
    cases h1
  · have h1 := hat .nil
    rw [← hx, hd] at h1
    obtain ⟨y1, y2⟩ := y
    cases h1
    rw [elemAt_func uJf hone hRv] at hrun
    exact hrun
set_option maxRecDepth 100000 in
theorem laidJ_of {W : World} {l : List (String × DataW Unit)} (h : laidMetH Tryd.prog l W) (hm : ("reckoner/nat.joins", Rows.laid_reckoner_nat_joins) ∈ l) : LaidJ W := by
  obtain ⟨g, t, cs, fuel, p, hg, ht, hv, hd⟩ := h.funcs hm
  obtain rfl := Option.some.inj (gJ.symm.trans hg)
  obtain rfl := Option.some.inj (tJ.symm.trans ht)
  rcases open_map uJ hd with ⟨_, hx⟩ | ⟨bm, es, clock, m, rfl, hcs, hb, _, F, hx⟩
  · exact absurd (congrArg Prod.fst hx) (by intro e; cases e)
  · have hx1 := congrArg Prod.fst hx
    refine ⟨bm, ?_, look_of hb F hx1 andS _ 114 [101, 99, 107, 111, 110, 101, 114, 47, 110, 97, 116, 46, 106, 111, 105, 110, 115, 36, 49] (by decide) (by kernel_rfl) rfl, look_of hb F hx1 orS _ 114 [101, 99, 107, 111, 110, 101, 114, 47, 110, 97, 116, 46, 106, 111, 105, 110, 115, 36, 50] (by decide) (by kernel_rfl) rfl, look_of hb F hx1 xorS _ 114 [101, 99, 107, 111, 110, 101, 114, 47, 110, 97, 116, 46, 106, 111, 105, 110, 115, 36, 51] (by decide) (by kernel_rfl) rfl⟩
    have := World.var?_cell hg hv 0
    rw [Array.eq_one_of_toList hcs] at this
    simpa using this
end Go.Proofs.YtkkkbalefnileaaDoor.Ex
-- PRINTED BY print.sh 35421559b90ae4d0a3588c463048766b98c2df88dd9212a6774a882060cdf62d: not written by this session
-- PRINTED WORDS (module Derived/Print/Sized.lean): go-gate-2's, for the rows of laws over slices: an AI agent of Go's test side, Tue Nov 17 2026; no person has read it. Lean checks it.
namespace Go.Proofs.YtkkkbalefnileaaDoorW.PrintWords
open Go.ChangeShapes Go.WideShapes
/-- A row's slice of whole numbers is no longer than its weight allows. -/
theorem sized_ints {H : Type} {enc : TypeId × Value → H} {P : Program} {W : World} {base : Nat} {spare : Nat → Bool} {held : Bool} {t e : TypeId} {k : IntKind} {a : Option Addr} {len cap : Nat} {d : DataW H} {ps : List MemPlace} {ts : List TypeId} {ds : List (DataW H)} {j : Nat}
    (hsz : (DataW.weightsEach P ts ds).all (· ≤ reachBytes) = true) (ht : ts[j]? = some t) (hd : ds[j]? = some d) (hu : P.underlying t = some (.slice e)) (he : P.underlying e = some (.int k)) (hc : P.cellsOf e = 1) {B : Nat} (hB : P.bytesOf e = B)
    (h : DataW.Trod enc P W base spare held t (.slice a len cap) d ps) : len * B ≤ 140737488351232 := by
  obtain ⟨fuel, hf⟩ := h
  rcases open_ints hu he hc hf with ⟨hcs, _⟩ | ⟨x, l, c, zs, hcs, _, hl, _, hz, hx, _, _⟩
  · simp [Value.cells] at hcs
    obtain ⟨rfl, rfl, rfl⟩ := hcs
    simp
  · simp [Value.cells] at hcs
    obtain ⟨rfl, rfl, rfl⟩ := hcs
    obtain ⟨hx, _⟩ := Prod.mk.inj hx
    subst hx
    have z := sized_slice hsz ht hd hu
    rw [hB] at z
    have hl2 : len ≤ zs.length := by
      rw [hz]
      split
      · exact hl
      · exact Nat.le_refl _
    have h1 : (lits (H := H) k (zs.take len)).length + (lits (H := H) k (zs.drop len)).length = zs.length := by
      simp [lits]
      omega
    rw [h1] at z
    exact Nat.le_trans (Nat.mul_le_mul_right _ hl2) z
end Go.Proofs.YtkkkbalefnileaaDoorW.PrintWords
-- PRINTED by print.py: the row of the law reckonerlaw02_NatPowersOfTwo, out of its Pure (the session's) and the printed walk. Not trusted: Lean checks it.
namespace Go.Proofs.YtkkkbalefnileaaDoor.natPowersOfTwo
open Go.Proofs.YtkkkbalefnileaaDoor.Ex
open Go.ChangeShapes Go.WideShapes Go.ChangeAt Go.RowKit
open Go.ChangeMaps (open_string shut_string)
set_option linter.unusedVariables false
theorem own : ownKnob Tryd.prog.godebug = none := by kernel_rfl
theorem laidOut : laidOutB Tryd.prog = true := by kernel_rfl
def IsRow (k : IntKind) (w : World) (a : Option Addr) (len cap : Nat) (zs : List Int) : Prop :=
  (a = none ∧ len = 0 ∧ cap = 0 ∧ zs = []) ∨
  ∃ x, a = some x ∧ len ≤ cap ∧ cap ≤ maxLen ∧ zs.length = cap ∧ (∀ i, i < zs.length → w.cell? (x.add i) = some (.int k (zs.getD i 0))) ∧ ∀ n ∈ zs, (Lit.int k n).wf = true
/-- A world in which the map lies as its initialiser lays it: the heap that the door's own run leaves. -/
noncomputable def laidWorld (os : Os) : World := World.doorLaid Tryd.prog 34 os
theorem laid_met (os : Os) (args : Array Value) : laidMetH Tryd.prog Rows.natPowersOfTwoRow.laid ((laidWorld os).forCall (fun _ _ => 0) ⟨#[], args, []⟩).memory :=
  laidMetH_of_parts3 (fuel := 8) (laidMet_of_run' 8 (by kernel_rfl) (by kernel_rfl)) (by kernel_rfl) (by kernel_rfl)
theorem witness_row (os : Os) {H : Type} (enc : TypeId × Value → H) :
    (OpenSpec.ofChange Rows.natPowersOfTwoSpec).preRow enc Tryd.prog Tryd.f6 Rows.natPowersOfTwoRow.domain false Rows.natPowersOfTwoRow.laid ((laidWorld os).forCall (fun _ _ => 0) ⟨#[], #[.slice none 0 0, .slice none 0 0, .int .i64 0], []⟩).memory #[.slice none 0 0, .slice none 0 0, .int .i64 0] := by
  have hw : (DataW.whole enc Tryd.prog ((laidWorld os).forCall (fun _ _ => 0) ⟨#[], #[.slice none 0 0, .slice none 0 0, .int .i64 0], []⟩).memory Tryd.f6.params.toList (OpenSpec.ofChange Rows.natPowersOfTwoSpec).vars false (#[.slice none 0 0, .slice none 0 0, .int .i64 0] : Array Value).toList 8).map (fun x => (x.1, x.2.1)) =
      some ([.nil, .nil, .lit (.int .i64 0)], []) := by kernel_rfl
  obtain ⟨⟨x1, x2, x3⟩, hx, hx1⟩ := Option.map_eq_some_iff.1 hw
  simp only [Prod.mk.injEq] at hx1
  obtain ⟨rfl, rfl⟩ := hx1
  exact OpenSpec.preRow_of_cond 8 hx (by kernel_rfl) (fun k hk => by cases hk) (by kernel_rfl) (laid_met os _)
set_option maxRecDepth 100000 in
theorem lifted (os : Os) (started : os.Started) (H : Type) (enc : TypeId × Value → H) (F : Stop.Interp) :
    ReturnsInHanded {} Tryd.checked os 6 .any ((OpenSpec.ofChange Rows.natPowersOfTwoSpec).preRow enc Tryd.prog Tryd.f6 Rows.natPowersOfTwoRow.domain false Rows.natPowersOfTwoRow.laid) (((OpenSpec.ofChange Rows.natPowersOfTwoSpec).at F).post enc Tryd.prog Tryd.f6 false true false false) := by
  refine returnsInHanded_of_row (C := Tryd.checked) (s := OpenSpec.ofChange Rows.natPowersOfTwoSpec) own started (by kernel_rfl) Tryd.func6
    (witness_row_atRef (enc := enc) (C := Tryd.checked) false (laidWorld os) #[.slice none 0 0, .slice none 0 0, .int .i64 0] rfl (by kernel_rfl) (by kernel_rfl) (by kernel_rfl) (witness_row os enc)) ?_
  intro W base args ds gs before hval0 hW hcnd _ hsz0 hL _ _
  have hg : LaidJ W := laidJ_of hL (List.mem_cons_self ..)
  have hsz : (DataW.weightsEach Tryd.prog (Tryd.f6.params.toList ++ (OpenSpec.ofChange Rows.natPowersOfTwoSpec).bare.plain.varTypes Tryd.prog) (ds ++ gs)).all (· ≤ reachBytes) = true := hsz0
  have hval : ∀ (j : Nat) t v, Tryd.f6.params[j]? = some t → args[j]? = some v → Value.okWide Tryd.prog W .any base t v := hval0
  have hW' := hW
  obtain ⟨p, q, hA0, hV, rfl, hfz, hnd⟩ := hW
  have hA : DataW.TrodAll enc Tryd.prog W 0 (fun _ => true) true Tryd.f6.params.toList args.toList ds p := hA0
  rw [Tryd.params6] at hA hval hsz
  obtain ⟨v0, vs0, d0, ds0, p0, q0, hargs, rfl, rfl, h0, r0⟩ := trodAll_cons hA
  obtain ⟨v1, vs1, d1, ds1, p1, q1, rfl, rfl, rfl, h1, r1⟩ := trodAll_cons r0
  obtain ⟨v2, vs2, d2, ds2, p2, q2, rfl, rfl, rfl, h2, r2⟩ := trodAll_cons r1
  obtain ⟨rfl, rfl, rfl⟩ := trodAll_nil r2
  obtain rfl : args = #[v0, v1, v2] := by cases args; simp_all
  obtain ⟨rfl, rfl⟩ := trodVars_none hV
  obtain ⟨a0, len0, cap0, rfl⟩ := okWide_slice Tryd.underlying23 (hval 0 23 v0 rfl rfl)
  have k0 := h0
  have lt0 : ∀ x ∈ p0, x.block < W.heap.size := by obtain ⟨m, hm⟩ := k0; exact DataW.trod_lt m _ _ _ hm
  obtain ⟨z0, w0⟩ : ∃ zs, IsRow .u64 W a0 len0 cap0 zs := by
    obtain ⟨fuel, hf⟩ := h0
    rcases open_ints Tryd.underlying23 Tryd.underlying36 (by kernel_rfl) hf with ⟨hcs, _⟩ | ⟨x, l, c, zs, hcs, _, hl, hm, hz, _, hcell, hwz⟩
    · simp [Value.cells] at hcs
      obtain ⟨rfl, rfl, rfl⟩ := hcs
      exact ⟨[], .inl ⟨rfl, rfl, rfl, rfl⟩⟩
    · simp [Value.cells] at hcs
      obtain ⟨rfl, rfl, rfl⟩ := hcs
      exact ⟨zs, .inr ⟨_, rfl, hl, hm, by simpa using hz, hcell, hwz⟩⟩
  have y0 : len0 * 8 ≤ 140737488351232 := Go.Proofs.YtkkkbalefnileaaDoorW.PrintWords.sized_ints hsz (j := 0) (t := 23) rfl rfl Tryd.underlying23 Tryd.underlying36 (by kernel_rfl) (by kernel_rfl) h0
  obtain ⟨a1, len1, cap1, rfl⟩ := okWide_slice Tryd.underlying23 (hval 1 23 v1 rfl rfl)
  have k1 := h1
  have lt1 : ∀ x ∈ p1, x.block < W.heap.size := by obtain ⟨m, hm⟩ := k1; exact DataW.trod_lt m _ _ _ hm
  obtain ⟨z1, w1⟩ : ∃ zs, IsRow .u64 W a1 len1 cap1 zs := by
    obtain ⟨fuel, hf⟩ := h1
    rcases open_ints Tryd.underlying23 Tryd.underlying36 (by kernel_rfl) hf with ⟨hcs, _⟩ | ⟨x, l, c, zs, hcs, _, hl, hm, hz, _, hcell, hwz⟩
    · simp [Value.cells] at hcs
      obtain ⟨rfl, rfl, rfl⟩ := hcs
      exact ⟨[], .inl ⟨rfl, rfl, rfl, rfl⟩⟩
    · simp [Value.cells] at hcs
      obtain ⟨rfl, rfl, rfl⟩ := hcs
      exact ⟨zs, .inr ⟨_, rfl, hl, hm, by simpa using hz, hcell, hwz⟩⟩
  have y1 : len1 * 8 ≤ 140737488351232 := Go.Proofs.YtkkkbalefnileaaDoorW.PrintWords.sized_ints hsz (j := 1) (t := 23) rfl rfl Tryd.underlying23 Tryd.underlying36 (by kernel_rfl) (by kernel_rfl) h1
  obtain ⟨a2, rfl, rfl, rfl, w2⟩ := open_int Tryd.underlying3 (hval 2 3 v2 rfl rfl) h2
  clear hA0 hval0 hsz0 hsz
  refine (T.reckonerlaw02_NatPowersOfTwo.walk pureNatPowersOfTwo a0 len0 cap0 z0 a1 len1 cap1 z1 a2 W w0 y0 w1 y1 w2 hg).mono fun e W' ⟨he, bel⟩ => ?_
  subst he
  exact ⟨_, rfl, _, _, _, [], _, [], hW', trodAll_mk1 (shut_bool Tryd.underlying4 _), (trodAll_cons_mk (Below.trod laidOut (by kernel_rfl) (of_decide_eq_true (by kernel_rfl)) k0 bel lt0) (trodAll_cons_mk (Below.trod laidOut (by kernel_rfl) (of_decide_eq_true (by kernel_rfl)) k1 bel lt1) (trodAll_cons_mk (shut_int Tryd.underlying3 w2) trodAll_mk0))), rfl, bel.frame _, fun h => by cases h⟩
theorem over : Rows.natPowersOfTwoRow.holds Tryd.pinned (OpenSpec.ofChange Rows.natPowersOfTwoSpec) :=
  OpenClaim.holds_of_cond 6 Tryd.f6 rfl rfl rfl rfl rfl rfl rfl ⟨rfl, rfl, rfl, rfl, rfl⟩ rfl rfl rfl rfl rfl (by kernel_rfl) Tryd.func6 (by kernel_rfl)
    (of_decide_eq_true (by kernel_rfl)) (by unfold Func.isWrapper; first | (rw [if_pos (by decide +kernel)]; kernel_rfl) | (rw [if_neg (by decide +kernel)]; exact ⟨rfl, rfl⟩))
    (fun os started H enc _ F0 => by rw [OpenClaim.pre_eq_preRow]; exact lifted os started H enc F0)
theorem proved : Rows.NatPowersOfTwoSaid := over
end Go.Proofs.YtkkkbalefnileaaDoor.natPowersOfTwo
namespace Go.Proofs.YtkkkbalefnileaaDoor
/-- The row, under a short name, for the claim. -/
theorem natPowersOfTwo_holds : Rows.NatPowersOfTwoSaid := natPowersOfTwo.proved
/-- THE TIED CARD. -/
theorem natPowersOfTwoCard_holds : Rows.NatPowersOfTwoCardSaid :=
  Claim7.holds_tied_plain_at .later [] [.funcs] true (true, "36986857b704cc5859705dd873ca777faef389e418bc52f4b429b1ff2dc10ece") false
    natPowersOfTwo_holds (fun _ h => by cases h) (by kernel_rfl) (fun _ h => by cases h) natPowersOfTwo_row_tie rfl ⟨rfl, rfl⟩ (by kernel_rfl) rfl
    (fun f fn hf hfn => by
      obtain rfl : f = 6 := Option.some.inj ((show Tryd.prog.funcNamed Rows.natPowersOfTwoRow.func = some 6 by kernel_rfl).symm.trans hf) |>.symm
      obtain rfl : fn = Tryd.f6 := (Option.some.inj (Tryd.func6.symm.trans hfn)).symm
      exact ⟨by kernel_rfl, fun j t ht => by
        rw [Tryd.params6] at ht
        have h3 : Tryd.prog.wantsStandIn t = false := by
          rcases j with (_ | (_ | (_ | j)))
          · obtain rfl := Option.some.inj ht.symm
            kernel_rfl
          · obtain rfl := Option.some.inj ht.symm
            kernel_rfl
          · obtain rfl := Option.some.inj ht.symm
            kernel_rfl
          · simp at ht
        exact h3⟩)
    (by kernel_rfl)
end Go.Proofs.YtkkkbalefnileaaDoor
