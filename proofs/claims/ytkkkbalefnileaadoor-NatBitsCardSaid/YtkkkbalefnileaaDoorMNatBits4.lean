/- NatBits (a card): for every two rows of words and every place, the bit told and set, and the bits of the two numbers joined by and, or, exclusive or (their first 40 words), are those that the reference tells, or the specified error. (Part 5 of 5.) -/
import Derived.Lib.BitFns
import Derived.Lib.TrailingZeros
import Derived.Test.YtkkkbalefnileaaDoorRows
import Derived.LaidMore
import Derived.OpenShut
import Derived.StringKeys
import Derived.SizedLaws
import Derived.ChangeSlices
import Derived.Test.YtkkkbalefnileaaDoorTie
import Derived.Test.YtkkkbalefnileaaDoorCards
import Derived.Deep.DeepHandedRow
import Derived.Deep.DeepWitnessRowRef
import Derived.SevenTiedAt
import Derived.LaidLaws
import Derived.WalkKit
import Derived.ProofKit
import Derived.ShutString
import Derived.ChangeOld
import Derived.Below
import Derived.Test.YtkkkbalefnileaaDoorMNatBits3
-- PRINTED by print.py (a twelfth state) out of the translation. Not trusted: Lean checks it.
namespace Go.Proofs.YtkkkbalefnileaaDoor.T
open Go.RowKit Go.Proofs.YtkkkbalefnileaaDoorW.PrintWords Go.Proofs.YtkkkbalefnileaaDoorW.PrintLast Go.Proofs.YtkkkbalefnileaaDoorW.PrintMore
attribute [local go_sem] max2_int min2_int max_two min_two max_three min_three max_four min_four   -- for this text's walks alone
open YtkkkbalefnileaaDoor.Ex
set_option linter.unusedVariables false
set_option linter.unusedSimpArgs false

/-! ### reckonerlaw02_NatBits: function 3 -/
mutual
def reckonerlaw02_NatBits.l0 : Nat → Int → List Int → List Int → Int → Option (Bool)
  | 0, _, _, _, _ => none
  | k + 1, x2, x7, x8, x9 => if x9 < 2 then ((nat_SetBit.f x7 x2 true).bind fun bt378 => ((nat_SetBit.f x7 x2 false).bind fun bt382 => ((nat_Bit.f x7 x2).bind fun t386 => ((reckonerref02_Bit.f x7 x2).bind fun t387 => (if (t386 != t387) = true then (none) else (if x2 < 0 then (reckonerlaw02_NatBits.j1 k x2 x7 x8 x9 bt378.1 bt378.2 bt382.1 bt382.2 true) else (reckonerlaw02_NatBits.j1 k x2 x7 x8 x9 bt378.1 bt378.2 bt382.1 bt382.2 (decide (x2 ≥ 262144))))))))) else ((nat_And.f x7 x8).bind fun bt396 => ((nat_Or.f x7 x8).bind fun bt400 => ((nat_Xor.f x7 x8).bind fun bt404 => (if bt396.2 = 0 then (if bt400.2 = 0 then (if bt404.2 = 0 then ((reckonerref02_Joined.f k x7 x8 0).bind fun t408 => ((reckonerref02_Is.f k bt396.1 t408).bind fun t411 => (if t411 = true then ((reckonerref02_Joined.f k x7 x8 1).bind fun t412 => ((reckonerref02_Is.f k bt400.1 t412).bind fun t415 => (if t415 = true then ((reckonerref02_Joined.f k x7 x8 2).bind fun t416 => ((reckonerref02_Is.f k bt404.1 t416).bind fun t419 => (if t419 = true then ((reckonerlaw02_awake.f k).bind fun t420 => (some t420)) else (none)))) else (none)))) else (none)))) else (none)) else (none)) else (none)))))
def reckonerlaw02_NatBits.j1 : Nat → Int → List Int → List Int → Int → List Int → Int → List Int → Int → Bool → Option (Bool)
  | 0, _, _, _, _, _, _, _, _, _ => none
  | k + 1, x2, x7, x8, x9, x10, x11, x12, x13, x52 => if x52 = true then (if x11 = 1 then (if x13 = 1 then (if (wrap64 ((x10.length : Int) + (x12.length : Int))) = 0 then (reckonerlaw02_NatBits.l0 k (wrap64 (Int.tmod (IntKind.u64.wrap (x2)) 2600)) x7 x8 (wrap64 (x9 + 1))) else (none)) else (none)) else (none)) else (if x11 = 0 then (if x13 = 0 then ((reckonerref02_SetBit.f k x7 x2 true).bind fun t388 => ((reckonerref02_Is.f k x10 t388).bind fun t391 => (if t391 = true then ((reckonerref02_SetBit.f k x7 x2 false).bind fun t392 => ((reckonerref02_Is.f k x12 t392).bind fun t395 => (if t395 = true then (reckonerlaw02_NatBits.l0 k (wrap64 (Int.tmod (IntKind.u64.wrap (x2)) 2600)) x7 x8 (wrap64 (x9 + 1))) else (none)))) else (none)))) else (none)) else (none))
end
def reckonerlaw02_NatBits.f (k : Nat) (l0 : List Int) (l1 : List Int) (a2 : Int) : Option (Bool) := (reckonerlaw02_few.f l0 40).bind fun t372 => ((reckonerlaw02_few.f l1 40).bind fun t375 => (reckonerlaw02_NatBits.l0 k a2 t372 t375 0))
set_option maxHeartbeats 8000000 in
set_option maxRecDepth 100000 in
theorem reckonerlaw02_NatBits.calls (k : Nat) (A0 : Option Addr) (c0 : Nat) (l0 : List Int) (A1 : Option Addr) (c1 : Nat) (l1 : List Int) (a2 : Int) (r : Bool) (w : World) (hr0 : Kd.C (Kd.int .u64) w A0 l0.length l0) (hc0 : l0.length ≤ c0) (hr1 : Kd.C (Kd.int .u64) w A1 l1.length l1) (hc1 : l1.length ≤ c1) (hj : LaidJ w) (h : reckonerlaw02_NatBits.f k l0 l1 a2 = some r) :
  Calls Tryd.prog 3 #[.slice A0 l0.length c0, .slice A1 l1.length c1, .int .i64 a2] w fun e w' => e = .returned (.bool r) ∧ Below w.heap.size w w' := by
 have HLj := Aside0.mk hj
 clear hj
 have HR0 := Aside0.mk hr0
 have HC0 := Aside0.mk hc0
 clear hr0 hc0
 have HR1 := Aside0.mk hr1
 have HC1 := Aside0.mk hc1
 clear hr1 hc1
 have HB := Aside0.mk (Below.refl w.heap.size w)
 have H : ((reckonerlaw02_few.f l0 40).bind fun t372 => ((reckonerlaw02_few.f l1 40).bind fun t375 => (reckonerlaw02_NatBits.l0 k a2 t372 t375 0))) = some r := h
 clear h
 replace H := Option.bind_eq_some_iff.mp H
 obtain ⟨t372, A40, H⟩ := H
 replace H : ((reckonerlaw02_few.f l1 40).bind fun t375 => (reckonerlaw02_NatBits.l0 k a2 t372 t375 0)) = some r := H
 have A4 := Aside0.mk A40
 clear A40
 replace H := Option.bind_eq_some_iff.mp H
 obtain ⟨t375, A50, H⟩ := H
 replace H : (reckonerlaw02_NatBits.l0 k a2 t372 t375 0) = some r := H
 have A5 := Aside0.mk A50
 clear A50
 have H' := Aside0.mk H
 clear H
 go_enter Tryd.func3, Tryd.ntmps3
 try simp only [List.append]
 go_wp2_with (first | ((with_reducible refine gate_callee (f := 8) rfl ?_); refine goesL_ (some 21) rfl rfl Tryd.func8 (by kernel_rfl) rfl #[.slice A0 l0.length c0, .int .i64 40] rfl (by (try simp only [List.map_toArray, List.map_cons, List.map_nil]); first | done | rfl | (simp only [List.length_drop, List.length_take]; rfl)) ?_; (with_reducible refine (reckonerlaw02_few.calls _ _ l0 40 t372 _ ?side1 ?side2 A4.out).mono ?_); (case side1 => repeat (first | exact HR0.out | (with_reducible refine Kd.C_alloc ?_ _) | (with_reducible refine Kd.C_drewN ?_ _) | (with_reducible refine Kd.C_drew ?_))); (case side2 => exact HC0.out); rintro e w6 ⟨v373, rfl, ho0, hb⟩; refine ⟨_, rfl, ?_⟩; have n0_ := Aside0.mk (Kd.R_lower ho0 (below_size (by repeat (first | (with_reducible first | exact HB.out | apply below_alloc | apply pw_below_drewN | apply below_drew1) | exact HB.out)))); have n1_ := Aside0.mk (below_step (by repeat (first | (with_reducible first | exact HB.out | apply below_alloc | apply pw_below_drewN | apply below_drew1) | exact HB.out)) hb); clear HB; have HO374 := n0_; have HB := n1_; clear n0_ n1_; (try clear hb); (try clear hb2); (try clear hk); (try clear hi); (try clear ho0)) | ((with_reducible refine gate_callee (f := 8) rfl ?_); refine goesL_ (some 23) rfl rfl Tryd.func8 (by kernel_rfl) rfl #[.slice A1 l1.length c1, .int .i64 40] rfl (by (try simp only [List.map_toArray, List.map_cons, List.map_nil]); first | done | rfl | (simp only [List.length_drop, List.length_take]; rfl)) ?_; (with_reducible refine (reckonerlaw02_few.calls _ _ l1 40 t375 _ ?side1 ?side2 A5.out).mono ?_); (case side1 => repeat (first | exact (Kd.C_below HR1.out HB.out) | (with_reducible refine Kd.C_alloc ?_ _) | (with_reducible refine Kd.C_drewN ?_ _) | (with_reducible refine Kd.C_drew ?_))); (case side2 => exact HC1.out); rintro e w7 ⟨v376, rfl, ho0, hb⟩; refine ⟨_, rfl, ?_⟩; have n0_ := Aside0.mk (Kd.R_elder' (by (with_reducible repeat (first | apply Kd.R_alloc | apply Kd.R_drewN | apply Kd.R_drew)); exact HO374.out) (Kd.R_base ho0) hb); have n1_ := Aside0.mk (Kd.R_lower (Kd.R_new' ho0 (Kd.R_lt (by (with_reducible repeat (first | apply Kd.R_alloc | apply Kd.R_drewN | apply Kd.R_drew)); exact HO374.out))) (below_size (by repeat (first | (with_reducible first | exact HB.out | apply below_alloc | apply pw_below_drewN | apply below_drew1) | exact HB.out)))); have n2_ := Aside0.mk (below_step (by repeat (first | (with_reducible first | exact HB.out | apply below_alloc | apply pw_below_drewN | apply below_drew1) | exact HB.out)) hb); clear HO374; clear HB; have HO374 := n0_; have HO377 := n1_; have HB := n2_; clear n0_ n1_ n2_; (try clear hb); (try clear hb2); (try clear hk); (try clear hi); (try clear ho0)))
 go_loopg [2, 9] k (fun kq v2 v9 w' => ∃ (x2_1 : Int) (x9_1 : Int), v2 = .int .i64 x2_1 ∧ v9 = .int .i64 x9_1 ∧ Aside0 (reckonerlaw02_NatBits.l0 kq x2_1 t372 t375 x9_1 = some r) ∧ Aside0 (kq ≤ k) ∧ Aside0 (Kd.R (Kd.int .u64) 36 w' w.heap.size (fun k_ => some k_ ≠ (v376 : Value).ownBlock) v373 t372) ∧ Aside0 (Kd.R (Kd.int .u64) 36 w' w.heap.size (fun k_ => some k_ ≠ (v373 : Value).ownBlock) v376 t375) ∧ Aside0 (Below w.heap.size w w'))
 case atStart => exact ⟨(a2), (0), (by first | rfl | (simp; done) | (simp [*]; done)), (by first | rfl | (simp; done) | (simp [*]; done)), H', ⟨Nat.le_refl _⟩, ⟨by (with_reducible repeat (first | apply Kd.R_alloc | apply Kd.R_drewN | apply Kd.R_drew)); exact Kd.R_mono HO374.out (fun _ hk => hk.2)⟩, ⟨by (with_reducible repeat (first | apply Kd.R_alloc | apply Kd.R_drewN | apply Kd.R_drew)); exact Kd.R_mono HO377.out (fun _ hk => hk.2)⟩, ⟨by repeat (first | (with_reducible first | exact HB.out | apply below_alloc | apply pw_below_drewN | apply below_drew1) | exact HB.out)⟩⟩
 case round =>
  clear H'
  try clear c1
  try clear p2
  try clear c3
  obtain ⟨x2_1, x9_1, rfl, rfl, HA, HK1, HO_7, HO_8, HB⟩ := hrel
  cases gk with
  | zero => exact absurd HA.out (by simp [reckonerlaw02_NatBits.l0])
  | succ k1 =>
   have H := HA.out
   clear HA
   simp only [reckonerlaw02_NatBits.l0] at H
   by_cases c8 : x9_1 < 2
   ·rw [if_pos c8] at H
    have c8b0 : decide (x9_1 < 2) = true := decide_eq_true c8
    clear c8
    replace H := Option.bind_eq_some_iff.mp H
    obtain ⟨⟨t378, t379⟩, A90, H⟩ := H
    replace H : ((nat_SetBit.f t372 x2_1 false).bind fun bt382 => ((nat_Bit.f t372 x2_1).bind fun t386 => ((reckonerref02_Bit.f t372 x2_1).bind fun t387 => (if (t386 != t387) = true then (none) else (if x2_1 < 0 then (reckonerlaw02_NatBits.j1 k1 x2_1 t372 t375 x9_1 t378 t379 bt382.1 bt382.2 true) else (reckonerlaw02_NatBits.j1 k1 x2_1 t372 t375 x9_1 t378 t379 bt382.1 bt382.2 (decide (x2_1 ≥ 262144)))))))) = some r := H
    have A9 := Aside0.mk A90
    clear A90
    replace H := Option.bind_eq_some_iff.mp H
    obtain ⟨⟨t382, t383⟩, A100, H⟩ := H
    replace H : ((nat_Bit.f t372 x2_1).bind fun t386 => ((reckonerref02_Bit.f t372 x2_1).bind fun t387 => (if (t386 != t387) = true then (none) else (if x2_1 < 0 then (reckonerlaw02_NatBits.j1 k1 x2_1 t372 t375 x9_1 t378 t379 t382 t383 true) else (reckonerlaw02_NatBits.j1 k1 x2_1 t372 t375 x9_1 t378 t379 t382 t383 (decide (x2_1 ≥ 262144))))))) = some r := H
    have A10 := Aside0.mk A100
    clear A100
    replace H := Option.bind_eq_some_iff.mp H
    obtain ⟨t386, A110, H⟩ := H
    replace H : ((reckonerref02_Bit.f t372 x2_1).bind fun t387 => (if (t386 != t387) = true then (none) else (if x2_1 < 0 then (reckonerlaw02_NatBits.j1 k1 x2_1 t372 t375 x9_1 t378 t379 t382 t383 true) else (reckonerlaw02_NatBits.j1 k1 x2_1 t372 t375 x9_1 t378 t379 t382 t383 (decide (x2_1 ≥ 262144)))))) = some r := H
    have A11 := Aside0.mk A110
    clear A110
    replace H := Option.bind_eq_some_iff.mp H
    obtain ⟨t387, A120, H⟩ := H
    replace H : (if (t386 != t387) = true then (none) else (if x2_1 < 0 then (reckonerlaw02_NatBits.j1 k1 x2_1 t372 t375 x9_1 t378 t379 t382 t383 true) else (reckonerlaw02_NatBits.j1 k1 x2_1 t372 t375 x9_1 t378 t379 t382 t383 (decide (x2_1 ≥ 262144))))) = some r := H
    have A12 := Aside0.mk A120
    clear A120
    by_cases c13 : (t386 != t387) = true
    ·rw [if_pos c13] at H
     exact absurd H (by simp)
    ·rw [if_neg c13] at H
     have c13b0 : (t386 != t387) = false := by simpa using c13
     (try (have c13b1 : decide (t386 = t387) = true := by simpa using c13))
     (try (have c13b2 : (t386 == t387) = true := by simpa using c13))
     clear c13
     have HC14 := Aside0.mk H
     clear H
     obtain ⟨Ao15, co15, eo15⟩ := Kd.R_slice HO_7.out
     subst eo15
     go_upto_region 9 with (first | ((with_reducible refine gate_callee (f := 9) rfl ?_); refine goesL_ (some 31) rfl rfl Tryd.func9 (by kernel_rfl) rfl #[.slice Ao15 t372.length co15, .int .i64 x2_1, .bool true] rfl (by (try simp only [List.map_toArray, List.map_cons, List.map_nil]); first | done | rfl | (simp only [List.length_drop, List.length_take]; rfl)) ?_; (with_reducible refine (nat_SetBit.calls _ _ t372 x2_1 true t378 t379 _ ?side1 ?side2 A9.out).mono ?_); (case side1 => repeat (first | exact (Kd.R_reads' HO_7.out).2.2 | (with_reducible refine Kd.C_alloc ?_ _) | (with_reducible refine Kd.C_drewN ?_ _) | (with_reducible refine Kd.C_drew ?_))); (case side2 => exact (Kd.R_reads' HO_7.out).2.1); rintro e w16 ⟨v380, rfl, ho0, hb⟩; refine ⟨_, rfl, ?_⟩; have n0_ := Aside0.mk (Kd.R_elder' (by (with_reducible repeat (first | apply Kd.R_alloc | apply Kd.R_drewN | apply Kd.R_drew)); exact HO_7.out) (Kd.R_base ho0) hb); have n1_ := Aside0.mk (Kd.R_elder' (by (with_reducible repeat (first | apply Kd.R_alloc | apply Kd.R_drewN | apply Kd.R_drew)); exact HO_8.out) (Kd.R_base ho0) hb); have n2_ := Aside0.mk (Kd.R_lower (Kd.R_new' (Kd.R_new' ho0 (Kd.R_lt (by (with_reducible repeat (first | apply Kd.R_alloc | apply Kd.R_drewN | apply Kd.R_drew)); exact HO_7.out))) (Kd.R_lt (by (with_reducible repeat (first | apply Kd.R_alloc | apply Kd.R_drewN | apply Kd.R_drew)); exact HO_8.out))) (below_size (by repeat (first | (with_reducible first | exact HB.out | apply below_alloc | apply pw_below_drewN | apply below_drew1) | exact HB.out)))); have n3_ := Aside0.mk (below_step (by repeat (first | (with_reducible first | exact HB.out | apply below_alloc | apply pw_below_drewN | apply below_drew1) | exact HB.out)) hb); clear HO_7; clear HO_8; clear HB; have HO_7 := n0_; have HO_8 := n1_; have HO381 := n2_; have HB := n3_; clear n0_ n1_ n2_ n3_; (try clear hb); (try clear hb2); (try clear hk); (try clear hi); (try clear ho0)) | ((with_reducible refine gate_callee (f := 9) rfl ?_); refine goesL_ (some 37) rfl rfl Tryd.func9 (by kernel_rfl) rfl #[.slice Ao15 t372.length co15, .int .i64 x2_1, .bool false] rfl (by (try simp only [List.map_toArray, List.map_cons, List.map_nil]); first | done | rfl | (simp only [List.length_drop, List.length_take]; rfl)) ?_; (with_reducible refine (nat_SetBit.calls _ _ t372 x2_1 false t382 t383 _ ?side1 ?side2 A10.out).mono ?_); (case side1 => repeat (first | exact (Kd.R_reads' HO_7.out).2.2 | (with_reducible refine Kd.C_alloc ?_ _) | (with_reducible refine Kd.C_drewN ?_ _) | (with_reducible refine Kd.C_drew ?_))); (case side2 => exact (Kd.R_reads' HO_7.out).2.1); rintro e w17 ⟨v384, rfl, ho0, hb⟩; refine ⟨_, rfl, ?_⟩; have n0_ := Aside0.mk (Kd.R_elder' (by (with_reducible repeat (first | apply Kd.R_alloc | apply Kd.R_drewN | apply Kd.R_drew)); exact HO_7.out) (Kd.R_base ho0) hb); have n1_ := Aside0.mk (Kd.R_elder' (by (with_reducible repeat (first | apply Kd.R_alloc | apply Kd.R_drewN | apply Kd.R_drew)); exact HO_8.out) (Kd.R_base ho0) hb); have n2_ := Aside0.mk (Kd.R_elder' (by (with_reducible repeat (first | apply Kd.R_alloc | apply Kd.R_drewN | apply Kd.R_drew)); exact HO381.out) (Kd.R_base ho0) hb); have n3_ := Aside0.mk (Kd.R_lower (Kd.R_new' (Kd.R_new' (Kd.R_new' ho0 (Kd.R_lt (by (with_reducible repeat (first | apply Kd.R_alloc | apply Kd.R_drewN | apply Kd.R_drew)); exact HO_7.out))) (Kd.R_lt (by (with_reducible repeat (first | apply Kd.R_alloc | apply Kd.R_drewN | apply Kd.R_drew)); exact HO_8.out))) (Kd.R_lt (by (with_reducible repeat (first | apply Kd.R_alloc | apply Kd.R_drewN | apply Kd.R_drew)); exact HO381.out))) (below_size (by repeat (first | (with_reducible first | exact HB.out | apply below_alloc | apply pw_below_drewN | apply below_drew1) | exact HB.out)))); have n4_ := Aside0.mk (below_step (by repeat (first | (with_reducible first | exact HB.out | apply below_alloc | apply pw_below_drewN | apply below_drew1) | exact HB.out)) hb); clear HO_7; clear HO_8; clear HO381; clear HB; have HO_7 := n0_; have HO_8 := n1_; have HO381 := n2_; have HO385 := n3_; have HB := n4_; clear n0_ n1_ n2_ n3_ n4_; (try clear hb); (try clear hb2); (try clear hk); (try clear hi); (try clear ho0)) | ((with_reducible refine gate_callee (f := 10) rfl ?_); refine goesL_ (some 42) rfl rfl Tryd.func10 (by kernel_rfl) rfl #[.slice Ao15 t372.length co15, .int .i64 x2_1] rfl (by (try simp only [List.map_toArray, List.map_cons, List.map_nil]); first | done | rfl | (simp only [List.length_drop, List.length_take]; rfl)) ?_; (with_reducible refine (nat_Bit.calls _ _ t372 x2_1 t386 _ ?side1 ?side2 A11.out).mono ?_); (case side1 => repeat (first | exact (Kd.R_reads' HO_7.out).2.2 | (with_reducible refine Kd.C_alloc ?_ _) | (with_reducible refine Kd.C_drewN ?_ _) | (with_reducible refine Kd.C_drew ?_))); (case side2 => exact (Kd.R_reads' HO_7.out).2.1); rintro e w' ⟨rfl, ⟨nd, rfl⟩⟩; refine ⟨_, rfl, ?_⟩) | ((with_reducible refine gate_callee (f := 11) rfl ?_); refine goesL_ (some 45) rfl rfl Tryd.func11 (by kernel_rfl) rfl #[.slice Ao15 t372.length co15, .int .i64 x2_1] rfl (by (try simp only [List.map_toArray, List.map_cons, List.map_nil]); first | done | rfl | (simp only [List.length_drop, List.length_take]; rfl)) ?_; (with_reducible refine (reckonerref02_Bit.calls _ _ t372 x2_1 t387 _ ?side1 ?side2 A12.out).mono ?_); (case side1 => repeat (first | exact (Kd.R_reads' HO_7.out).2.2 | (with_reducible refine Kd.C_alloc ?_ _) | (with_reducible refine Kd.C_drewN ?_ _) | (with_reducible refine Kd.C_drew ?_))); (case side2 => exact (Kd.R_reads' HO_7.out).2.1); rintro e w' ⟨rfl, ⟨nd, rfl⟩⟩; refine ⟨_, rfl, ?_⟩))
     (try simp only [Act.put, List.setIfInBounds_toArray, List.set_cons_zero, List.set_cons_succ])
     go_cut [52] (fun v52 wc => ∃ (kq : Nat) (x52_13 : Bool), v52 = .bool x52_13 ∧ Aside0 (reckonerlaw02_NatBits.j1 kq x2_1 t372 t375 x9_1 t378 t379 t382 t383 x52_13 = some r) ∧ Aside0 (kq ≤ k1) ∧ Aside0 (Kd.R (Kd.int .u64) 36 wc w.heap.size (fun k_ => some k_ ≠ (v376 : Value).ownBlock ∧ some k_ ≠ (v380 : Value).ownBlock ∧ some k_ ≠ (v384 : Value).ownBlock) (.slice Ao15 t372.length co15) t372) ∧ Aside0 (Kd.R (Kd.int .u64) 36 wc w.heap.size (fun k_ => some k_ ≠ ((.slice Ao15 t372.length co15) : Value).ownBlock ∧ some k_ ≠ (v380 : Value).ownBlock ∧ some k_ ≠ (v384 : Value).ownBlock) v376 t375) ∧ Aside0 (Kd.R (Kd.int .u64) 36 wc w.heap.size (fun k_ => some k_ ≠ ((.slice Ao15 t372.length co15) : Value).ownBlock ∧ some k_ ≠ (v376 : Value).ownBlock ∧ some k_ ≠ (v384 : Value).ownBlock) v380 t378) ∧ Aside0 (Kd.R (Kd.int .u64) 36 wc w.heap.size (fun k_ => some k_ ≠ ((.slice Ao15 t372.length co15) : Value).ownBlock ∧ some k_ ≠ (v376 : Value).ownBlock ∧ some k_ ≠ (v380 : Value).ownBlock) v384 t382) ∧ Aside0 (Below w.heap.size w wc))
     case first =>
      have H := HC14.out
      clear HC14
      by_cases c18 : x2_1 < 0
      ·rw [if_pos c18] at H
       have c18b0 : decide (x2_1 < 0) = true := decide_eq_true c18
       clear c18
       (first | rw [c18b0] | (simp only [i64_w, i32_w]; rw [c18b0]) | skip)
       have H' := Aside0.mk H
       clear H
       go_wp2
       go_meet
       case rel => exact ⟨_, (true), (by first | rfl | (simp; done) | (simp [*]; done)), H', ⟨by have := HK1.out; first | omega | exact Nat.le_refl _⟩, ⟨by (with_reducible repeat (first | apply Kd.R_alloc | apply Kd.R_drewN | apply Kd.R_drew)); exact Kd.R_mono HO_7.out (fun _ hk => ⟨hk.1.1, ⟨hk.1.2, hk.2⟩⟩)⟩, ⟨by (with_reducible repeat (first | apply Kd.R_alloc | apply Kd.R_drewN | apply Kd.R_drew)); exact Kd.R_mono HO_8.out (fun _ hk => ⟨hk.1.1, ⟨hk.1.2, hk.2⟩⟩)⟩, ⟨by (with_reducible repeat (first | apply Kd.R_alloc | apply Kd.R_drewN | apply Kd.R_drew)); exact Kd.R_mono HO381.out (fun _ hk => ⟨hk.1.1.2, ⟨hk.1.2, hk.2⟩⟩)⟩, ⟨by (with_reducible repeat (first | apply Kd.R_alloc | apply Kd.R_drewN | apply Kd.R_drew)); exact Kd.R_mono HO385.out (fun _ hk => ⟨hk.1.1.2, ⟨hk.1.2, hk.2⟩⟩)⟩, ⟨by repeat (first | (with_reducible first | exact HB.out | apply below_alloc | apply pw_below_drewN | apply below_drew1) | exact HB.out)⟩⟩
      ·rw [if_neg c18] at H
       have c18b0 : decide (x2_1 < 0) = false := decide_eq_false c18
       clear c18
       (first | rw [c18b0] | (simp only [i64_w, i32_w]; rw [c18b0]) | skip)
       have H' := Aside0.mk H
       clear H
       go_wp2
       go_meet
       case rel => exact ⟨_, (decide (x2_1 ≥ 262144)), (by first | rfl | (simp; done) | (simp [*]; done)), H', ⟨by have := HK1.out; first | omega | exact Nat.le_refl _⟩, ⟨by (with_reducible repeat (first | apply Kd.R_alloc | apply Kd.R_drewN | apply Kd.R_drew)); exact Kd.R_mono HO_7.out (fun _ hk => ⟨hk.1.1, ⟨hk.1.2, hk.2⟩⟩)⟩, ⟨by (with_reducible repeat (first | apply Kd.R_alloc | apply Kd.R_drewN | apply Kd.R_drew)); exact Kd.R_mono HO_8.out (fun _ hk => ⟨hk.1.1, ⟨hk.1.2, hk.2⟩⟩)⟩, ⟨by (with_reducible repeat (first | apply Kd.R_alloc | apply Kd.R_drewN | apply Kd.R_drew)); exact Kd.R_mono HO381.out (fun _ hk => ⟨hk.1.1.2, ⟨hk.1.2, hk.2⟩⟩)⟩, ⟨by (with_reducible repeat (first | apply Kd.R_alloc | apply Kd.R_drewN | apply Kd.R_drew)); exact Kd.R_mono HO385.out (fun _ hk => ⟨hk.1.1.2, ⟨hk.1.2, hk.2⟩⟩)⟩, ⟨by repeat (first | (with_reducible first | exact HB.out | apply below_alloc | apply pw_below_drewN | apply below_drew1) | exact HB.out)⟩⟩
     case rest =>
      clear HC14
      try clear c1
      try clear p2
      try clear c3
      try clear c8
      try clear c8b0
      try clear c9
      try clear c10
      try clear c11
      try clear c13
      try clear c13b0
      try clear c13b1
      try clear c13b2
      try clear c18
      try clear c18b0
      try clear p2
      obtain ⟨kq, x52_13, rfl, HA, HJ13, HO_7, HO_8, HO_10, HO_12, HB⟩ := hcut
      cases kq with
      | zero => exact absurd HA.out (by simp [reckonerlaw02_NatBits.j1])
      | succ kj13 =>
       have H := HA.out
       clear HA
       simp only [reckonerlaw02_NatBits.j1] at H
       by_cases c19 : x52_13 = true
       ·subst c19
        have H1 : (if t379 = 1 then (if t383 = 1 then (if (wrap64 ((t378.length : Int) + (t382.length : Int))) = 0 then (reckonerlaw02_NatBits.l0 kj13 (wrap64 (Int.tmod (IntKind.u64.wrap (x2_1)) 2600)) t372 t375 (wrap64 (x9_1 + 1))) else (none)) else (none)) else (none)) = some r := by rw [if_pos rfl] at H; exact H
        clear H
        have H := H1
        clear H1
        by_cases c20 : t379 = 1
        ·rw [if_pos c20] at H
         have c20b0 : (t379 == 1) = true := beq_iff_eq.mpr c20
         have c20b1 : (t379 != 1) = false := bne_eq_false_iff_eq.mpr c20
         clear c20
         by_cases c21 : t383 = 1
         ·rw [if_pos c21] at H
          have c21b0 : (t383 == 1) = true := beq_iff_eq.mpr c21
          have c21b1 : (t383 != 1) = false := bne_eq_false_iff_eq.mpr c21
          clear c21
          by_cases c22 : (wrap64 ((t378.length : Int) + (t382.length : Int))) = 0
          ·rw [if_pos c22] at H
           have c22b0 : ((wrap64 ((t378.length : Int) + (t382.length : Int))) == 0) = true := beq_iff_eq.mpr c22
           have c22b1 : ((wrap64 ((t378.length : Int) + (t382.length : Int))) != 0) = false := bne_eq_false_iff_eq.mpr c22
           clear c22
           have H' := Aside0.mk H
           clear H
           obtain ⟨Ao23, co23, eo23⟩ := Kd.R_slice HO_10.out
           subst eo23
           obtain ⟨Ao24, co24, eo24⟩ := Kd.R_slice HO_12.out
           subst eo24
           go_wp2
           go_roundg kj13
           case measure => have := HK1.out; have := HJ13.out; omega
           case rel => exact ⟨(wrap64 (Int.tmod (IntKind.u64.wrap (x2_1)) 2600)), (wrap64 (x9_1 + 1)), (by first | rfl | (simp; done) | (simp [*]; done)), (by first | rfl | (simp; done) | (simp [*]; done)), H', ⟨by have := HK1.out; have := HJ13.out; omega⟩, ⟨by (with_reducible repeat (first | apply Kd.R_alloc | apply Kd.R_drewN | apply Kd.R_drew)); exact Kd.R_mono HO_7.out (fun _ hk => hk.1)⟩, ⟨by (with_reducible repeat (first | apply Kd.R_alloc | apply Kd.R_drewN | apply Kd.R_drew)); exact Kd.R_mono HO_8.out (fun _ hk => hk.1)⟩, ⟨by repeat (first | (with_reducible first | exact HB.out | apply below_alloc | apply pw_below_drewN | apply below_drew1) | exact HB.out)⟩⟩
          ·rw [if_neg c22] at H
           exact absurd H (by simp)
         ·rw [if_neg c21] at H
          exact absurd H (by simp)
        ·rw [if_neg c20] at H
         exact absurd H (by simp)
       ·replace c19 := Bool.eq_false_iff.mpr c19
        subst c19
        have H1 : (if t379 = 0 then (if t383 = 0 then ((reckonerref02_SetBit.f kj13 t372 x2_1 true).bind fun t388 => ((reckonerref02_Is.f kj13 t378 t388).bind fun t391 => (if t391 = true then ((reckonerref02_SetBit.f kj13 t372 x2_1 false).bind fun t392 => ((reckonerref02_Is.f kj13 t382 t392).bind fun t395 => (if t395 = true then (reckonerlaw02_NatBits.l0 kj13 (wrap64 (Int.tmod (IntKind.u64.wrap (x2_1)) 2600)) t372 t375 (wrap64 (x9_1 + 1))) else (none)))) else (none)))) else (none)) else (none)) = some r := by rw [if_neg (show ¬ (false = true) by decide)] at H; exact H
        clear H
        have H := H1
        clear H1
        by_cases c25 : t379 = 0
        ·rw [if_pos c25] at H
         have c25b0 : (t379 == 0) = true := beq_iff_eq.mpr c25
         have c25b1 : (t379 != 0) = false := bne_eq_false_iff_eq.mpr c25
         clear c25
         by_cases c26 : t383 = 0
         ·rw [if_pos c26] at H
          have c26b0 : (t383 == 0) = true := beq_iff_eq.mpr c26
          have c26b1 : (t383 != 0) = false := bne_eq_false_iff_eq.mpr c26
          clear c26
          replace H := Option.bind_eq_some_iff.mp H
          obtain ⟨t388, A270, H⟩ := H
          replace H : ((reckonerref02_Is.f kj13 t378 t388).bind fun t391 => (if t391 = true then ((reckonerref02_SetBit.f kj13 t372 x2_1 false).bind fun t392 => ((reckonerref02_Is.f kj13 t382 t392).bind fun t395 => (if t395 = true then (reckonerlaw02_NatBits.l0 kj13 (wrap64 (Int.tmod (IntKind.u64.wrap (x2_1)) 2600)) t372 t375 (wrap64 (x9_1 + 1))) else (none)))) else (none))) = some r := H
          have A27 := Aside0.mk A270
          clear A270
          replace H := Option.bind_eq_some_iff.mp H
          obtain ⟨t391, A280, H⟩ := H
          replace H : (if t391 = true then ((reckonerref02_SetBit.f kj13 t372 x2_1 false).bind fun t392 => ((reckonerref02_Is.f kj13 t382 t392).bind fun t395 => (if t395 = true then (reckonerlaw02_NatBits.l0 kj13 (wrap64 (Int.tmod (IntKind.u64.wrap (x2_1)) 2600)) t372 t375 (wrap64 (x9_1 + 1))) else (none)))) else (none)) = some r := H
          have A28 := Aside0.mk A280
          clear A280
          by_cases c29 : t391 = true
          ·subst c29
           have H1 : ((reckonerref02_SetBit.f kj13 t372 x2_1 false).bind fun t392 => ((reckonerref02_Is.f kj13 t382 t392).bind fun t395 => (if t395 = true then (reckonerlaw02_NatBits.l0 kj13 (wrap64 (Int.tmod (IntKind.u64.wrap (x2_1)) 2600)) t372 t375 (wrap64 (x9_1 + 1))) else (none)))) = some r := by rw [if_pos rfl] at H; exact H
           clear H
           have H := H1
           clear H1
           replace H := Option.bind_eq_some_iff.mp H
           obtain ⟨t392, A300, H⟩ := H
           replace H : ((reckonerref02_Is.f kj13 t382 t392).bind fun t395 => (if t395 = true then (reckonerlaw02_NatBits.l0 kj13 (wrap64 (Int.tmod (IntKind.u64.wrap (x2_1)) 2600)) t372 t375 (wrap64 (x9_1 + 1))) else (none))) = some r := H
           have A30 := Aside0.mk A300
           clear A300
           replace H := Option.bind_eq_some_iff.mp H
           obtain ⟨t395, A310, H⟩ := H
           replace H : (if t395 = true then (reckonerlaw02_NatBits.l0 kj13 (wrap64 (Int.tmod (IntKind.u64.wrap (x2_1)) 2600)) t372 t375 (wrap64 (x9_1 + 1))) else (none)) = some r := H
           have A31 := Aside0.mk A310
           clear A310
           by_cases c32 : t395 = true
           ·subst c32
            have H1 : (reckonerlaw02_NatBits.l0 kj13 (wrap64 (Int.tmod (IntKind.u64.wrap (x2_1)) 2600)) t372 t375 (wrap64 (x9_1 + 1))) = some r := by rw [if_pos rfl] at H; exact H
            clear H
            have H := H1
            clear H1
            have H' := Aside0.mk H
            clear H
            go_wp2_with (first | (go_at_call 13; (with_reducible refine (reckonerref02_SetBit.calls kj13 _ _ t372 x2_1 true t388 _ ?side1 ?side2 A27.out).mono ?_); (case side1 => repeat (first | exact (Kd.R_reads' HO_7.out).2.2 | (with_reducible refine Kd.C_alloc ?_ _) | (with_reducible refine Kd.C_drewN ?_ _) | (with_reducible refine Kd.C_drew ?_))); (case side2 => exact (Kd.R_reads' HO_7.out).2.1); rintro e w33 ⟨v389, rfl, ho0, hb⟩; have n0_ := Aside0.mk (Kd.R_elder' (by (with_reducible repeat (first | apply Kd.R_alloc | apply Kd.R_drewN | apply Kd.R_drew)); exact HO_7.out) (Kd.R_base ho0) hb); have n1_ := Aside0.mk (Kd.R_elder' (by (with_reducible repeat (first | apply Kd.R_alloc | apply Kd.R_drewN | apply Kd.R_drew)); exact HO_8.out) (Kd.R_base ho0) hb); have n2_ := Aside0.mk (Kd.R_elder' (by (with_reducible repeat (first | apply Kd.R_alloc | apply Kd.R_drewN | apply Kd.R_drew)); exact HO_10.out) (Kd.R_base ho0) hb); have n3_ := Aside0.mk (Kd.R_elder' (by (with_reducible repeat (first | apply Kd.R_alloc | apply Kd.R_drewN | apply Kd.R_drew)); exact HO_12.out) (Kd.R_base ho0) hb); have n4_ := Aside0.mk (Kd.R_lower (Kd.R_new' (Kd.R_new' (Kd.R_new' (Kd.R_new' ho0 (Kd.R_lt (by (with_reducible repeat (first | apply Kd.R_alloc | apply Kd.R_drewN | apply Kd.R_drew)); exact HO_7.out))) (Kd.R_lt (by (with_reducible repeat (first | apply Kd.R_alloc | apply Kd.R_drewN | apply Kd.R_drew)); exact HO_8.out))) (Kd.R_lt (by (with_reducible repeat (first | apply Kd.R_alloc | apply Kd.R_drewN | apply Kd.R_drew)); exact HO_10.out))) (Kd.R_lt (by (with_reducible repeat (first | apply Kd.R_alloc | apply Kd.R_drewN | apply Kd.R_drew)); exact HO_12.out))) (below_size (by repeat (first | (with_reducible first | exact HB.out | apply below_alloc | apply pw_below_drewN | apply below_drew1) | exact HB.out)))); have n5_ := Aside0.mk (below_step (by repeat (first | (with_reducible first | exact HB.out | apply below_alloc | apply pw_below_drewN | apply below_drew1) | exact HB.out)) hb); clear HO_7; clear HO_8; clear HO_10; clear HO_12; clear HB; have HO_7 := n0_; have HO_8 := n1_; have HO_10 := n2_; have HO_12 := n3_; have HO390 := n4_; have HB := n5_; clear n0_ n1_ n2_ n3_ n4_ n5_; (try clear hb); (try clear hb2); (try clear hk); (try clear hi); (try clear ho0); obtain ⟨Ao34, co34, eo34⟩ := Kd.R_slice HO_10.out; subst eo34; obtain ⟨Ao35, co35, eo35⟩ := Kd.R_slice HO390.out; subst eo35) | (go_at_call 12; (with_reducible refine (reckonerref02_Is.calls kj13 _ _ t378 _ _ t388 true _ ?side1 ?side2 ?side3 ?side4 A28.out).mono ?_); (case side1 => repeat (first | exact (Kd.R_reads' HO_10.out).2.2 | (with_reducible refine Kd.C_alloc ?_ _) | (with_reducible refine Kd.C_drewN ?_ _) | (with_reducible refine Kd.C_drew ?_))); (case side2 => exact (Kd.R_reads' HO_10.out).2.1); (case side3 => repeat (first | exact (Kd.R_reads' HO390.out).2.2 | (with_reducible refine Kd.C_alloc ?_ _) | (with_reducible refine Kd.C_drewN ?_ _) | (with_reducible refine Kd.C_drew ?_))); (case side4 => exact (Kd.R_reads' HO390.out).2.1); rintro e w36 ⟨rfl, hb⟩; have n0_ := Aside0.mk (Kd.R_below (by (with_reducible repeat (first | apply Kd.R_alloc | apply Kd.R_drewN | apply Kd.R_drew)); exact HO_7.out) hb); have n1_ := Aside0.mk (Kd.R_below (by (with_reducible repeat (first | apply Kd.R_alloc | apply Kd.R_drewN | apply Kd.R_drew)); exact HO_8.out) hb); have n2_ := Aside0.mk (Kd.R_below (by (with_reducible repeat (first | apply Kd.R_alloc | apply Kd.R_drewN | apply Kd.R_drew)); exact HO_10.out) hb); have n3_ := Aside0.mk (Kd.R_below (by (with_reducible repeat (first | apply Kd.R_alloc | apply Kd.R_drewN | apply Kd.R_drew)); exact HO_12.out) hb); have n4_ := Aside0.mk (Kd.R_below (by (with_reducible repeat (first | apply Kd.R_alloc | apply Kd.R_drewN | apply Kd.R_drew)); exact HO390.out) hb); have n5_ := Aside0.mk (below_step (by repeat (first | (with_reducible first | exact HB.out | apply below_alloc | apply pw_below_drewN | apply below_drew1) | exact HB.out)) hb); clear HO_7; clear HO_8; clear HO_10; clear HO_12; clear HO390; clear HB; have HO_7 := n0_; have HO_8 := n1_; have HO_10 := n2_; have HO_12 := n3_; have HO390 := n4_; have HB := n5_; clear n0_ n1_ n2_ n3_ n4_ n5_; (try clear hb); (try clear hb2); (try clear hk); (try clear hi)) | (go_at_call 13; (with_reducible refine (reckonerref02_SetBit.calls kj13 _ _ t372 x2_1 false t392 _ ?side1 ?side2 A30.out).mono ?_); (case side1 => repeat (first | exact (Kd.R_reads' HO_7.out).2.2 | (with_reducible refine Kd.C_alloc ?_ _) | (with_reducible refine Kd.C_drewN ?_ _) | (with_reducible refine Kd.C_drew ?_))); (case side2 => exact (Kd.R_reads' HO_7.out).2.1); rintro e w37 ⟨v393, rfl, ho0, hb⟩; have n0_ := Aside0.mk (Kd.R_elder' (by (with_reducible repeat (first | apply Kd.R_alloc | apply Kd.R_drewN | apply Kd.R_drew)); exact HO_7.out) (Kd.R_base ho0) hb); have n1_ := Aside0.mk (Kd.R_elder' (by (with_reducible repeat (first | apply Kd.R_alloc | apply Kd.R_drewN | apply Kd.R_drew)); exact HO_8.out) (Kd.R_base ho0) hb); have n2_ := Aside0.mk (Kd.R_elder' (by (with_reducible repeat (first | apply Kd.R_alloc | apply Kd.R_drewN | apply Kd.R_drew)); exact HO_10.out) (Kd.R_base ho0) hb); have n3_ := Aside0.mk (Kd.R_elder' (by (with_reducible repeat (first | apply Kd.R_alloc | apply Kd.R_drewN | apply Kd.R_drew)); exact HO_12.out) (Kd.R_base ho0) hb); have n4_ := Aside0.mk (Kd.R_elder' (by (with_reducible repeat (first | apply Kd.R_alloc | apply Kd.R_drewN | apply Kd.R_drew)); exact HO390.out) (Kd.R_base ho0) hb); have n5_ := Aside0.mk (Kd.R_lower (Kd.R_new' (Kd.R_new' (Kd.R_new' (Kd.R_new' (Kd.R_new' ho0 (Kd.R_lt (by (with_reducible repeat (first | apply Kd.R_alloc | apply Kd.R_drewN | apply Kd.R_drew)); exact HO_7.out))) (Kd.R_lt (by (with_reducible repeat (first | apply Kd.R_alloc | apply Kd.R_drewN | apply Kd.R_drew)); exact HO_8.out))) (Kd.R_lt (by (with_reducible repeat (first | apply Kd.R_alloc | apply Kd.R_drewN | apply Kd.R_drew)); exact HO_10.out))) (Kd.R_lt (by (with_reducible repeat (first | apply Kd.R_alloc | apply Kd.R_drewN | apply Kd.R_drew)); exact HO_12.out))) (Kd.R_lt (by (with_reducible repeat (first | apply Kd.R_alloc | apply Kd.R_drewN | apply Kd.R_drew)); exact HO390.out))) (below_size (by repeat (first | (with_reducible first | exact HB.out | apply below_alloc | apply pw_below_drewN | apply below_drew1) | exact HB.out)))); have n6_ := Aside0.mk (below_step (by repeat (first | (with_reducible first | exact HB.out | apply below_alloc | apply pw_below_drewN | apply below_drew1) | exact HB.out)) hb); clear HO_7; clear HO_8; clear HO_10; clear HO_12; clear HO390; clear HB; have HO_7 := n0_; have HO_8 := n1_; have HO_10 := n2_; have HO_12 := n3_; have HO390 := n4_; have HO394 := n5_; have HB := n6_; clear n0_ n1_ n2_ n3_ n4_ n5_ n6_; (try clear hb); (try clear hb2); (try clear hk); (try clear hi); (try clear ho0); obtain ⟨Ao38, co38, eo38⟩ := Kd.R_slice HO_12.out; subst eo38; obtain ⟨Ao39, co39, eo39⟩ := Kd.R_slice HO394.out; subst eo39) | (go_at_call 12; (with_reducible refine (reckonerref02_Is.calls kj13 _ _ t382 _ _ t392 true _ ?side1 ?side2 ?side3 ?side4 A31.out).mono ?_); (case side1 => repeat (first | exact (Kd.R_reads' HO_12.out).2.2 | (with_reducible refine Kd.C_alloc ?_ _) | (with_reducible refine Kd.C_drewN ?_ _) | (with_reducible refine Kd.C_drew ?_))); (case side2 => exact (Kd.R_reads' HO_12.out).2.1); (case side3 => repeat (first | exact (Kd.R_reads' HO394.out).2.2 | (with_reducible refine Kd.C_alloc ?_ _) | (with_reducible refine Kd.C_drewN ?_ _) | (with_reducible refine Kd.C_drew ?_))); (case side4 => exact (Kd.R_reads' HO394.out).2.1); rintro e w40 ⟨rfl, hb⟩; have n0_ := Aside0.mk (Kd.R_below (by (with_reducible repeat (first | apply Kd.R_alloc | apply Kd.R_drewN | apply Kd.R_drew)); exact HO_7.out) hb); have n1_ := Aside0.mk (Kd.R_below (by (with_reducible repeat (first | apply Kd.R_alloc | apply Kd.R_drewN | apply Kd.R_drew)); exact HO_8.out) hb); have n2_ := Aside0.mk (Kd.R_below (by (with_reducible repeat (first | apply Kd.R_alloc | apply Kd.R_drewN | apply Kd.R_drew)); exact HO_10.out) hb); have n3_ := Aside0.mk (Kd.R_below (by (with_reducible repeat (first | apply Kd.R_alloc | apply Kd.R_drewN | apply Kd.R_drew)); exact HO_12.out) hb); have n4_ := Aside0.mk (Kd.R_below (by (with_reducible repeat (first | apply Kd.R_alloc | apply Kd.R_drewN | apply Kd.R_drew)); exact HO390.out) hb); have n5_ := Aside0.mk (Kd.R_below (by (with_reducible repeat (first | apply Kd.R_alloc | apply Kd.R_drewN | apply Kd.R_drew)); exact HO394.out) hb); have n6_ := Aside0.mk (below_step (by repeat (first | (with_reducible first | exact HB.out | apply below_alloc | apply pw_below_drewN | apply below_drew1) | exact HB.out)) hb); clear HO_7; clear HO_8; clear HO_10; clear HO_12; clear HO390; clear HO394; clear HB; have HO_7 := n0_; have HO_8 := n1_; have HO_10 := n2_; have HO_12 := n3_; have HO390 := n4_; have HO394 := n5_; have HB := n6_; clear n0_ n1_ n2_ n3_ n4_ n5_ n6_; (try clear hb); (try clear hb2); (try clear hk); (try clear hi)))
            go_roundg kj13
            case measure => have := HK1.out; have := HJ13.out; omega
            case rel => exact ⟨(wrap64 (Int.tmod (IntKind.u64.wrap (x2_1)) 2600)), (wrap64 (x9_1 + 1)), (by first | rfl | (simp; done) | (simp [*]; done)), (by first | rfl | (simp; done) | (simp [*]; done)), H', ⟨by have := HK1.out; have := HJ13.out; omega⟩, ⟨by (with_reducible repeat (first | apply Kd.R_alloc | apply Kd.R_drewN | apply Kd.R_drew)); exact Kd.R_mono HO_7.out (fun _ hk => hk.1.1.1)⟩, ⟨by (with_reducible repeat (first | apply Kd.R_alloc | apply Kd.R_drewN | apply Kd.R_drew)); exact Kd.R_mono HO_8.out (fun _ hk => hk.1.1.1)⟩, ⟨by repeat (first | (with_reducible first | exact HB.out | apply below_alloc | apply pw_below_drewN | apply below_drew1) | exact HB.out)⟩⟩
           ·replace c32 := Bool.eq_false_iff.mpr c32
            subst c32
            have H1 : (none) = some r := by rw [if_neg (show ¬ (false = true) by decide)] at H; exact H
            clear H
            have H := H1
            clear H1
            exact absurd H (by simp)
          ·replace c29 := Bool.eq_false_iff.mpr c29
           subst c29
           have H1 : (none) = some r := by rw [if_neg (show ¬ (false = true) by decide)] at H; exact H
           clear H
           have H := H1
           clear H1
           exact absurd H (by simp)
         ·rw [if_neg c26] at H
          exact absurd H (by simp)
        ·rw [if_neg c25] at H
         exact absurd H (by simp)
   ·rw [if_neg c8] at H
    have c8b0 : decide (x9_1 < 2) = false := decide_eq_false c8
    clear c8
    replace H := Option.bind_eq_some_iff.mp H
    obtain ⟨⟨t396, t397⟩, A410, H⟩ := H
    replace H : ((nat_Or.f t372 t375).bind fun bt400 => ((nat_Xor.f t372 t375).bind fun bt404 => (if t397 = 0 then (if bt400.2 = 0 then (if bt404.2 = 0 then ((reckonerref02_Joined.f k1 t372 t375 0).bind fun t408 => ((reckonerref02_Is.f k1 t396 t408).bind fun t411 => (if t411 = true then ((reckonerref02_Joined.f k1 t372 t375 1).bind fun t412 => ((reckonerref02_Is.f k1 bt400.1 t412).bind fun t415 => (if t415 = true then ((reckonerref02_Joined.f k1 t372 t375 2).bind fun t416 => ((reckonerref02_Is.f k1 bt404.1 t416).bind fun t419 => (if t419 = true then ((reckonerlaw02_awake.f k1).bind fun t420 => (some t420)) else (none)))) else (none)))) else (none)))) else (none)) else (none)) else (none)))) = some r := H
    have A41 := Aside0.mk A410
    clear A410
    replace H := Option.bind_eq_some_iff.mp H
    obtain ⟨⟨t400, t401⟩, A420, H⟩ := H
    replace H : ((nat_Xor.f t372 t375).bind fun bt404 => (if t397 = 0 then (if t401 = 0 then (if bt404.2 = 0 then ((reckonerref02_Joined.f k1 t372 t375 0).bind fun t408 => ((reckonerref02_Is.f k1 t396 t408).bind fun t411 => (if t411 = true then ((reckonerref02_Joined.f k1 t372 t375 1).bind fun t412 => ((reckonerref02_Is.f k1 t400 t412).bind fun t415 => (if t415 = true then ((reckonerref02_Joined.f k1 t372 t375 2).bind fun t416 => ((reckonerref02_Is.f k1 bt404.1 t416).bind fun t419 => (if t419 = true then ((reckonerlaw02_awake.f k1).bind fun t420 => (some t420)) else (none)))) else (none)))) else (none)))) else (none)) else (none)) else (none))) = some r := H
    have A42 := Aside0.mk A420
    clear A420
    replace H := Option.bind_eq_some_iff.mp H
    obtain ⟨⟨t404, t405⟩, A430, H⟩ := H
    replace H : (if t397 = 0 then (if t401 = 0 then (if t405 = 0 then ((reckonerref02_Joined.f k1 t372 t375 0).bind fun t408 => ((reckonerref02_Is.f k1 t396 t408).bind fun t411 => (if t411 = true then ((reckonerref02_Joined.f k1 t372 t375 1).bind fun t412 => ((reckonerref02_Is.f k1 t400 t412).bind fun t415 => (if t415 = true then ((reckonerref02_Joined.f k1 t372 t375 2).bind fun t416 => ((reckonerref02_Is.f k1 t404 t416).bind fun t419 => (if t419 = true then ((reckonerlaw02_awake.f k1).bind fun t420 => (some t420)) else (none)))) else (none)))) else (none)))) else (none)) else (none)) else (none)) = some r := H
    have A43 := Aside0.mk A430
    clear A430
    by_cases c44 : t397 = 0
    ·rw [if_pos c44] at H
     have c44b0 : (t397 == 0) = true := beq_iff_eq.mpr c44
     have c44b1 : (t397 != 0) = false := bne_eq_false_iff_eq.mpr c44
     clear c44
     by_cases c45 : t401 = 0
     ·rw [if_pos c45] at H
      have c45b0 : (t401 == 0) = true := beq_iff_eq.mpr c45
      have c45b1 : (t401 != 0) = false := bne_eq_false_iff_eq.mpr c45
      clear c45
      by_cases c46 : t405 = 0
      ·rw [if_pos c46] at H
       have c46b0 : (t405 == 0) = true := beq_iff_eq.mpr c46
       have c46b1 : (t405 != 0) = false := bne_eq_false_iff_eq.mpr c46
       clear c46
       replace H := Option.bind_eq_some_iff.mp H
       obtain ⟨t408, A470, H⟩ := H
       replace H : ((reckonerref02_Is.f k1 t396 t408).bind fun t411 => (if t411 = true then ((reckonerref02_Joined.f k1 t372 t375 1).bind fun t412 => ((reckonerref02_Is.f k1 t400 t412).bind fun t415 => (if t415 = true then ((reckonerref02_Joined.f k1 t372 t375 2).bind fun t416 => ((reckonerref02_Is.f k1 t404 t416).bind fun t419 => (if t419 = true then ((reckonerlaw02_awake.f k1).bind fun t420 => (some t420)) else (none)))) else (none)))) else (none))) = some r := H
       have A47 := Aside0.mk A470
       clear A470
       replace H := Option.bind_eq_some_iff.mp H
       obtain ⟨t411, A480, H⟩ := H
       replace H : (if t411 = true then ((reckonerref02_Joined.f k1 t372 t375 1).bind fun t412 => ((reckonerref02_Is.f k1 t400 t412).bind fun t415 => (if t415 = true then ((reckonerref02_Joined.f k1 t372 t375 2).bind fun t416 => ((reckonerref02_Is.f k1 t404 t416).bind fun t419 => (if t419 = true then ((reckonerlaw02_awake.f k1).bind fun t420 => (some t420)) else (none)))) else (none)))) else (none)) = some r := H
       have A48 := Aside0.mk A480
       clear A480
       by_cases c49 : t411 = true
       ·subst c49
        have H1 : ((reckonerref02_Joined.f k1 t372 t375 1).bind fun t412 => ((reckonerref02_Is.f k1 t400 t412).bind fun t415 => (if t415 = true then ((reckonerref02_Joined.f k1 t372 t375 2).bind fun t416 => ((reckonerref02_Is.f k1 t404 t416).bind fun t419 => (if t419 = true then ((reckonerlaw02_awake.f k1).bind fun t420 => (some t420)) else (none)))) else (none)))) = some r := by rw [if_pos rfl] at H; exact H
        clear H
        have H := H1
        clear H1
        replace H := Option.bind_eq_some_iff.mp H
        obtain ⟨t412, A500, H⟩ := H
        replace H : ((reckonerref02_Is.f k1 t400 t412).bind fun t415 => (if t415 = true then ((reckonerref02_Joined.f k1 t372 t375 2).bind fun t416 => ((reckonerref02_Is.f k1 t404 t416).bind fun t419 => (if t419 = true then ((reckonerlaw02_awake.f k1).bind fun t420 => (some t420)) else (none)))) else (none))) = some r := H
        have A50 := Aside0.mk A500
        clear A500
        replace H := Option.bind_eq_some_iff.mp H
        obtain ⟨t415, A510, H⟩ := H
        replace H : (if t415 = true then ((reckonerref02_Joined.f k1 t372 t375 2).bind fun t416 => ((reckonerref02_Is.f k1 t404 t416).bind fun t419 => (if t419 = true then ((reckonerlaw02_awake.f k1).bind fun t420 => (some t420)) else (none)))) else (none)) = some r := H
        have A51 := Aside0.mk A510
        clear A510
        by_cases c52 : t415 = true
        ·subst c52
         have H1 : ((reckonerref02_Joined.f k1 t372 t375 2).bind fun t416 => ((reckonerref02_Is.f k1 t404 t416).bind fun t419 => (if t419 = true then ((reckonerlaw02_awake.f k1).bind fun t420 => (some t420)) else (none)))) = some r := by rw [if_pos rfl] at H; exact H
         clear H
         have H := H1
         clear H1
         replace H := Option.bind_eq_some_iff.mp H
         obtain ⟨t416, A530, H⟩ := H
         replace H : ((reckonerref02_Is.f k1 t404 t416).bind fun t419 => (if t419 = true then ((reckonerlaw02_awake.f k1).bind fun t420 => (some t420)) else (none))) = some r := H
         have A53 := Aside0.mk A530
         clear A530
         replace H := Option.bind_eq_some_iff.mp H
         obtain ⟨t419, A540, H⟩ := H
         replace H : (if t419 = true then ((reckonerlaw02_awake.f k1).bind fun t420 => (some t420)) else (none)) = some r := H
         have A54 := Aside0.mk A540
         clear A540
         by_cases c55 : t419 = true
         ·subst c55
          have H1 : ((reckonerlaw02_awake.f k1).bind fun t420 => (some t420)) = some r := by rw [if_pos rfl] at H; exact H
          clear H
          have H := H1
          clear H1
          replace H := Option.bind_eq_some_iff.mp H
          obtain ⟨t420, A560, H⟩ := H
          replace H : (some t420) = some r := H
          have A56 := Aside0.mk A560
          clear A560
          obtain rfl := Option.some.inj H
          obtain ⟨Ao57, co57, eo57⟩ := Kd.R_slice HO_7.out
          subst eo57
          obtain ⟨Ao58, co58, eo58⟩ := Kd.R_slice HO_8.out
          subst eo58
          go_wp2_with (first | ((with_reducible refine gate_callee (f := 14) rfl ?_); refine goesL_ (some 96) rfl rfl Tryd.func14 (by kernel_rfl) rfl #[.slice Ao57 t372.length co57, .slice Ao58 t375.length co58] rfl (by (try simp only [List.map_toArray, List.map_cons, List.map_nil]); first | done | rfl | (simp only [List.length_drop, List.length_take]; rfl)) ?_; (with_reducible refine (nat_And.calls _ _ t372 _ _ t375 t396 t397 _ ?side1 ?side2 ?side3 ?side4 (LaidJ.below HLj.out (by repeat (first | (with_reducible first | exact HB.out | apply below_alloc | apply pw_below_drewN | apply below_drew1) | exact HB.out))) A41.out).mono ?_); (case side1 => repeat (first | exact (Kd.R_reads' HO_7.out).2.2 | (with_reducible refine Kd.C_alloc ?_ _) | (with_reducible refine Kd.C_drewN ?_ _) | (with_reducible refine Kd.C_drew ?_))); (case side2 => exact (Kd.R_reads' HO_7.out).2.1); (case side3 => repeat (first | exact (Kd.R_reads' HO_8.out).2.2 | (with_reducible refine Kd.C_alloc ?_ _) | (with_reducible refine Kd.C_drewN ?_ _) | (with_reducible refine Kd.C_drew ?_))); (case side4 => exact (Kd.R_reads' HO_8.out).2.1); rintro e w59 ⟨v398, rfl, ho0, hb⟩; refine ⟨_, rfl, ?_⟩; have n0_ := Aside0.mk (Kd.R_elder' (by (with_reducible repeat (first | apply Kd.R_alloc | apply Kd.R_drewN | apply Kd.R_drew)); exact HO_7.out) (Kd.R_base ho0) hb); have n1_ := Aside0.mk (Kd.R_elder' (by (with_reducible repeat (first | apply Kd.R_alloc | apply Kd.R_drewN | apply Kd.R_drew)); exact HO_8.out) (Kd.R_base ho0) hb); have n2_ := Aside0.mk (Kd.R_lower (Kd.R_new' (Kd.R_new' ho0 (Kd.R_lt (by (with_reducible repeat (first | apply Kd.R_alloc | apply Kd.R_drewN | apply Kd.R_drew)); exact HO_7.out))) (Kd.R_lt (by (with_reducible repeat (first | apply Kd.R_alloc | apply Kd.R_drewN | apply Kd.R_drew)); exact HO_8.out))) (below_size (by repeat (first | (with_reducible first | exact HB.out | apply below_alloc | apply pw_below_drewN | apply below_drew1) | exact HB.out)))); have n3_ := Aside0.mk (below_step (by repeat (first | (with_reducible first | exact HB.out | apply below_alloc | apply pw_below_drewN | apply below_drew1) | exact HB.out)) hb); clear HO_7; clear HO_8; clear HB; have HO_7 := n0_; have HO_8 := n1_; have HO399 := n2_; have HB := n3_; clear n0_ n1_ n2_ n3_; (try clear hb); (try clear hb2); (try clear hk); (try clear hi); (try clear ho0)) | ((with_reducible refine gate_callee (f := 15) rfl ?_); refine goesL_ (some 102) rfl rfl Tryd.func15 (by kernel_rfl) rfl #[.slice Ao57 t372.length co57, .slice Ao58 t375.length co58] rfl (by (try simp only [List.map_toArray, List.map_cons, List.map_nil]); first | done | rfl | (simp only [List.length_drop, List.length_take]; rfl)) ?_; (with_reducible refine (nat_Or.calls _ _ t372 _ _ t375 t400 t401 _ ?side1 ?side2 ?side3 ?side4 (LaidJ.below HLj.out (by repeat (first | (with_reducible first | exact HB.out | apply below_alloc | apply pw_below_drewN | apply below_drew1) | exact HB.out))) A42.out).mono ?_); (case side1 => repeat (first | exact (Kd.R_reads' HO_7.out).2.2 | (with_reducible refine Kd.C_alloc ?_ _) | (with_reducible refine Kd.C_drewN ?_ _) | (with_reducible refine Kd.C_drew ?_))); (case side2 => exact (Kd.R_reads' HO_7.out).2.1); (case side3 => repeat (first | exact (Kd.R_reads' HO_8.out).2.2 | (with_reducible refine Kd.C_alloc ?_ _) | (with_reducible refine Kd.C_drewN ?_ _) | (with_reducible refine Kd.C_drew ?_))); (case side4 => exact (Kd.R_reads' HO_8.out).2.1); rintro e w60 ⟨v402, rfl, ho0, hb⟩; refine ⟨_, rfl, ?_⟩; have n0_ := Aside0.mk (Kd.R_elder' (by (with_reducible repeat (first | apply Kd.R_alloc | apply Kd.R_drewN | apply Kd.R_drew)); exact HO_7.out) (Kd.R_base ho0) hb); have n1_ := Aside0.mk (Kd.R_elder' (by (with_reducible repeat (first | apply Kd.R_alloc | apply Kd.R_drewN | apply Kd.R_drew)); exact HO_8.out) (Kd.R_base ho0) hb); have n2_ := Aside0.mk (Kd.R_elder' (by (with_reducible repeat (first | apply Kd.R_alloc | apply Kd.R_drewN | apply Kd.R_drew)); exact HO399.out) (Kd.R_base ho0) hb); have n3_ := Aside0.mk (Kd.R_lower (Kd.R_new' (Kd.R_new' (Kd.R_new' ho0 (Kd.R_lt (by (with_reducible repeat (first | apply Kd.R_alloc | apply Kd.R_drewN | apply Kd.R_drew)); exact HO_7.out))) (Kd.R_lt (by (with_reducible repeat (first | apply Kd.R_alloc | apply Kd.R_drewN | apply Kd.R_drew)); exact HO_8.out))) (Kd.R_lt (by (with_reducible repeat (first | apply Kd.R_alloc | apply Kd.R_drewN | apply Kd.R_drew)); exact HO399.out))) (below_size (by repeat (first | (with_reducible first | exact HB.out | apply below_alloc | apply pw_below_drewN | apply below_drew1) | exact HB.out)))); have n4_ := Aside0.mk (below_step (by repeat (first | (with_reducible first | exact HB.out | apply below_alloc | apply pw_below_drewN | apply below_drew1) | exact HB.out)) hb); clear HO_7; clear HO_8; clear HO399; clear HB; have HO_7 := n0_; have HO_8 := n1_; have HO399 := n2_; have HO403 := n3_; have HB := n4_; clear n0_ n1_ n2_ n3_ n4_; (try clear hb); (try clear hb2); (try clear hk); (try clear hi); (try clear ho0)) | ((with_reducible refine gate_callee (f := 16) rfl ?_); refine goesL_ (some 108) rfl rfl Tryd.func16 (by kernel_rfl) rfl #[.slice Ao57 t372.length co57, .slice Ao58 t375.length co58] rfl (by (try simp only [List.map_toArray, List.map_cons, List.map_nil]); first | done | rfl | (simp only [List.length_drop, List.length_take]; rfl)) ?_; (with_reducible refine (nat_Xor.calls _ _ t372 _ _ t375 t404 t405 _ ?side1 ?side2 ?side3 ?side4 (LaidJ.below HLj.out (by repeat (first | (with_reducible first | exact HB.out | apply below_alloc | apply pw_below_drewN | apply below_drew1) | exact HB.out))) A43.out).mono ?_); (case side1 => repeat (first | exact (Kd.R_reads' HO_7.out).2.2 | (with_reducible refine Kd.C_alloc ?_ _) | (with_reducible refine Kd.C_drewN ?_ _) | (with_reducible refine Kd.C_drew ?_))); (case side2 => exact (Kd.R_reads' HO_7.out).2.1); (case side3 => repeat (first | exact (Kd.R_reads' HO_8.out).2.2 | (with_reducible refine Kd.C_alloc ?_ _) | (with_reducible refine Kd.C_drewN ?_ _) | (with_reducible refine Kd.C_drew ?_))); (case side4 => exact (Kd.R_reads' HO_8.out).2.1); rintro e w61 ⟨v406, rfl, ho0, hb⟩; refine ⟨_, rfl, ?_⟩; have n0_ := Aside0.mk (Kd.R_elder' (by (with_reducible repeat (first | apply Kd.R_alloc | apply Kd.R_drewN | apply Kd.R_drew)); exact HO_7.out) (Kd.R_base ho0) hb); have n1_ := Aside0.mk (Kd.R_elder' (by (with_reducible repeat (first | apply Kd.R_alloc | apply Kd.R_drewN | apply Kd.R_drew)); exact HO_8.out) (Kd.R_base ho0) hb); have n2_ := Aside0.mk (Kd.R_elder' (by (with_reducible repeat (first | apply Kd.R_alloc | apply Kd.R_drewN | apply Kd.R_drew)); exact HO399.out) (Kd.R_base ho0) hb); have n3_ := Aside0.mk (Kd.R_elder' (by (with_reducible repeat (first | apply Kd.R_alloc | apply Kd.R_drewN | apply Kd.R_drew)); exact HO403.out) (Kd.R_base ho0) hb); have n4_ := Aside0.mk (Kd.R_lower (Kd.R_new' (Kd.R_new' (Kd.R_new' (Kd.R_new' ho0 (Kd.R_lt (by (with_reducible repeat (first | apply Kd.R_alloc | apply Kd.R_drewN | apply Kd.R_drew)); exact HO_7.out))) (Kd.R_lt (by (with_reducible repeat (first | apply Kd.R_alloc | apply Kd.R_drewN | apply Kd.R_drew)); exact HO_8.out))) (Kd.R_lt (by (with_reducible repeat (first | apply Kd.R_alloc | apply Kd.R_drewN | apply Kd.R_drew)); exact HO399.out))) (Kd.R_lt (by (with_reducible repeat (first | apply Kd.R_alloc | apply Kd.R_drewN | apply Kd.R_drew)); exact HO403.out))) (below_size (by repeat (first | (with_reducible first | exact HB.out | apply below_alloc | apply pw_below_drewN | apply below_drew1) | exact HB.out)))); have n5_ := Aside0.mk (below_step (by repeat (first | (with_reducible first | exact HB.out | apply below_alloc | apply pw_below_drewN | apply below_drew1) | exact HB.out)) hb); clear HO_7; clear HO_8; clear HO399; clear HO403; clear HB; have HO_7 := n0_; have HO_8 := n1_; have HO399 := n2_; have HO403 := n3_; have HO407 := n4_; have HB := n5_; clear n0_ n1_ n2_ n3_ n4_ n5_; (try clear hb); (try clear hb2); (try clear hk); (try clear hi); (try clear ho0)) | (go_at_call 17; (with_reducible refine (reckonerref02_Joined.calls k1 _ _ t372 _ _ t375 0 t408 _ ?side1 ?side2 ?side3 ?side4 A47.out).mono ?_); (case side1 => repeat (first | exact (Kd.R_reads' HO_7.out).2.2 | (with_reducible refine Kd.C_alloc ?_ _) | (with_reducible refine Kd.C_drewN ?_ _) | (with_reducible refine Kd.C_drew ?_))); (case side2 => exact (Kd.R_reads' HO_7.out).2.1); (case side3 => repeat (first | exact (Kd.R_reads' HO_8.out).2.2 | (with_reducible refine Kd.C_alloc ?_ _) | (with_reducible refine Kd.C_drewN ?_ _) | (with_reducible refine Kd.C_drew ?_))); (case side4 => exact (Kd.R_reads' HO_8.out).2.1); rintro e w62 ⟨v409, rfl, ho0, hb⟩; have n0_ := Aside0.mk (Kd.R_elder' (by (with_reducible repeat (first | apply Kd.R_alloc | apply Kd.R_drewN | apply Kd.R_drew)); exact HO_7.out) (Kd.R_base ho0) hb); have n1_ := Aside0.mk (Kd.R_elder' (by (with_reducible repeat (first | apply Kd.R_alloc | apply Kd.R_drewN | apply Kd.R_drew)); exact HO_8.out) (Kd.R_base ho0) hb); have n2_ := Aside0.mk (Kd.R_elder' (by (with_reducible repeat (first | apply Kd.R_alloc | apply Kd.R_drewN | apply Kd.R_drew)); exact HO399.out) (Kd.R_base ho0) hb); have n3_ := Aside0.mk (Kd.R_elder' (by (with_reducible repeat (first | apply Kd.R_alloc | apply Kd.R_drewN | apply Kd.R_drew)); exact HO403.out) (Kd.R_base ho0) hb); have n4_ := Aside0.mk (Kd.R_elder' (by (with_reducible repeat (first | apply Kd.R_alloc | apply Kd.R_drewN | apply Kd.R_drew)); exact HO407.out) (Kd.R_base ho0) hb); have n5_ := Aside0.mk (Kd.R_lower (Kd.R_new' (Kd.R_new' (Kd.R_new' (Kd.R_new' (Kd.R_new' ho0 (Kd.R_lt (by (with_reducible repeat (first | apply Kd.R_alloc | apply Kd.R_drewN | apply Kd.R_drew)); exact HO_7.out))) (Kd.R_lt (by (with_reducible repeat (first | apply Kd.R_alloc | apply Kd.R_drewN | apply Kd.R_drew)); exact HO_8.out))) (Kd.R_lt (by (with_reducible repeat (first | apply Kd.R_alloc | apply Kd.R_drewN | apply Kd.R_drew)); exact HO399.out))) (Kd.R_lt (by (with_reducible repeat (first | apply Kd.R_alloc | apply Kd.R_drewN | apply Kd.R_drew)); exact HO403.out))) (Kd.R_lt (by (with_reducible repeat (first | apply Kd.R_alloc | apply Kd.R_drewN | apply Kd.R_drew)); exact HO407.out))) (below_size (by repeat (first | (with_reducible first | exact HB.out | apply below_alloc | apply pw_below_drewN | apply below_drew1) | exact HB.out)))); have n6_ := Aside0.mk (below_step (by repeat (first | (with_reducible first | exact HB.out | apply below_alloc | apply pw_below_drewN | apply below_drew1) | exact HB.out)) hb); clear HO_7; clear HO_8; clear HO399; clear HO403; clear HO407; clear HB; have HO_7 := n0_; have HO_8 := n1_; have HO399 := n2_; have HO403 := n3_; have HO407 := n4_; have HO410 := n5_; have HB := n6_; clear n0_ n1_ n2_ n3_ n4_ n5_ n6_; (try clear hb); (try clear hb2); (try clear hk); (try clear hi); (try clear ho0); obtain ⟨Ao63, co63, eo63⟩ := Kd.R_slice HO399.out; subst eo63; obtain ⟨Ao64, co64, eo64⟩ := Kd.R_slice HO410.out; subst eo64) | (go_at_call 12; (with_reducible refine (reckonerref02_Is.calls k1 _ _ t396 _ _ t408 true _ ?side1 ?side2 ?side3 ?side4 A48.out).mono ?_); (case side1 => repeat (first | exact (Kd.R_reads' HO399.out).2.2 | (with_reducible refine Kd.C_alloc ?_ _) | (with_reducible refine Kd.C_drewN ?_ _) | (with_reducible refine Kd.C_drew ?_))); (case side2 => exact (Kd.R_reads' HO399.out).2.1); (case side3 => repeat (first | exact (Kd.R_reads' HO410.out).2.2 | (with_reducible refine Kd.C_alloc ?_ _) | (with_reducible refine Kd.C_drewN ?_ _) | (with_reducible refine Kd.C_drew ?_))); (case side4 => exact (Kd.R_reads' HO410.out).2.1); rintro e w65 ⟨rfl, hb⟩; have n0_ := Aside0.mk (Kd.R_below (by (with_reducible repeat (first | apply Kd.R_alloc | apply Kd.R_drewN | apply Kd.R_drew)); exact HO_7.out) hb); have n1_ := Aside0.mk (Kd.R_below (by (with_reducible repeat (first | apply Kd.R_alloc | apply Kd.R_drewN | apply Kd.R_drew)); exact HO_8.out) hb); have n2_ := Aside0.mk (Kd.R_below (by (with_reducible repeat (first | apply Kd.R_alloc | apply Kd.R_drewN | apply Kd.R_drew)); exact HO399.out) hb); have n3_ := Aside0.mk (Kd.R_below (by (with_reducible repeat (first | apply Kd.R_alloc | apply Kd.R_drewN | apply Kd.R_drew)); exact HO403.out) hb); have n4_ := Aside0.mk (Kd.R_below (by (with_reducible repeat (first | apply Kd.R_alloc | apply Kd.R_drewN | apply Kd.R_drew)); exact HO407.out) hb); have n5_ := Aside0.mk (Kd.R_below (by (with_reducible repeat (first | apply Kd.R_alloc | apply Kd.R_drewN | apply Kd.R_drew)); exact HO410.out) hb); have n6_ := Aside0.mk (below_step (by repeat (first | (with_reducible first | exact HB.out | apply below_alloc | apply pw_below_drewN | apply below_drew1) | exact HB.out)) hb); clear HO_7; clear HO_8; clear HO399; clear HO403; clear HO407; clear HO410; clear HB; have HO_7 := n0_; have HO_8 := n1_; have HO399 := n2_; have HO403 := n3_; have HO407 := n4_; have HO410 := n5_; have HB := n6_; clear n0_ n1_ n2_ n3_ n4_ n5_ n6_; (try clear hb); (try clear hb2); (try clear hk); (try clear hi)) | (go_at_call 17; (with_reducible refine (reckonerref02_Joined.calls k1 _ _ t372 _ _ t375 1 t412 _ ?side1 ?side2 ?side3 ?side4 A50.out).mono ?_); (case side1 => repeat (first | exact (Kd.R_reads' HO_7.out).2.2 | (with_reducible refine Kd.C_alloc ?_ _) | (with_reducible refine Kd.C_drewN ?_ _) | (with_reducible refine Kd.C_drew ?_))); (case side2 => exact (Kd.R_reads' HO_7.out).2.1); (case side3 => repeat (first | exact (Kd.R_reads' HO_8.out).2.2 | (with_reducible refine Kd.C_alloc ?_ _) | (with_reducible refine Kd.C_drewN ?_ _) | (with_reducible refine Kd.C_drew ?_))); (case side4 => exact (Kd.R_reads' HO_8.out).2.1); rintro e w66 ⟨v413, rfl, ho0, hb⟩; have n0_ := Aside0.mk (Kd.R_elder' (by (with_reducible repeat (first | apply Kd.R_alloc | apply Kd.R_drewN | apply Kd.R_drew)); exact HO_7.out) (Kd.R_base ho0) hb); have n1_ := Aside0.mk (Kd.R_elder' (by (with_reducible repeat (first | apply Kd.R_alloc | apply Kd.R_drewN | apply Kd.R_drew)); exact HO_8.out) (Kd.R_base ho0) hb); have n2_ := Aside0.mk (Kd.R_elder' (by (with_reducible repeat (first | apply Kd.R_alloc | apply Kd.R_drewN | apply Kd.R_drew)); exact HO399.out) (Kd.R_base ho0) hb); have n3_ := Aside0.mk (Kd.R_elder' (by (with_reducible repeat (first | apply Kd.R_alloc | apply Kd.R_drewN | apply Kd.R_drew)); exact HO403.out) (Kd.R_base ho0) hb); have n4_ := Aside0.mk (Kd.R_elder' (by (with_reducible repeat (first | apply Kd.R_alloc | apply Kd.R_drewN | apply Kd.R_drew)); exact HO407.out) (Kd.R_base ho0) hb); have n5_ := Aside0.mk (Kd.R_elder' (by (with_reducible repeat (first | apply Kd.R_alloc | apply Kd.R_drewN | apply Kd.R_drew)); exact HO410.out) (Kd.R_base ho0) hb); have n6_ := Aside0.mk (Kd.R_lower (Kd.R_new' (Kd.R_new' (Kd.R_new' (Kd.R_new' (Kd.R_new' (Kd.R_new' ho0 (Kd.R_lt (by (with_reducible repeat (first | apply Kd.R_alloc | apply Kd.R_drewN | apply Kd.R_drew)); exact HO_7.out))) (Kd.R_lt (by (with_reducible repeat (first | apply Kd.R_alloc | apply Kd.R_drewN | apply Kd.R_drew)); exact HO_8.out))) (Kd.R_lt (by (with_reducible repeat (first | apply Kd.R_alloc | apply Kd.R_drewN | apply Kd.R_drew)); exact HO399.out))) (Kd.R_lt (by (with_reducible repeat (first | apply Kd.R_alloc | apply Kd.R_drewN | apply Kd.R_drew)); exact HO403.out))) (Kd.R_lt (by (with_reducible repeat (first | apply Kd.R_alloc | apply Kd.R_drewN | apply Kd.R_drew)); exact HO407.out))) (Kd.R_lt (by (with_reducible repeat (first | apply Kd.R_alloc | apply Kd.R_drewN | apply Kd.R_drew)); exact HO410.out))) (below_size (by repeat (first | (with_reducible first | exact HB.out | apply below_alloc | apply pw_below_drewN | apply below_drew1) | exact HB.out)))); have n7_ := Aside0.mk (below_step (by repeat (first | (with_reducible first | exact HB.out | apply below_alloc | apply pw_below_drewN | apply below_drew1) | exact HB.out)) hb); clear HO_7; clear HO_8; clear HO399; clear HO403; clear HO407; clear HO410; clear HB; have HO_7 := n0_; have HO_8 := n1_; have HO399 := n2_; have HO403 := n3_; have HO407 := n4_; have HO410 := n5_; have HO414 := n6_; have HB := n7_; clear n0_ n1_ n2_ n3_ n4_ n5_ n6_ n7_; (try clear hb); (try clear hb2); (try clear hk); (try clear hi); (try clear ho0); obtain ⟨Ao67, co67, eo67⟩ := Kd.R_slice HO403.out; subst eo67; obtain ⟨Ao68, co68, eo68⟩ := Kd.R_slice HO414.out; subst eo68) | (go_at_call 12; (with_reducible refine (reckonerref02_Is.calls k1 _ _ t400 _ _ t412 true _ ?side1 ?side2 ?side3 ?side4 A51.out).mono ?_); (case side1 => repeat (first | exact (Kd.R_reads' HO403.out).2.2 | (with_reducible refine Kd.C_alloc ?_ _) | (with_reducible refine Kd.C_drewN ?_ _) | (with_reducible refine Kd.C_drew ?_))); (case side2 => exact (Kd.R_reads' HO403.out).2.1); (case side3 => repeat (first | exact (Kd.R_reads' HO414.out).2.2 | (with_reducible refine Kd.C_alloc ?_ _) | (with_reducible refine Kd.C_drewN ?_ _) | (with_reducible refine Kd.C_drew ?_))); (case side4 => exact (Kd.R_reads' HO414.out).2.1); rintro e w69 ⟨rfl, hb⟩; have n0_ := Aside0.mk (Kd.R_below (by (with_reducible repeat (first | apply Kd.R_alloc | apply Kd.R_drewN | apply Kd.R_drew)); exact HO_7.out) hb); have n1_ := Aside0.mk (Kd.R_below (by (with_reducible repeat (first | apply Kd.R_alloc | apply Kd.R_drewN | apply Kd.R_drew)); exact HO_8.out) hb); have n2_ := Aside0.mk (Kd.R_below (by (with_reducible repeat (first | apply Kd.R_alloc | apply Kd.R_drewN | apply Kd.R_drew)); exact HO399.out) hb); have n3_ := Aside0.mk (Kd.R_below (by (with_reducible repeat (first | apply Kd.R_alloc | apply Kd.R_drewN | apply Kd.R_drew)); exact HO403.out) hb); have n4_ := Aside0.mk (Kd.R_below (by (with_reducible repeat (first | apply Kd.R_alloc | apply Kd.R_drewN | apply Kd.R_drew)); exact HO407.out) hb); have n5_ := Aside0.mk (Kd.R_below (by (with_reducible repeat (first | apply Kd.R_alloc | apply Kd.R_drewN | apply Kd.R_drew)); exact HO410.out) hb); have n6_ := Aside0.mk (Kd.R_below (by (with_reducible repeat (first | apply Kd.R_alloc | apply Kd.R_drewN | apply Kd.R_drew)); exact HO414.out) hb); have n7_ := Aside0.mk (below_step (by repeat (first | (with_reducible first | exact HB.out | apply below_alloc | apply pw_below_drewN | apply below_drew1) | exact HB.out)) hb); clear HO_7; clear HO_8; clear HO399; clear HO403; clear HO407; clear HO410; clear HO414; clear HB; have HO_7 := n0_; have HO_8 := n1_; have HO399 := n2_; have HO403 := n3_; have HO407 := n4_; have HO410 := n5_; have HO414 := n6_; have HB := n7_; clear n0_ n1_ n2_ n3_ n4_ n5_ n6_ n7_; (try clear hb); (try clear hb2); (try clear hk); (try clear hi)) | (go_at_call 17; (with_reducible refine (reckonerref02_Joined.calls k1 _ _ t372 _ _ t375 2 t416 _ ?side1 ?side2 ?side3 ?side4 A53.out).mono ?_); (case side1 => repeat (first | exact (Kd.R_reads' HO_7.out).2.2 | (with_reducible refine Kd.C_alloc ?_ _) | (with_reducible refine Kd.C_drewN ?_ _) | (with_reducible refine Kd.C_drew ?_))); (case side2 => exact (Kd.R_reads' HO_7.out).2.1); (case side3 => repeat (first | exact (Kd.R_reads' HO_8.out).2.2 | (with_reducible refine Kd.C_alloc ?_ _) | (with_reducible refine Kd.C_drewN ?_ _) | (with_reducible refine Kd.C_drew ?_))); (case side4 => exact (Kd.R_reads' HO_8.out).2.1); rintro e w70 ⟨v417, rfl, ho0, hb⟩; have n0_ := Aside0.mk (Kd.R_elder' (by (with_reducible repeat (first | apply Kd.R_alloc | apply Kd.R_drewN | apply Kd.R_drew)); exact HO_7.out) (Kd.R_base ho0) hb); have n1_ := Aside0.mk (Kd.R_elder' (by (with_reducible repeat (first | apply Kd.R_alloc | apply Kd.R_drewN | apply Kd.R_drew)); exact HO_8.out) (Kd.R_base ho0) hb); have n2_ := Aside0.mk (Kd.R_elder' (by (with_reducible repeat (first | apply Kd.R_alloc | apply Kd.R_drewN | apply Kd.R_drew)); exact HO399.out) (Kd.R_base ho0) hb); have n3_ := Aside0.mk (Kd.R_elder' (by (with_reducible repeat (first | apply Kd.R_alloc | apply Kd.R_drewN | apply Kd.R_drew)); exact HO403.out) (Kd.R_base ho0) hb); have n4_ := Aside0.mk (Kd.R_elder' (by (with_reducible repeat (first | apply Kd.R_alloc | apply Kd.R_drewN | apply Kd.R_drew)); exact HO407.out) (Kd.R_base ho0) hb); have n5_ := Aside0.mk (Kd.R_elder' (by (with_reducible repeat (first | apply Kd.R_alloc | apply Kd.R_drewN | apply Kd.R_drew)); exact HO410.out) (Kd.R_base ho0) hb); have n6_ := Aside0.mk (Kd.R_elder' (by (with_reducible repeat (first | apply Kd.R_alloc | apply Kd.R_drewN | apply Kd.R_drew)); exact HO414.out) (Kd.R_base ho0) hb); have n7_ := Aside0.mk (Kd.R_lower (Kd.R_new' (Kd.R_new' (Kd.R_new' (Kd.R_new' (Kd.R_new' (Kd.R_new' (Kd.R_new' ho0 (Kd.R_lt (by (with_reducible repeat (first | apply Kd.R_alloc | apply Kd.R_drewN | apply Kd.R_drew)); exact HO_7.out))) (Kd.R_lt (by (with_reducible repeat (first | apply Kd.R_alloc | apply Kd.R_drewN | apply Kd.R_drew)); exact HO_8.out))) (Kd.R_lt (by (with_reducible repeat (first | apply Kd.R_alloc | apply Kd.R_drewN | apply Kd.R_drew)); exact HO399.out))) (Kd.R_lt (by (with_reducible repeat (first | apply Kd.R_alloc | apply Kd.R_drewN | apply Kd.R_drew)); exact HO403.out))) (Kd.R_lt (by (with_reducible repeat (first | apply Kd.R_alloc | apply Kd.R_drewN | apply Kd.R_drew)); exact HO407.out))) (Kd.R_lt (by (with_reducible repeat (first | apply Kd.R_alloc | apply Kd.R_drewN | apply Kd.R_drew)); exact HO410.out))) (Kd.R_lt (by (with_reducible repeat (first | apply Kd.R_alloc | apply Kd.R_drewN | apply Kd.R_drew)); exact HO414.out))) (below_size (by repeat (first | (with_reducible first | exact HB.out | apply below_alloc | apply pw_below_drewN | apply below_drew1) | exact HB.out)))); have n8_ := Aside0.mk (below_step (by repeat (first | (with_reducible first | exact HB.out | apply below_alloc | apply pw_below_drewN | apply below_drew1) | exact HB.out)) hb); clear HO_7; clear HO_8; clear HO399; clear HO403; clear HO407; clear HO410; clear HO414; clear HB; have HO_7 := n0_; have HO_8 := n1_; have HO399 := n2_; have HO403 := n3_; have HO407 := n4_; have HO410 := n5_; have HO414 := n6_; have HO418 := n7_; have HB := n8_; clear n0_ n1_ n2_ n3_ n4_ n5_ n6_ n7_ n8_; (try clear hb); (try clear hb2); (try clear hk); (try clear hi); (try clear ho0); obtain ⟨Ao71, co71, eo71⟩ := Kd.R_slice HO407.out; subst eo71; obtain ⟨Ao72, co72, eo72⟩ := Kd.R_slice HO418.out; subst eo72) | (go_at_call 12; (with_reducible refine (reckonerref02_Is.calls k1 _ _ t404 _ _ t416 true _ ?side1 ?side2 ?side3 ?side4 A54.out).mono ?_); (case side1 => repeat (first | exact (Kd.R_reads' HO407.out).2.2 | (with_reducible refine Kd.C_alloc ?_ _) | (with_reducible refine Kd.C_drewN ?_ _) | (with_reducible refine Kd.C_drew ?_))); (case side2 => exact (Kd.R_reads' HO407.out).2.1); (case side3 => repeat (first | exact (Kd.R_reads' HO418.out).2.2 | (with_reducible refine Kd.C_alloc ?_ _) | (with_reducible refine Kd.C_drewN ?_ _) | (with_reducible refine Kd.C_drew ?_))); (case side4 => exact (Kd.R_reads' HO418.out).2.1); rintro e w73 ⟨rfl, hb⟩; have n0_ := Aside0.mk (Kd.R_below (by (with_reducible repeat (first | apply Kd.R_alloc | apply Kd.R_drewN | apply Kd.R_drew)); exact HO_7.out) hb); have n1_ := Aside0.mk (Kd.R_below (by (with_reducible repeat (first | apply Kd.R_alloc | apply Kd.R_drewN | apply Kd.R_drew)); exact HO_8.out) hb); have n2_ := Aside0.mk (Kd.R_below (by (with_reducible repeat (first | apply Kd.R_alloc | apply Kd.R_drewN | apply Kd.R_drew)); exact HO399.out) hb); have n3_ := Aside0.mk (Kd.R_below (by (with_reducible repeat (first | apply Kd.R_alloc | apply Kd.R_drewN | apply Kd.R_drew)); exact HO403.out) hb); have n4_ := Aside0.mk (Kd.R_below (by (with_reducible repeat (first | apply Kd.R_alloc | apply Kd.R_drewN | apply Kd.R_drew)); exact HO407.out) hb); have n5_ := Aside0.mk (Kd.R_below (by (with_reducible repeat (first | apply Kd.R_alloc | apply Kd.R_drewN | apply Kd.R_drew)); exact HO410.out) hb); have n6_ := Aside0.mk (Kd.R_below (by (with_reducible repeat (first | apply Kd.R_alloc | apply Kd.R_drewN | apply Kd.R_drew)); exact HO414.out) hb); have n7_ := Aside0.mk (Kd.R_below (by (with_reducible repeat (first | apply Kd.R_alloc | apply Kd.R_drewN | apply Kd.R_drew)); exact HO418.out) hb); have n8_ := Aside0.mk (below_step (by repeat (first | (with_reducible first | exact HB.out | apply below_alloc | apply pw_below_drewN | apply below_drew1) | exact HB.out)) hb); clear HO_7; clear HO_8; clear HO399; clear HO403; clear HO407; clear HO410; clear HO414; clear HO418; clear HB; have HO_7 := n0_; have HO_8 := n1_; have HO399 := n2_; have HO403 := n3_; have HO407 := n4_; have HO410 := n5_; have HO414 := n6_; have HO418 := n7_; have HB := n8_; clear n0_ n1_ n2_ n3_ n4_ n5_ n6_ n7_ n8_; (try clear hb); (try clear hb2); (try clear hk); (try clear hi)) | (go_at_call 18; (with_reducible refine (reckonerlaw02_awake.calls k1  t420 _ A56.out).mono ?_); rintro e w74 ⟨rfl, hb⟩; have n0_ := Aside0.mk (Kd.R_below (by (with_reducible repeat (first | apply Kd.R_alloc | apply Kd.R_drewN | apply Kd.R_drew)); exact HO_7.out) hb); have n1_ := Aside0.mk (Kd.R_below (by (with_reducible repeat (first | apply Kd.R_alloc | apply Kd.R_drewN | apply Kd.R_drew)); exact HO_8.out) hb); have n2_ := Aside0.mk (Kd.R_below (by (with_reducible repeat (first | apply Kd.R_alloc | apply Kd.R_drewN | apply Kd.R_drew)); exact HO399.out) hb); have n3_ := Aside0.mk (Kd.R_below (by (with_reducible repeat (first | apply Kd.R_alloc | apply Kd.R_drewN | apply Kd.R_drew)); exact HO403.out) hb); have n4_ := Aside0.mk (Kd.R_below (by (with_reducible repeat (first | apply Kd.R_alloc | apply Kd.R_drewN | apply Kd.R_drew)); exact HO407.out) hb); have n5_ := Aside0.mk (Kd.R_below (by (with_reducible repeat (first | apply Kd.R_alloc | apply Kd.R_drewN | apply Kd.R_drew)); exact HO410.out) hb); have n6_ := Aside0.mk (Kd.R_below (by (with_reducible repeat (first | apply Kd.R_alloc | apply Kd.R_drewN | apply Kd.R_drew)); exact HO414.out) hb); have n7_ := Aside0.mk (Kd.R_below (by (with_reducible repeat (first | apply Kd.R_alloc | apply Kd.R_drewN | apply Kd.R_drew)); exact HO418.out) hb); have n8_ := Aside0.mk (below_step (by repeat (first | (with_reducible first | exact HB.out | apply below_alloc | apply pw_below_drewN | apply below_drew1) | exact HB.out)) hb); clear HO_7; clear HO_8; clear HO399; clear HO403; clear HO407; clear HO410; clear HO414; clear HO418; clear HB; have HO_7 := n0_; have HO_8 := n1_; have HO399 := n2_; have HO403 := n3_; have HO407 := n4_; have HO410 := n5_; have HO414 := n6_; have HO418 := n7_; have HB := n8_; clear n0_ n1_ n2_ n3_ n4_ n5_ n6_ n7_ n8_; (try clear hb); (try clear hb2); (try clear hk); (try clear hi)))
          go_ret
          exact ⟨by first | rfl | (simp [errW_none, errW_some] <;> rfl) | (simp [*, errW_none, errW_some] <;> rfl), by repeat (first | (with_reducible first | exact HB.out | apply below_alloc | apply pw_below_drewN | apply below_drew1) | exact HB.out)⟩
         ·replace c55 := Bool.eq_false_iff.mpr c55
          subst c55
          have H1 : (none) = some r := by rw [if_neg (show ¬ (false = true) by decide)] at H; exact H
          clear H
          have H := H1
          clear H1
          exact absurd H (by simp)
        ·replace c52 := Bool.eq_false_iff.mpr c52
         subst c52
         have H1 : (none) = some r := by rw [if_neg (show ¬ (false = true) by decide)] at H; exact H
         clear H
         have H := H1
         clear H1
         exact absurd H (by simp)
       ·replace c49 := Bool.eq_false_iff.mpr c49
        subst c49
        have H1 : (none) = some r := by rw [if_neg (show ¬ (false = true) by decide)] at H; exact H
        clear H
        have H := H1
        clear H1
        exact absurd H (by simp)
      ·rw [if_neg c46] at H
       exact absurd H (by simp)
     ·rw [if_neg c45] at H
      exact absurd H (by simp)
    ·rw [if_neg c44] at H
     exact absurd H (by simp)
/-- THE ONE PURE STATEMENT of reckonerlaw02_NatBits: yours. -/
def reckonerlaw02_NatBits.Pure : Prop := ∀ (l0 : List Int) (l1 : List Int) (a2 : Int), l0.length ≤ maxLen → l0.length * 8 ≤ 140737488351232 → (∀ x ∈ l0, (Lit.int .u64 x).wf = true) → l1.length ≤ maxLen → l1.length * 8 ≤ 140737488351232 → (∀ x ∈ l1, (Lit.int .u64 x).wf = true) → (Lit.int .i64 a2).wf = true → ∃ k, reckonerlaw02_NatBits.f k l0 l1 a2 = some true
theorem reckonerlaw02_NatBits.walk (P : reckonerlaw02_NatBits.Pure) (a0 : Option Addr) (len0 cap0 : Nat) (z0 : List Int) (a1 : Option Addr) (len1 cap1 : Nat) (z1 : List Int) (a2 : Int) (w : World) (w0 : (a0 = none ∧ len0 = 0 ∧ cap0 = 0 ∧ z0 = []) ∨ ∃ x, a0 = some x ∧ len0 ≤ cap0 ∧ cap0 ≤ maxLen ∧ z0.length = cap0 ∧ (∀ i, i < z0.length → w.cell? (x.add i) = some (.int .u64 (z0.getD i 0))) ∧ ∀ n ∈ z0, (Lit.int .u64 n).wf = true) (y0 : len0 * 8 ≤ 140737488351232) (w1 : (a1 = none ∧ len1 = 0 ∧ cap1 = 0 ∧ z1 = []) ∨ ∃ x, a1 = some x ∧ len1 ≤ cap1 ∧ cap1 ≤ maxLen ∧ z1.length = cap1 ∧ (∀ i, i < z1.length → w.cell? (x.add i) = some (.int .u64 (z1.getD i 0))) ∧ ∀ n ∈ z1, (Lit.int .u64 n).wf = true) (y1 : len1 * 8 ≤ 140737488351232) (w2 : (Lit.int .i64 a2).wf = true) (hj : LaidJ w) :
    Calls Tryd.prog 3 #[.slice a0 len0 cap0, .slice a1 len1 cap1, .int .i64 a2] w fun e w' => e = .returned (.bool true) ∧ Below w.heap.size w w' := by
  obtain ⟨l0, rfl, hr0, hm0, hw0, hc0⟩ := ReadsInt.ofRowC w0
  obtain ⟨l1, rfl, hr1, hm1, hw1, hc1⟩ := ReadsInt.ofRowC w1
  obtain ⟨k, h⟩ := P l0 l1 a2 hm0 y0 hw0 hm1 y1 hw1 w2
  refine (reckonerlaw02_NatBits.calls k _ _ l0 _ _ l1 a2 true w (Kd.C_of_reads (d := (0 : Int)) (h1 := fun _ => rfl) hr0) hc0 (Kd.C_of_reads (d := (0 : Int)) (h1 := fun _ => rfl) hr1) hc1 hj h).mono ?_
  rintro e w' ⟨rfl, hd⟩
  exact ⟨rfl, hd⟩
-- OURS: function 19 (nat_Word)

-- OURS: function 54 (bits_TrailingZeros64)

/-! ### bits_OnesCount64: function 55 -/
/-! ### nat_Bits: function 21 -/
/-! ### reckonerref01_Count: function 60 -/
end Go.Proofs.YtkkkbalefnileaaDoor.T
/- What the reference's functions on digits hand back (printed in Tx1, Tx2). -/
namespace Go.Proofs.YtkkkbalefnileaaDoor.Ex
open Go.RowKit Go.Proofs.YtkkkbalefnileaaDoorW.PrintWords Go.Proofs.YtkkkbalefnileaaDoorW.PrintLast Go.Proofs.YtkkkbalefnileaaDoorW.PrintMore Go.Proofs.YtkkkbalefnileaaDoor.T
set_option linter.unusedVariables false
set_option linter.unusedSimpArgs false

/-- The base of the reference's digits. -/
def H32 : Int := 4294967296
theorem H32_eq : H32 = 4294967296 := rfl
theorem H32_pos : 0 < H32 := by decide
theorem H32_sq : H32 * H32 = W64 := by decide
theorem rd_nat (l : List Int) (i : Nat) : rd l (i : Int) = l.getD i 0 := by simp [rd]
theorem w64_nat (n : Nat) (h : n < 4611686018427387904) : wrap64 (n : Int) = (n : Int) := by unfold wrap64; omega
theorem w64_int (n : Int) (h0 : -4611686018427387904 ≤ n) (h : n < 4611686018427387904) : wrap64 n = n := by unfold wrap64; omega
theorem wrapW (q : Int) (h0 : 0 ≤ q) (h1 : q < 18446744073709551616) : IntKind.u64.wrap q = q := Int.emod_eq_of_lt h0 h1
theorem tmodH (q : Int) (h : 0 ≤ q) : Int.tmod q 4294967296 = q % H32 := Int.tmod_eq_emod_of_nonneg h
theorem tdivH (q : Int) (h : 0 ≤ q) : Int.tdiv q 4294967296 = q / H32 := Int.tdiv_eq_ediv_of_nonneg h
theorem Ev.now' {α : Type} {g : Nat → Option α} {r : α} (h : ∀ k, g (k + 1) = some r) : Ev g r := Ev.step h (Ev.now r)
/-! ### digits -/
def digitsL : List Int → List Int
  | [] => []
  | x :: l => x % H32 :: x / H32 :: digitsL l
theorem digitsL_length : ∀ l, (digitsL l).length = 2 * l.length
  | [] => rfl
  | x :: l => by simp [digitsL, digitsL_length l]; omega
theorem digitsL_in : ∀ {l}, inW l → inB H32 (digitsL l)
  | [], _ => inB_nil
  | x :: l, h => by
    have h1 := inW_cons.1 h
    have h2 := h1.1.1
    have h3 := h1.1.2
    rw [W64_eq] at h3
    exact inB_cons.2 ⟨by rw [H32_eq]; omega, inB_cons.2 ⟨by rw [H32_eq]; omega, digitsL_in h1.2⟩⟩
theorem digitsL_val : ∀ l, valB H32 (digitsL l) = valB W64 l
  | [] => rfl
  | x :: l => by
    show x % H32 + H32 * (x / H32 + H32 * valB H32 (digitsL l)) = x + W64 * valB W64 l
    rw [digitsL_val l, Int.mul_add, ← Int.mul_assoc, H32_sq, ← Int.add_assoc]
    have := Int.emod_add_mul_ediv x H32
    omega
theorem Digits_loop (l : List Int) (hl : inW l) (hn : l.length ≤ 1000000) : ∀ n i acc, i + n = l.length → acc.length = 2 * i → Ev (fun k => reckonerref01_Digits.l0 k l acc (i : Int)) (acc ++ digitsL (l.drop i))
  | 0, i, acc, h, _ => by
    rw [List.drop_of_length_le (by omega)]
    refine Ev.now' fun k => ?_
    rw [reckonerref01_Digits.l0, if_neg (by omega)]
    simp [digitsL]
  | n + 1, i, acc, h, ha => by
    have hi : i < l.length := by omega
    have ih := Digits_loop l hl hn n (i + 1) (acc ++ [l[i] % H32, l[i] / H32]) (by omega) (by simp [ha]; omega)
    have hx : isW l[i] := hl _ (List.getElem_mem _)
    have h1 := hx.1
    have h2 := hx.2
    rw [W64_eq] at h2
    rw [List.drop_eq_getElem_cons hi]
    have e : acc ++ digitsL (l[i] :: l.drop (i + 1)) = (acc ++ [l[i] % H32, l[i] / H32]) ++ digitsL (l.drop (i + 1)) := by simp [digitsL]
    rw [e]
    refine Ev.step (fun k => ?_) ih
    have hg : l.getD i 0 = l[i] := by simp [List.getD_eq_getElem?_getD, List.getElem?_eq_getElem hi]
    have e1 : wrap64 ((i : Int) + 1) = ((i + 1 : Nat) : Int) := by rw [← w64_nat (i + 1) (by omega)]; rfl
    rw [reckonerref01_Digits.l0, if_pos (by omega), if_pos (by omega), Option.bind_some, if_pos (by simp; omega), rd_nat, hg, e1, tmodH _ h1, tdivH _ h1, wrapW _ (by rw [H32_eq]; omega) (by rw [H32_eq]; omega)]
theorem Digits_ev (l : List Int) (hl : inW l) (hn : l.length ≤ 1000000) : Ev (fun k => reckonerref01_Digits.f k l) (digitsL l) := by
  have h := Digits_loop l hl hn l.length 0 [] (by omega) rfl
  rw [List.drop_zero, List.nil_append] at h
  exact h
/-! ### a row of digits -/
def rowL : List Int → List Int
  | a :: b :: l => (a + b * H32) :: rowL l
  | _ => []
theorem rowL_in : ∀ {d}, inB H32 d → inW (rowL d)
  | [], _ => inW_nil
  | [_], _ => inW_nil
  | a :: b :: l, h => by
    have h1 := inB_cons.1 h
    have h2 := inB_cons.1 h1.2
    have h3 := h1.1
    have h4 := h2.1
    rw [H32_eq] at h3 h4
    exact inW_cons.2 ⟨by unfold isW; rw [H32_eq, W64_eq]; omega, rowL_in h2.2⟩
theorem rowL_length : ∀ d, (rowL d).length = d.length / 2
  | [] => rfl
  | [_] => by simp [rowL]
  | a :: b :: l => by
    have h := rowL_length l
    show (rowL l).length + 1 = (l.length + 1 + 1) / 2
    omega
theorem rowL_val : ∀ d, d.length % 2 = 0 → valB W64 (rowL d) = valB H32 d
  | [], _ => rfl
  | [_], h => by simp at h
  | a :: b :: l, h => by
    show a + b * H32 + W64 * valB W64 (rowL l) = a + H32 * (b + H32 * valB H32 l)
    rw [rowL_val l (by simp at h; omega), Int.mul_add, ← Int.mul_assoc, H32_sq, Int.mul_comm b]
    omega
theorem Row_loop (d : List Int) (hd : inB H32 d) (hn : d.length ≤ 4000000) : ∀ n i acc, 2 * (i + n) = d.length ∨ 2 * (i + n) + 1 = d.length → acc.length = i → Ev (fun k => reckonerref01_Row.l0 k d acc ((2 * i : Nat) : Int)) (acc ++ rowL (d.drop (2 * i)))
  | 0, i, acc, h, _ => by
    have e : rowL (d.drop (2 * i)) = [] := by
      have h1 : (d.drop (2 * i)).length ≤ 1 := by rw [List.length_drop]; omega
      match hm : d.drop (2 * i), h1 with
      | [], _ => rfl
      | [_], _ => rfl
      | _ :: _ :: _, h1 => simp at h1
    rw [e, List.append_nil]
    refine Ev.now' fun k => ?_
    have e1 : wrap64 (((2 * i : Nat) : Int) + 1) = ((2 * i + 1 : Nat) : Int) := by rw [← w64_nat (2 * i + 1) (by omega)]; rfl
    rw [reckonerref01_Row.l0, e1, if_neg (by omega)]
  | n + 1, i, acc, h, ha => by
    have hi : 2 * i < d.length := by omega
    have hi1 : 2 * i + 1 < d.length := by omega
    have ih := Row_loop d hd hn n (i + 1) (acc ++ [d[2 * i] + d[2 * i + 1] * H32]) (by omega) (by simp [ha])
    have h1 := hd _ (List.getElem_mem hi)
    have h2 := hd _ (List.getElem_mem hi1)
    rw [H32_eq] at h1 h2
    rw [List.drop_eq_getElem_cons hi, List.drop_eq_getElem_cons hi1]
    have e : acc ++ rowL (d[2 * i] :: d[2 * i + 1] :: d.drop (2 * i + 1 + 1)) = (acc ++ [d[2 * i] + d[2 * i + 1] * H32]) ++ rowL (d.drop (2 * (i + 1))) := by simp [rowL, Nat.mul_add]
    rw [e]
    refine Ev.step (fun k => ?_) ih
    have hg : d.getD (2 * i) 0 = d[2 * i] := by simp [List.getD_eq_getElem?_getD, List.getElem?_eq_getElem hi]
    have hg1 : d.getD (2 * i + 1) 0 = d[2 * i + 1] := by simp [List.getD_eq_getElem?_getD, List.getElem?_eq_getElem hi1]
    have e1 : wrap64 (((2 * i : Nat) : Int) + 1) = ((2 * i + 1 : Nat) : Int) := by rw [← w64_nat (2 * i + 1) (by omega)]; rfl
    have e2 : wrap64 (((2 * i : Nat) : Int) + 2) = ((2 * (i + 1) : Nat) : Int) := by rw [← w64_nat (2 * (i + 1)) (by omega)]; rfl
    rw [reckonerref01_Row.l0, e1, if_pos (by omega), if_pos (by omega), if_pos (by omega), if_pos (by omega), if_pos (by omega), rd_nat, rd_nat, hg, hg1, e2, wrapW (d[2 * i + 1] * 4294967296) (by omega) (by omega), wrapW _ (by omega) (by omega)]
    rfl
theorem Row_ev (d : List Int) (hd : inB H32 d) (hn : d.length ≤ 4000000) : Ev (fun k => reckonerref01_Row.f k d) (rowL d) := by
  have h := Row_loop d hd hn (d.length / 2) 0 [] (by omega) rfl
  rw [List.drop_zero, List.nil_append] at h
  exact h
/-! ### a digit, 0 beyond the end -/
theorem digit_some (a : List Int) (i : Nat) : reckonerref01_digit.f a (i : Int) = some (a.getD i 0) := by
  unfold reckonerref01_digit.f
  by_cases h : i < a.length
  · rw [if_pos (by omega), if_pos (by omega), rd_nat]
  · rw [if_neg (by omega)]
    simp [List.getD_eq_getElem?_getD, List.getElem?_eq_none (by omega : a.length ≤ i)]
/-! ### sums -/
def plusS (a b : List Int) (i : Nat) (c : Int) : Int × Int := ((c + a.getD i 0 + b.getD i 0) % H32, (c + a.getD i 0 + b.getD i 0) / H32)
theorem plusS_ok {a b : List Int} (ha : inB H32 a) (hb : inB H32 b) (i : Nat) {c : Int} (hc : 0 ≤ c ∧ c ≤ 1) :
    (0 ≤ (plusS a b i c).2 ∧ (plusS a b i c).2 ≤ 1) ∧ (0 ≤ (plusS a b i c).1 ∧ (plusS a b i c).1 < H32) ∧ (plusS a b i c).1 + H32 * (1 * (plusS a b i c).2) = (a.getD i 0 + b.getD i 0) + 1 * c := by
  have h1 := inB_getD H32_pos ha i
  have h2 := inB_getD H32_pos hb i
  unfold plusS
  simp only [H32_eq] at *
  omega
theorem Plus_loop (a b : List Int) (ha : inB H32 a) (hb : inB H32 b) (hn : a.length ≤ 4000000) (hm : b.length ≤ 4000000) : ∀ n i c (acc : List Int), i + n = max a.length b.length → acc.length = i → 0 ≤ c ∧ c ≤ 1 →
    Ev (fun k => reckonerref01_Plus.l0 k a b acc c (i : Int)) (acc ++ (carryL (plusS a b) n i c).1 ++ [(carryL (plusS a b) n i c).2])
  | 0, i, c, acc, h, hacc, hc => by
    refine Ev.step (f := fun k => reckonerref01_Plus.j1 k a b acc c (i : Int) false) (fun k => ?_) (Ev.now' fun k => ?_)
    · rw [reckonerref01_Plus.l0, if_neg (by omega)]
      have e : decide ((i : Int) < (b.length : Int)) = false := decide_eq_false (by omega)
      rw [e]
    · rw [reckonerref01_Plus.j1, if_neg (by decide), if_pos (by omega)]
      simp [carryL]
  | n + 1, i, c, acc, h, hacc, hc => by
    have q1 : acc.length < 17592186044416 := by omega
    have q2 : ¬ (i : Int) < (a.length : Int) → (i : Int) < (b.length : Int) := by omega
    have h1 := inB_getD H32_pos ha i
    have h2 := inB_getD H32_pos hb i
    rw [H32_eq] at h1 h2
    have q3 : IntKind.u64.wrap (c + a.getD i 0) = c + a.getD i 0 := wrapW _ (by omega) (by omega)
    have q4 : 0 ≤ c + a.getD i 0 + b.getD i 0 ∧ c + a.getD i 0 + b.getD i 0 < 18446744073709551616 := by omega
    have q5 : 0 ≤ (c + a.getD i 0 + b.getD i 0) / H32 ∧ (c + a.getD i 0 + b.getD i 0) / H32 < 18446744073709551616 := by rw [H32_eq]; omega
    have e1 : wrap64 ((i : Int) + 1) = ((i + 1 : Nat) : Int) := by rw [← w64_nat (i + 1) (by omega)]; rfl
    obtain ⟨k1, k2, _⟩ := plusS_ok ha hb i hc
    have ih := Plus_loop a b ha hb hn hm n (i + 1) (plusS a b i c).2 (acc ++ [(plusS a b i c).1]) (by omega) (by simp [hacc]) k1
    have e : acc ++ (carryL (plusS a b) (n + 1) i c).1 ++ [(carryL (plusS a b) (n + 1) i c).2] = (acc ++ [(plusS a b i c).1]) ++ (carryL (plusS a b) n (i + 1) (plusS a b i c).2).1 ++ [(carryL (plusS a b) n (i + 1) (plusS a b i c).2).2] := by simp [carryL]
    rw [e]
    refine Ev.step (f := fun k => reckonerref01_Plus.j1 k a b acc c (i : Int) true) (fun k => ?_) (Ev.step (fun k => ?_) ih)
    · show reckonerref01_Plus.l0 (k + 1) a b acc c (i : Int) = reckonerref01_Plus.j1 k a b acc c (i : Int) true
      rw [reckonerref01_Plus.l0]
      by_cases hl : (i : Int) < (a.length : Int)
      · exact if_pos hl
      · have e : decide ((i : Int) < (b.length : Int)) = true := decide_eq_true (q2 hl)
        exact (if_neg hl).trans (by rw [e])
    · rw [reckonerref01_Plus.j1, if_pos rfl, digit_some, digit_some, Option.bind_some, Option.bind_some, if_pos q1, e1, q3, wrapW _ q4.1 q4.2, tmodH _ q4.1, tdivH _ q4.1, wrapW _ q5.1 q5.2]
      rfl
/-- A sum of digits. -/
theorem Plus_ev (a b : List Int) (ha : inB H32 a) (hb : inB H32 b) (hn : a.length ≤ 4000000) (hm : b.length ≤ 4000000) :
    ∃ r, Ev (fun k => reckonerref01_Plus.f k a b) r ∧ inB H32 r ∧ r.length = max a.length b.length + 1 ∧ valB H32 r = valB H32 a + valB H32 b := by
  have h := Plus_loop a b ha hb hn hm (max a.length b.length) 0 0 [] (by omega) rfl ⟨Int.le_refl 0, by decide⟩
  obtain ⟨k1, k2, k3⟩ := carryL_val H32 (plusS a b) (fun i => a.getD i 0 + b.getD i 0) 1 (fun c => 0 ≤ c ∧ c ≤ 1) (max a.length b.length) 0 0 ⟨Int.le_refl 0, by decide⟩ (fun j _ _ c hc => plusS_ok ha hb j hc)
  have kl := carryL_length (plusS a b) (max a.length b.length) 0 0
  rw [List.nil_append] at h
  refine ⟨_, h, inB_append.2 ⟨k2, inB_cons.2 ⟨⟨k1.1, by have := k1.2; rw [H32_eq]; omega⟩, inB_nil⟩⟩, by simp [kl], ?_⟩
  rw [valB_append, kl]
  rw [sumB_add, sumB_pad H32 a _ (Nat.le_max_left _ _), sumB_pad H32 b _ (Nat.le_max_right _ _)] at k3
  simp only [valB, Int.mul_zero, Int.add_zero, Int.one_mul] at k3 ⊢
  exact k3
/-! ### differences -/
def minusS (a b : List Int) (i : Nat) (c : Int) : Int × Int := ((a.getD i 0 + H32 - b.getD i 0 - c) % H32, 1 - (a.getD i 0 + H32 - b.getD i 0 - c) / H32)
theorem minusS_ok {a b : List Int} (ha : inB H32 a) (hb : inB H32 b) (i : Nat) {c : Int} (hc : 0 ≤ c ∧ c ≤ 1) :
    (0 ≤ (minusS a b i c).2 ∧ (minusS a b i c).2 ≤ 1) ∧ (0 ≤ (minusS a b i c).1 ∧ (minusS a b i c).1 < H32) ∧ (minusS a b i c).1 + H32 * (-1 * (minusS a b i c).2) = (a.getD i 0 + b.getD i 0 * (-1)) + -1 * c := by
  have h1 := inB_getD H32_pos ha i
  have h2 := inB_getD H32_pos hb i
  unfold minusS
  simp only [H32_eq] at *
  omega
theorem Minus_loop (a b : List Int) (ha : inB H32 a) (hb : inB H32 b) (hn : a.length ≤ 4000000) : ∀ n i c (acc : List Int), i + n = a.length → acc.length = i → 0 ≤ c ∧ c ≤ 1 →
    Ev (fun k => reckonerref01_Minus.l0 k a b acc c (i : Int)) (acc ++ (carryL (minusS a b) n i c).1, ((carryL (minusS a b) n i c).2 == 1))
  | 0, i, c, acc, h, hacc, hc => by
    refine Ev.now' fun k => ?_
    rw [reckonerref01_Minus.l0, if_neg (by omega)]
    simp [carryL]
  | n + 1, i, c, acc, h, hacc, hc => by
    have q1 : acc.length < 17592186044416 := by omega
    have q2 : (i : Int) < (a.length : Int) := by omega
    have q2' : (0 : Int) ≤ (i : Int) := by omega
    have h1 := inB_getD H32_pos ha i
    have h2 := inB_getD H32_pos hb i
    rw [H32_eq] at h1 h2
    have q3 : IntKind.u64.wrap (a.getD i 0 + 4294967296) = a.getD i 0 + 4294967296 := wrapW _ (by omega) (by omega)
    have q4 : IntKind.u64.wrap (a.getD i 0 + 4294967296 - b.getD i 0) = a.getD i 0 + 4294967296 - b.getD i 0 := wrapW _ (by omega) (by omega)
    have q5 : 0 ≤ a.getD i 0 + 4294967296 - b.getD i 0 - c ∧ a.getD i 0 + 4294967296 - b.getD i 0 - c < 18446744073709551616 := by omega
    have q6 : 0 ≤ (a.getD i 0 + 4294967296 - b.getD i 0 - c) / H32 ∧ (a.getD i 0 + 4294967296 - b.getD i 0 - c) / H32 ≤ 1 := by rw [H32_eq]; omega
    have q7 : (a.getD i 0 + 4294967296 - b.getD i 0 - c) / H32 < 18446744073709551616 := by omega
    have q8 : 0 ≤ 1 - (a.getD i 0 + 4294967296 - b.getD i 0 - c) / H32 ∧ 1 - (a.getD i 0 + 4294967296 - b.getD i 0 - c) / H32 < 18446744073709551616 := by omega
    have e1 : wrap64 ((i : Int) + 1) = ((i + 1 : Nat) : Int) := by rw [← w64_nat (i + 1) (by omega)]; rfl
    obtain ⟨k1, k2, _⟩ := minusS_ok ha hb i hc
    have ih := Minus_loop a b ha hb hn n (i + 1) (minusS a b i c).2 (acc ++ [(minusS a b i c).1]) (by omega) (by simp [hacc]) k1
    have e : acc ++ (carryL (minusS a b) (n + 1) i c).1 = (acc ++ [(minusS a b i c).1]) ++ (carryL (minusS a b) n (i + 1) (minusS a b i c).2).1 := by simp [carryL]
    have e0 : (carryL (minusS a b) (n + 1) i c).2 = (carryL (minusS a b) n (i + 1) (minusS a b i c).2).2 := by simp [carryL]
    rw [e, e0]
    refine Ev.step (fun k => ?_) ih
    rw [reckonerref01_Minus.l0, if_pos q2, if_pos q2', digit_some, Option.bind_some, if_pos q1, e1, rd_nat, q3, q4, wrapW _ q5.1 q5.2, tmodH _ q5.1, tdivH _ q5.1, wrapW _ q6.1 q7, wrapW _ q8.1 q8.2]
    rfl
/-- .. where b may be longer, with no digit but 0 there. -/
theorem Minus_ev' (a b : List Int) (ha : inB H32 a) (hb : inB H32 b) (hn : a.length ≤ 4000000) (hz : valB H32 b < H32 ^ a.length) :
    ∃ r c, Ev (fun k => reckonerref01_Minus.f k a b) (r, (c == 1)) ∧ (0 ≤ c ∧ c ≤ 1) ∧ inB H32 r ∧ r.length = a.length ∧ valB H32 r - H32 ^ a.length * c = valB H32 a - valB H32 b := by
  have h := Minus_loop a b ha hb hn a.length 0 0 [] (by omega) rfl ⟨Int.le_refl 0, by decide⟩
  obtain ⟨k1, k2, k3⟩ := carryL_val H32 (minusS a b) (fun i => a.getD i 0 + b.getD i 0 * (-1)) (-1) (fun c => 0 ≤ c ∧ c ≤ 1) a.length 0 0 ⟨Int.le_refl 0, by decide⟩ (fun j _ _ c hc => minusS_ok ha hb j hc)
  rw [List.nil_append] at h
  refine ⟨_, _, h, k1, k2, carryL_length _ _ _ _, ?_⟩
  rw [sumB_add, sumB_smul, sumB_all, sumB_low H32_pos b hb _ hz] at k3
  rw [Int.neg_mul, Int.one_mul, Int.mul_neg] at k3
  omega
/-! ### two rows the same -/
theorem Same_loop (a b : List Int) (hl : a.length = b.length) (hn : a.length ≤ 1000000) : ∀ n i, i + n = a.length → a.take i = b.take i → Ev (fun k => reckonerref01_Same.l0 k a b (i : Int)) (decide (a = b))
  | 0, i, h, ht => by
    refine Ev.now' fun k => ?_
    rw [List.take_of_length_le (by omega), List.take_of_length_le (by omega)] at ht
    rw [reckonerref01_Same.l0, if_neg (by omega), decide_eq_true ht]
  | n + 1, i, h, ht => by
    have e1 : wrap64 ((i : Int) + 1) = ((i + 1 : Nat) : Int) := by rw [← w64_nat (i + 1) (by omega)]; rfl
    have hi : i < a.length := by omega
    have hi' : i < b.length := by omega
    have ga : a.getD i 0 = a[i] := by simp [List.getD_eq_getElem?_getD, List.getElem?_eq_getElem hi]
    have gb : b.getD i 0 = b[i] := by simp [List.getD_eq_getElem?_getD, List.getElem?_eq_getElem hi']
    by_cases hs : a[i] = b[i]
    · refine Ev.step (fun k => ?_) (Same_loop a b hl hn n (i + 1) (by omega) ?_)
      · rw [reckonerref01_Same.l0, if_pos (by omega), if_pos (by omega), if_pos (by omega), rd_nat, rd_nat, ga, gb, if_pos hs, e1]
      · rw [List.take_succ_eq_append_getElem hi, List.take_succ_eq_append_getElem hi', ht, hs]
    · refine Ev.now' fun k => ?_
      rw [reckonerref01_Same.l0, if_pos (by omega), if_pos (by omega), if_pos (by omega), rd_nat, rd_nat, ga, gb, if_neg hs]
      rw [decide_eq_false]
      rintro rfl
      exact hs rfl
theorem RSame_ev (a b : List Int) (hn : a.length ≤ 1000000) : Ev (fun k => reckonerref01_Same.f k a b) (decide (a = b)) := by
  by_cases hl : a.length = b.length
  · refine Ev.congr (fun k => ?_) (Same_loop a b hl hn a.length 0 (by omega) rfl)
    show reckonerref01_Same.f k a b = _
    unfold reckonerref01_Same.f
    rw [if_pos (by omega)]
    rfl
  · refine Ev.congr (f := fun _ => some (decide (a = b))) (fun k => ?_) (Ev.now _)
    show reckonerref01_Same.f k a b = _
    unfold reckonerref01_Same.f
    rw [if_neg (by omega), decide_eq_false (fun e => hl (by rw [e]))]
end Go.Proofs.YtkkkbalefnileaaDoor.Ex
/- The reference's Cut, Add, Sub (printed in Tx1, Tx2), and the row functions' results in values. -/
namespace Go.Proofs.YtkkkbalefnileaaDoor.Ex
open Go.RowKit Go.Proofs.YtkkkbalefnileaaDoorW.PrintWords Go.Proofs.YtkkkbalefnileaaDoorW.PrintLast Go.Proofs.YtkkkbalefnileaaDoorW.PrintMore Go.Proofs.YtkkkbalefnileaaDoor.T
set_option linter.unusedVariables false
set_option linter.unusedSimpArgs false

theorem H32_pow (n : Nat) : H32 ^ (2 * n) = W64 ^ n := by
  rw [Int.pow_mul, show H32 ^ 2 = W64 by decide]
/-- The value of a row's two highest digits. -/
theorem getD_two {d : List Int} (n : Nat) (h : n + 2 ≤ d.length) : d.drop n = d.getD n 0 :: d.getD (n + 1) 0 :: d.drop (n + 2) := by
  have h1 : n < d.length := by omega
  have h2 : n + 1 < d.length := by omega
  rw [List.drop_eq_getElem_cons h1, List.drop_eq_getElem_cons h2]
  simp [List.getD_eq_getElem?_getD, List.getElem?_eq_getElem h1, List.getElem?_eq_getElem h2]
/-- What Cut makes of digits that are enough. -/
theorem Cut_done (d : List Int) (hd : inB H32 d) (n : Nat) (hn : n ≤ 1000000) (hm : d.length ≤ 4000000) (hl : 2 * n + 2 ≤ d.length) :
    Ev (fun k => reckonerref01_Cut.l0 k (n : Int) d) (rowL (d.take (2 * n)), d.getD (2 * n) 0 + d.getD (2 * n + 1) 0 * H32) := by
  have e1 : wrap64 (2 * (n : Int)) = ((2 * n : Nat) : Int) := by rw [← w64_nat (2 * n) (by omega)]; rfl
  have e2 : wrap64 (((2 * n : Nat) : Int) + 2) = ((2 * n + 2 : Nat) : Int) := by rw [← w64_nat (2 * n + 2) (by omega)]; rfl
  have e3 : wrap64 (((2 * n : Nat) : Int) + 1) = ((2 * n + 1 : Nat) : Int) := by rw [← w64_nat (2 * n + 1) (by omega)]; rfl
  have h1 := inB_getD H32_pos hd (2 * n)
  have h2 := inB_getD H32_pos hd (2 * n + 1)
  rw [H32_eq] at h1 h2
  have q1 : ¬ (d.length : Int) < ((2 * n + 2 : Nat) : Int) := by omega
  have q2 : (0 : Int) ≤ ((2 * n : Nat) : Int) := by omega
  have q3 : ((2 * n : Nat) : Int) ≤ (d.length : Int) := by omega
  have q4 : ((2 * n : Nat) : Int) < (d.length : Int) := by omega
  have q5 : (0 : Int) ≤ ((2 * n + 1 : Nat) : Int) := by omega
  have q6 : ((2 * n + 1 : Nat) : Int) < (d.length : Int) := by omega
  have q7 : IntKind.u64.wrap (d.getD (2 * n + 1) 0 * 4294967296) = d.getD (2 * n + 1) 0 * 4294967296 := wrapW _ (by omega) (by omega)
  have q8 : IntKind.u64.wrap (d.getD (2 * n) 0 + d.getD (2 * n + 1) 0 * 4294967296) = d.getD (2 * n) 0 + d.getD (2 * n + 1) 0 * 4294967296 := wrapW _ (by omega) (by omega)
  have hR := Row_ev (d.take (2 * n)) (inB_take hd _) (by rw [List.length_take]; omega)
  refine Ev.step (f := fun k => (reckonerref01_Row.f k (d.take (2 * n))).bind fun t => some (t, d.getD (2 * n) 0 + d.getD (2 * n + 1) 0 * H32)) (fun k => ?_) (Ev.bind hR (Ev.now _))
  rw [reckonerref01_Cut.l0, e1, e2, e3, if_neg q1, if_pos q2, if_pos q3, Int.toNat_natCast]
  simp only [if_pos q4, if_pos q5, if_pos q6, rd_nat, q7, q8]
  rfl
/-- Cut: the row of n words, and the word above it; what digits there are beyond that is left out. -/
theorem Cut_loop (n : Nat) (hn : n ≤ 1000000) : ∀ m (d : List Int), inB H32 d → d.length ≤ 4000000 → 2 * n + 2 - d.length = m →
    ∃ r t, Ev (fun k => reckonerref01_Cut.l0 k (n : Int) d) (r, t) ∧ inW r ∧ r.length = n ∧ isW t ∧ valB W64 r + W64 ^ n * t = valB H32 d % (W64 ^ n * W64)
  | 0, d, hd, hm, hl => by
    have h1 := inB_getD H32_pos hd (2 * n)
    have h2 := inB_getD H32_pos hd (2 * n + 1)
    have hl2 : 2 * n + 2 ≤ d.length := by omega
    have hlt : (d.take (2 * n)).length = 2 * n := by rw [List.length_take]; omega
    refine ⟨_, _, Cut_done d hd n hn hm hl2, rowL_in (inB_take hd _), by rw [rowL_length, hlt]; omega, ?_, ?_⟩
    · rw [H32_eq] at h1 h2
      unfold isW
      rw [H32_eq, W64_eq]
      omega
    · rw [rowL_val _ (by rw [hlt]; omega)]
      have e1 : W64 ^ n * W64 = H32 ^ (2 * n + 2) := by rw [show 2 * n + 2 = 2 * (n + 1) by omega, H32_pow, Int.pow_succ]
      rw [e1, ← valB_take H32_pos hd (2 * n + 2) hl2, valB_split H32 (d.take (2 * n + 2)) (2 * n) (by rw [List.length_take]; omega), List.take_take, Nat.min_eq_left (by omega : 2 * n ≤ 2 * n + 2), H32_pow]
      congr 1
      have e2 : (d.take (2 * n + 2)).drop (2 * n) = [d.getD (2 * n) 0, d.getD (2 * n + 1) 0] := by
        rw [List.drop_take, getD_two (2 * n) hl2]
        simp
      rw [e2]
      congr 1
      simp [valB, Int.mul_comm]
  | m + 1, d, hd, hm, hl => by
    have e1 : wrap64 (2 * (n : Int)) = ((2 * n : Nat) : Int) := by rw [← w64_nat (2 * n) (by omega)]; rfl
    have e2 : wrap64 (((2 * n : Nat) : Int) + 2) = ((2 * n + 2 : Nat) : Int) := by rw [← w64_nat (2 * n + 2) (by omega)]; rfl
    have q1 : (d.length : Int) < ((2 * n + 2 : Nat) : Int) := by omega
    have q2 : d.length < 17592186044416 := by omega
    have ho : inB H32 (d ++ [0]) := inB_append.2 ⟨hd, inB_cons.2 ⟨⟨Int.le_refl 0, H32_pos⟩, inB_nil⟩⟩
    obtain ⟨r, t, h1, h2⟩ := Cut_loop n hn m (d ++ [0]) ho (by simp; omega) (by simp; omega)
    refine ⟨r, t, Ev.step (fun k => ?_) h1, ?_⟩
    · rw [reckonerref01_Cut.l0, e1, e2, if_pos q1, if_pos q2]
    · have e3 : valB H32 (d ++ [0]) = valB H32 d := by rw [valB_append]; simp [valB]
      rw [e3] at h2
      exact h2
theorem Cut_ev (n : Nat) (hn : n ≤ 1000000) (d : List Int) (hd : inB H32 d) (hm : d.length ≤ 4000000) :
    ∃ r t, Ev (fun k => reckonerref01_Cut.f k d (n : Int)) (r, t) ∧ inW r ∧ r.length = n ∧ isW t ∧ valB W64 r + W64 ^ n * t = valB H32 d % (W64 ^ n * W64) := by
  obtain ⟨r, t, h1, h2⟩ := Cut_loop n hn _ d hd hm rfl
  refine ⟨r, t, ?_, h2⟩
  have q : (([] : List Int).length + d.length < 17592186044416) := by simp; omega
  refine Ev.congr (fun k => ?_) h1
  show reckonerref01_Cut.f k d (n : Int) = _
  unfold reckonerref01_Cut.f
  rw [if_pos q, List.nil_append]
/-- Two rows of words of one length with a word above them are the same if their values are. -/
theorem row_eq {a b : List Int} {s t : Int} {n : Nat} (ha : inW a) (hb : inW b) (hla : a.length = n) (hlb : b.length = n) (h : valB W64 a + W64 ^ n * s = valB W64 b + W64 ^ n * t) : a = b ∧ s = t := by
  have h1 := valB_nonneg W64_pos (inB_of_inW ha)
  have h2 := valB_lt W64_pos (inB_of_inW ha)
  have h3 := valB_nonneg W64_pos (inB_of_inW hb)
  have h4 := valB_lt W64_pos (inB_of_inW hb)
  rw [hla] at h2
  rw [hlb] at h4
  obtain ⟨e1, e2⟩ := div_unique h1 h2 h3 h4 h
  exact ⟨valB_inj W64_pos (inB_of_inW ha) (inB_of_inW hb) (hla.trans hlb.symm) e1, e2⟩
end Go.Proofs.YtkkkbalefnileaaDoor.Ex
/- The reference's Word and Times (printed in Tx4, Tx5). -/
namespace Go.Proofs.YtkkkbalefnileaaDoor.Ex
open Go.RowKit Go.Proofs.YtkkkbalefnileaaDoorW.PrintWords Go.Proofs.YtkkkbalefnileaaDoorW.PrintLast Go.Proofs.YtkkkbalefnileaaDoorW.PrintMore Go.Proofs.YtkkkbalefnileaaDoor.T
set_option linter.unusedVariables false
set_option linter.unusedSimpArgs false

theorem w64_add (a b : Nat) (h : a + b < 4611686018427387904) : wrap64 ((a : Int) + (b : Int)) = ((a + b : Nat) : Int) := by rw [← Int.natCast_add]; exact w64_nat (a + b) h
theorem w64_sub1 (n : Nat) (h : n < 4611686018427387904) : wrap64 (((n + 1 : Nat) : Int) - 1) = (n : Int) := by rw [← w64_nat n h]; congr 1; omega
theorem lin5 (u v o c p : Int) (h : u + v = c + o + p) : (u - o) + v = c + p := by omega
theorem Word_some (w : Int) (hw : isW w) : reckonerref01_Word.f w = some [w % H32, w / H32] := by
  have h0 := hw.1
  have h1 := hw.2
  rw [W64_eq] at h1
  have q : 0 ≤ w / H32 ∧ w / H32 < 18446744073709551616 := by rw [H32_eq]; omega
  unfold reckonerref01_Word.f
  rw [tmodH _ h0, tdivH _ h0, wrapW _ q.1 q.2]
theorem word_in (w : Int) (hw : isW w) : inB H32 [w % H32, w / H32] := digitsL_in (inW_cons.2 ⟨hw, inW_nil⟩)
theorem word_val (w : Int) : valB H32 [w % H32, w / H32] = w := by
  have h := digitsL_val [w]
  simpa [digitsL, valB] using h
/-- What holds of a product's digits between two rounds. -/
structure Prod (a b out : List Int) (i : Nat) : Prop where
  len : out.length = a.length + b.length
  dig : inB H32 out
  zero : ∀ j, i + b.length ≤ j → out.getD j 0 = 0
theorem getD_set (l : List Int) (i j : Nat) (x : Int) : (l.set i x).getD j 0 = if i = j ∧ i < l.length then x else l.getD j 0 := by
  simp only [List.getD_eq_getElem?_getD, List.getElem?_set]
  by_cases h : i = j
  · subst h
    by_cases h1 : i < l.length
    · simp [h1]
    · simp [h1]
  · simp [h]
def Good (a b r : List Int) : Prop := inB H32 r ∧ r.length = a.length + b.length ∧ valB H32 r = valB H32 a * valB H32 b
theorem Times_inner (a b : List Int) (ha : inB H32 a) (hb : inB H32 b) (hn : a.length ≤ 1000000) (hm : b.length ≤ 1000000) (i : Nat) (hi : i < a.length)
    (hO : ∀ out, Prod a b out (i + 1) → valB H32 out = valB H32 (a.take (i + 1)) * valB H32 b → ∃ r, Ev (fun k => reckonerref01_Times.l0 k a b out ((i + 1 : Nat) : Int)) r ∧ Good a b r) :
    ∀ (n kk : Nat) (out : List Int) (c : Int), kk + n = b.length → Prod a b out i → (0 ≤ c ∧ c < H32) → valB H32 out + H32 ^ (i + kk) * c = valB H32 (a.take i) * valB H32 b + H32 ^ i * (a.getD i 0 * valB H32 (b.take kk)) →
      ∃ r, Ev (fun k => reckonerref01_Times.l1 k a b out (i : Int) c (kk : Int)) r ∧ Good a b r
  | 0, kk, out, c, hk, hP, hc, hv => by
    have HV := Aside0.mk hv
    clear hv
    obtain rfl : kk = b.length := by omega
    have hlen := hP.len
    have q1 : i + b.length < out.length := by omega
    have q2 : ¬ (b.length : Int) < (b.length : Int) := by omega
    have q3 : (0 : Int) ≤ ((i + b.length : Nat) : Int) := by omega
    have q4 : ((i + b.length : Nat) : Int) < (out.length : Int) := by omega
    have e1 : wrap64 ((i : Int) + (b.length : Int)) = ((i + b.length : Nat) : Int) := w64_add i b.length (by omega)
    have e2 : wrap64 ((i : Int) + 1) = ((i + 1 : Nat) : Int) := by rw [← w64_nat (i + 1) (by omega)]; rfl
    have hz := hP.zero (i + b.length) (Nat.le_refl _)
    obtain ⟨r, h1, h2⟩ := hO (out.set (i + b.length) c) ⟨by rw [List.length_set]; exact hlen, inB_set hP.dig _ hc, fun j hj => by
        rw [getD_set, if_neg (by omega)]
        exact hP.zero j (by omega)⟩ (by
        rw [valB_set H32 out _ c q1, hz, Int.sub_zero, HV.out, valB_take_succ H32 a i hi, List.take_of_length_le (Nat.le_refl _), Int.add_mul, Int.mul_assoc])
    refine ⟨r, Ev.step (fun k => ?_) h1, h2⟩
    rw [reckonerref01_Times.l1, if_neg q2, e1, if_pos q3, if_pos q4, Int.toNat_natCast, e2]
  | n + 1, kk, out, c, hk, hP, hc, hv => by
    have HV := Aside0.mk hv
    clear hv
    have hlen := hP.len
    have hk' : kk + 1 + n = b.length := by omega
    have hjj : ∀ j, i + b.length ≤ j → ¬ (i + kk = j ∧ i + kk < out.length) := by omega
    have hkb : kk < b.length := by omega
    have e1 : wrap64 ((i : Int) + (kk : Int)) = ((i + kk : Nat) : Int) := w64_add i kk (by omega)
    have e2 : wrap64 ((kk : Int) + 1) = ((kk + 1 : Nat) : Int) := by rw [← w64_nat (kk + 1) (by omega)]; rfl
    have q1 : (kk : Int) < (b.length : Int) := by omega
    have q2 : (0 : Int) ≤ ((i + kk : Nat) : Int) := by omega
    have q3 : ((i + kk : Nat) : Int) < (out.length : Int) := by omega
    have q4 : (0 : Int) ≤ (i : Int) := by omega
    have q5 : (i : Int) < (a.length : Int) := by omega
    have q6 : (0 : Int) ≤ (kk : Int) := by omega
    have q7 : i + kk < out.length := by omega
    have h1 := inB_getD H32_pos ha i
    have h2 := inB_getD H32_pos hb kk
    have h3 := inB_getD H32_pos hP.dig (i + kk)
    rw [H32_eq] at h1 h2 h3 hc
    have hmul : a.getD i 0 * b.getD kk 0 ≤ 18446744065119617025 := Int.le_trans (Int.mul_le_mul (show a.getD i 0 ≤ 4294967295 by omega) (show b.getD kk 0 ≤ 4294967295 by omega) h2.1 (by decide)) (by decide)
    have hmul0 : 0 ≤ a.getD i 0 * b.getD kk 0 := Int.mul_nonneg h1.1 h2.1
    obtain ⟨p, hp⟩ : ∃ p, p = a.getD i 0 * b.getD kk 0 := ⟨_, rfl⟩
    rw [← hp] at hmul hmul0
    have HPP := Aside0.mk hp
    clear hp
    have w1 : IntKind.u64.wrap (c + out.getD (i + kk) 0) = c + out.getD (i + kk) 0 := wrapW _ (by omega) (by omega)
    have w2 : IntKind.u64.wrap p = p := wrapW _ (by omega) (by omega)
    have w3 : 0 ≤ c + out.getD (i + kk) 0 + p ∧ c + out.getD (i + kk) 0 + p < 18446744073709551616 := by omega
    have w4 : 0 ≤ (c + out.getD (i + kk) 0 + p) / H32 ∧ (c + out.getD (i + kk) 0 + p) / H32 < 4294967296 := by rw [H32_eq]; omega
    have w5 : (c + out.getD (i + kk) 0 + p) / H32 < 18446744073709551616 := by omega
    have w6 : 0 ≤ (c + out.getD (i + kk) 0 + p) % H32 ∧ (c + out.getD (i + kk) 0 + p) % H32 < H32 := by rw [H32_eq]; omega
    have hdm := Int.emod_add_mul_ediv (c + out.getD (i + kk) 0 + p) H32
    obtain ⟨r, k1, k2⟩ := Times_inner a b ha hb hn hm i hi hO n (kk + 1) (out.set (i + kk) ((c + out.getD (i + kk) 0 + p) % H32)) ((c + out.getD (i + kk) 0 + p) / H32) hk'
      ⟨by rw [List.length_set]; exact hlen, inB_set hP.dig _ w6, fun j hj => by rw [getD_set, if_neg (hjj j hj)]; exact hP.zero j hj⟩ w4 (by
        rw [valB_set H32 out _ _ q7, valB_take_succ H32 b kk hkb, Int.mul_add (a.getD i 0), Int.mul_add (H32 ^ i), ← Int.add_assoc, ← HV.out]
        have e4 : H32 ^ i * (a.getD i 0 * (H32 ^ kk * b.getD kk 0)) = H32 ^ (i + kk) * p := by
          rw [HPP.out, Int.pow_add, Int.mul_left_comm (a.getD i 0), ← Int.mul_assoc]
        have e5 : H32 ^ (i + (kk + 1)) = H32 ^ (i + kk) * H32 := by rw [← Nat.add_assoc, Int.pow_succ]
        have e6 : H32 ^ (i + kk) * ((c + out.getD (i + kk) 0 + p) % H32 - out.getD (i + kk) 0) + H32 ^ (i + kk) * H32 * ((c + out.getD (i + kk) 0 + p) / H32) = H32 ^ (i + kk) * c + H32 ^ (i + kk) * p := by
          rw [Int.mul_assoc, ← Int.mul_add, ← Int.mul_add, lin5 _ _ _ _ _ hdm]
        rw [e4, e5, Int.add_assoc (valB H32 out), e6, ← Int.add_assoc])
    refine ⟨r, Ev.step (fun k => ?_) k1, k2⟩
    rw [reckonerref01_Times.l1, if_pos q1, e1, if_pos q2, if_pos q3, if_pos q4, if_pos q5, if_pos q6, rd_nat, rd_nat, rd_nat, ← HPP.out, w1, w2, wrapW _ w3.1 w3.2, tmodH _ w3.1, tdivH _ w3.1, wrapW _ w4.1 w5, e2, Int.toNat_natCast]
theorem Times_outer (a b : List Int) (ha : inB H32 a) (hb : inB H32 b) (hn : a.length ≤ 1000000) (hm : b.length ≤ 1000000) : ∀ (m i : Nat) (out : List Int), i + m = a.length → Prod a b out i → valB H32 out = valB H32 (a.take i) * valB H32 b →
      ∃ r, Ev (fun k => reckonerref01_Times.l0 k a b out (i : Int)) r ∧ Good a b r
  | 0, i, out, hi, hP, hv => by
    have q0 : a.length ≤ i := by clear hv; omega
    have q1 : ¬ (i : Int) < (a.length : Int) := by clear hv; omega
    rw [List.take_of_length_le q0] at hv
    exact ⟨out, Ev.now' fun k => by rw [reckonerref01_Times.l0, if_neg q1], hP.dig, hP.len, hv⟩
  | m + 1, i, out, hi, hP, hv => by
    have q1 : (i : Int) < (a.length : Int) := by clear hv; omega
    have q2 : i < a.length := by clear hv; omega
    have q3 : i + 1 + m = a.length := by clear hv; omega
    obtain ⟨r, h1, h2⟩ := Times_inner a b ha hb hn hm i q2 (fun out hP hv => Times_outer a b ha hb hn hm m (i + 1) out q3 hP hv) b.length 0 out 0 (Nat.zero_add _) hP ⟨Int.le_refl 0, H32_pos⟩ (by
      rw [List.take_zero]
      simp [valB, hv])
    exact ⟨r, Ev.step (fun k => by rw [reckonerref01_Times.l0, if_pos q1]; rfl) h1, h2⟩
/-- A product of digits. -/
theorem Times_ev (a b : List Int) (ha : inB H32 a) (hb : inB H32 b) (hn : a.length ≤ 1000000) (hm : b.length ≤ 1000000) : ∃ r, Ev (fun k => reckonerref01_Times.f k a b) r ∧ Good a b r := by
  obtain ⟨r, h1, h2⟩ := Times_outer a b ha hb hn hm a.length 0 (List.replicate (a.length + b.length) 0) (by omega)
    ⟨by simp, inB_zeros H32_pos _, fun j _ => by
        simp only [List.getD_eq_getElem?_getD, List.getElem?_replicate]
        split <;> rfl⟩ (by rw [valB_zeros, List.take_zero]; simp [valB])
  have e1 : wrap64 ((a.length : Int) + (b.length : Int)) = ((a.length + b.length : Nat) : Int) := w64_add a.length b.length (by omega)
  have q1 : (0 : Int) ≤ ((a.length + b.length : Nat) : Int) := by omega
  have q2 : a.length + b.length ≤ 35184372088832 := by omega
  refine ⟨r, Ev.congr (fun k => ?_) h1, h2⟩
  show reckonerref01_Times.f k a b = _
  unfold reckonerref01_Times.f
  rw [e1, if_pos q1, Int.toNat_natCast, if_pos q2]
  rfl
end Go.Proofs.YtkkkbalefnileaaDoor.Ex
/- The reference's Short. -/
namespace Go.Proofs.YtkkkbalefnileaaDoor.Ex
open Go.RowKit Go.Proofs.YtkkkbalefnileaaDoorW.PrintWords Go.Proofs.YtkkkbalefnileaaDoorW.PrintLast Go.Proofs.YtkkkbalefnileaaDoorW.PrintMore Go.Proofs.YtkkkbalefnileaaDoor.T
set_option linter.unusedVariables false
set_option linter.unusedSimpArgs false

theorem pow_leB {n m : Nat} (h : n ≤ m) : H32 ^ n ≤ H32 ^ m := by
  obtain ⟨d, rfl⟩ : ∃ d, m = n + d := ⟨m - n, by omega⟩
  rw [Int.pow_add]
  have h1 := pow_posB H32_pos n
  have h2 := pow_posB H32_pos d
  have h3 : H32 ^ n * 1 ≤ H32 ^ n * H32 ^ d := Int.mul_le_mul_of_nonneg_left (by omega) (by omega)
  omega
/-! ### Short -/
theorem Short_stop (a : List Int) (n : Nat) (hn : n ≤ a.length) : (if 0 ≤ (n : Int) then (if (n : Int) ≤ (a.length : Int) then (some (a.take ((n : Int) : Int).toNat)) else (none)) else (none)) = some (a.take n) := by
  rw [if_pos (by omega), if_pos (by omega), Int.toNat_natCast]
theorem Short_loop (a : List Int) (hn : a.length ≤ 4000000) : ∀ n, n ≤ a.length → valB H32 (a.take n) = valB H32 a →
    ∃ m, m ≤ a.length ∧ Ev (fun k => reckonerref01_Short.l0 k a (n : Int)) (a.take m) ∧ valB H32 (a.take m) = valB H32 a ∧ (m = 0 ∨ a.getD (m - 1) 0 ≠ 0)
  | 0, h, hv => ⟨0, h, Ev.now' fun k => by
      have q : ¬ (((0 : Nat) : Int) > 0) := by decide
      rw [reckonerref01_Short.l0, if_neg q]
      exact Short_stop a 0 h, hv, Or.inl rfl⟩
  | n + 1, h, hv => by
    have q1 : (((n + 1 : Nat) : Int) > 0) := by omega
    have q2 : (0 : Int) ≤ (n : Int) := by omega
    have q3 : (n : Int) < (a.length : Int) := by omega
    have e1 := w64_sub1 n (by omega)
    by_cases hz : a.getD n 0 = 0
    · obtain ⟨m, m1, m2, m3⟩ := Short_loop a hn n (by omega) (by rw [← hv, valB_take_succ H32 a n (by omega), hz, Int.mul_zero, Int.add_zero])
      refine ⟨m, m1, Ev.step (fun k => ?_) m2, m3⟩
      rw [reckonerref01_Short.l0, if_pos q1, e1, if_pos q2, if_pos q3, rd_nat, if_pos hz]
    · refine ⟨n + 1, h, Ev.now' fun k => ?_, hv, Or.inr hz⟩
      rw [reckonerref01_Short.l0, if_pos q1, e1, if_pos q2, if_pos q3, rd_nat, if_neg hz]
      exact Short_stop a (n + 1) h
theorem Short_ev (a : List Int) (hn : a.length ≤ 4000000) : ∃ m, m ≤ a.length ∧ Ev (fun k => reckonerref01_Short.f k a) (a.take m) ∧ valB H32 (a.take m) = valB H32 a ∧ (m = 0 ∨ a.getD (m - 1) 0 ≠ 0) :=
  Short_loop a hn a.length (Nat.le_refl _) (by rw [List.take_of_length_le (Nat.le_refl _)])
end Go.Proofs.YtkkkbalefnileaaDoor.Ex
/- The bits of a word: what the library's OnesCount64 calculates; what is counted bit by bit. No program here. -/
namespace Go.Proofs.YtkkkbalefnileaaDoor.Ex
open Go Go.Lib
set_option linter.unusedVariables false

def f1 (b : Nat) : Nat := (b / 2 &&& 85) + (b &&& 85)
def f2 (b : Nat) : Nat := (b / 4 &&& 51) + (b &&& 51)
end Go.Proofs.YtkkkbalefnileaaDoor.Ex
/- The reference's functions on numbers. -/
namespace Go.Proofs.YtkkkbalefnileaaDoor.Ex
open Go.RowKit Go.Proofs.YtkkkbalefnileaaDoorW.PrintWords Go.Proofs.YtkkkbalefnileaaDoorW.PrintLast Go.Proofs.YtkkkbalefnileaaDoorW.PrintMore Go.Proofs.YtkkkbalefnileaaDoor.T
set_option linter.unusedVariables false
set_option linter.unusedSimpArgs false

theorem isW_of_wf {x : Int} (h : (Lit.int .u64 x).wf = true) : isW x := by
  have h1 : 0 ≤ x ∧ x ≤ 18446744073709551615 := by
    simp [Lit.wf, IntKind.min, IntKind.max, IntKind.signed, IntKind.bits] at h
    omega
  unfold isW
  rw [W64_eq]
  omega
theorem inW_of_wf {l : List Int} (h : ∀ x ∈ l, (Lit.int .u64 x).wf = true) : inW l := fun x hx => isW_of_wf (h x hx)
theorem inW_take {l : List Int} (h : inW l) (n : Nat) : inW (l.take n) := fun x hx => h x (List.mem_of_mem_take hx)
theorem few_some (l : List Int) (n : Nat) (h : l.length ≤ 17592186044415) : reckonerlaw02_few.f l (n : Int) = some (l.take n) := by
  unfold reckonerlaw02_few.f
  rw [if_pos ⟨by omega, h⟩, Int.toNat_natCast]
/-- A row of n words whose value has n words is the value's. -/
theorem can_of_len {r : List Int} (hr : inW r) (h : r = [] ∨ W64 ^ (r.length - 1) ≤ valB W64 r) : r = can (valB W64 r) := by
  have h0 := valW_nonneg hr
  rcases h with h | h
  · rw [h]; rfl
  · have h1 := can_high h0 h
    have h2 := can_le hr
    exact valB_inj W64_pos hr (can_in h0) (by omega) (can_val h0).symm
theorem RNat_ev (d : List Int) (hd : inB H32 d) (hm : d.length ≤ 1000000) : Ev (fun k => reckonerref02_nat.f k d) (can (valB H32 d)) := by
  obtain ⟨m, hm1, hs, hv, hnz⟩ := Short_ev d (by omega)
  have hdm : inB H32 (d.take m) := inB_take hd m
  have hlm : (d.take m).length = m := by rw [List.length_take]; omega
  obtain ⟨r, t, hc, hr1, hr2, hr3, hr4⟩ := Cut_ev ((m + 1) / 2) (by omega) (d.take m) hdm (by omega)
  have hlt := valB_lt H32_pos hdm
  have h0 := valB_nonneg H32_pos hdm
  rw [hlm] at hlt
  have hp : H32 ^ m ≤ W64 ^ ((m + 1) / 2) := by rw [← H32_pow]; exact pow_leB (by omega)
  have hpp := pow_posB W64_pos ((m + 1) / 2)
  have hmod : valB H32 (d.take m) % (W64 ^ ((m + 1) / 2) * W64) = valB H32 (d.take m) := by
    refine Int.emod_eq_of_lt h0 ?_
    have h1 : W64 ^ ((m + 1) / 2) * 1 ≤ W64 ^ ((m + 1) / 2) * W64 := Int.mul_le_mul_of_nonneg_left (by decide) (Int.le_of_lt hpp)
    rw [Int.mul_one] at h1
    omega
  rw [hmod, hv] at hr4
  rw [hv] at hlt h0
  have hrl := valB_lt W64_pos hr1
  have hr0 := valB_nonneg W64_pos hr1
  rw [hr2] at hrl
  have ht : t = 0 := by
    by_cases ht : t ≤ 0
    · have := hr3.1; omega
    · have h1 : W64 ^ ((m + 1) / 2) * 1 ≤ W64 ^ ((m + 1) / 2) * t := Int.mul_le_mul_of_nonneg_left (by omega) (Int.le_of_lt hpp)
      rw [Int.mul_one] at h1
      omega
  rw [ht, Int.mul_zero, Int.add_zero] at hr4
  have hcan : r = can (valB H32 d) := by
    have h1 := can_of_len hr1 (by
      rw [hr2]
      by_cases hm0 : m = 0
      · left; rw [hm0] at hr2; exact List.eq_nil_of_length_eq_zero hr2
      · right
        rw [hr4, ← hv]
        have h2 := valB_take_succ H32 d (m - 1) (by omega)
        rw [show m - 1 + 1 = m by omega] at h2
        rw [h2]
        have h3 := valB_nonneg H32_pos (inB_take hd (m - 1))
        have h4 : 1 ≤ d.getD (m - 1) 0 := by
          have h5 := (inB_getD H32_pos hd (m - 1)).1
          rcases hnz with h | h
          · exact (hm0 h).elim
          · omega
        have h6 : H32 ^ (m - 1) * 1 ≤ H32 ^ (m - 1) * d.getD (m - 1) 0 := Int.mul_le_mul_of_nonneg_left h4 (Int.le_of_lt (pow_posB H32_pos _))
        rw [Int.mul_one] at h6
        have h7 : W64 ^ ((m + 1) / 2 - 1) ≤ H32 ^ (m - 1) := by rw [← H32_pow]; exact pow_leB (by omega)
        omega)
    rw [hr4] at h1
    exact h1
  have e : wrap64 (Int.tdiv (wrap64 (((d.take m).length : Int) + 1)) 2) = (((m + 1) / 2 : Nat) : Int) := by
    rw [hlm, show ((m : Int) + 1) = ((m + 1 : Nat) : Int) by omega, w64_nat (m + 1) (by omega)]
    exact w64_nat ((m + 1) / 2) (by omega)
  refine Ev.bind hs ?_
  simp only [e]
  refine Ev.bind hc ?_
  rw [← hcan]
  exact Ev.now _
theorem RTrim_ev (x : List Int) (hx : inW x) (hn : x.length ≤ 400000) : Ev (fun k => reckonerref02_Trim.f k x) (can (valB W64 x)) := by
  have h := RNat_ev (digitsL x) (digitsL_in hx) (by rw [digitsL_length]; omega)
  rw [digitsL_val] at h
  exact Ev.bind (Digits_ev x hx (by omega)) (Ev.bind h (Ev.now _))
theorem RCan_some {x : List Int} (h : canL x) (hn : x.length ≤ 400000) : reckonerref02_Canonical.f x = some true := by
  unfold reckonerref02_Canonical.f
  by_cases h0 : x = []
  · subst h0; rfl
  · have hp : 0 < x.length := List.length_pos_iff.2 h0
    have e : wrap64 ((x.length : Int) - 1) = ((x.length - 1 : Nat) : Int) := by rw [← w64_nat (x.length - 1) (by omega)]; congr 1; omega
    have hl : x.getD (x.length - 1) 0 ≠ 0 := by
      intro e
      have h1 := canL_low h h0
      have h2 := valB_take_succ W64 x (x.length - 1) (by omega)
      rw [List.take_of_length_le (by omega), e, Int.mul_zero, Int.add_zero] at h2
      have h3 := valB_lt W64_pos (inB_take (canL_in h) (x.length - 1))
      rw [List.length_take, Nat.min_eq_left (by omega)] at h3
      omega
    rw [if_neg (by omega), e, if_pos (by omega), if_pos (by omega), rd_nat, bne_iff_ne.2 hl]
theorem RIs_ev {v : Int} (y : List Int) (hy : inW y) (hn : y.length ≤ 400000) (h : valB W64 y = v) : Ev (fun k => reckonerref02_Is.f k (can v) y) true := by
  have hv : 0 ≤ v := by rw [← h]; exact valW_nonneg hy
  have hl := can_le hy
  rw [h] at hl
  have ht := RTrim_ev y hy hn
  rw [h] at ht
  have hs := RSame_ev (can v) (can v) (by omega)
  rw [decide_eq_true rfl] at hs
  refine Ev.congr (f := fun k => (reckonerref02_Trim.f k y).bind fun t => (reckonerref01_Same.f k (can v) t).bind fun t => some t) (fun k => ?_) (Ev.bind ht (Ev.bind hs (Ev.now true)))
  show reckonerref02_Is.f k (can v) y = _
  unfold reckonerref02_Is.f
  rw [RCan_some (can_canL hv) (by omega), Option.bind_some, if_pos rfl]
theorem RWord_ev (w : Int) (hw : isW w) : Ev (fun k => reckonerref02_FromWord.f k w) (can w) := by
  have h := RNat_ev [w % H32, w / H32] (word_in w hw) (by simp)
  rw [word_val] at h
  refine Ev.congr (f := fun k => (reckonerref02_nat.f k [w % H32, w / H32]).bind fun t => some t) (fun k => ?_) (Ev.bind h (Ev.now _))
  show reckonerref02_FromWord.f k w = _
  unfold reckonerref02_FromWord.f
  rw [Word_some w hw, Option.bind_some]
theorem RAdd_ev (x y : List Int) (hx : inW x) (hy : inW y) (hn : x.length ≤ 400000) (hm : y.length ≤ 400000) : Ev (fun k => reckonerref02_Add.f k x y) (can (valB W64 x + valB W64 y)) := by
  obtain ⟨p, hp1, hp2, hp3, hp4⟩ := Plus_ev (digitsL x) (digitsL y) (digitsL_in hx) (digitsL_in hy) (by rw [digitsL_length]; omega) (by rw [digitsL_length]; omega)
  rw [digitsL_length, digitsL_length] at hp3
  rw [digitsL_val, digitsL_val] at hp4
  have h := RNat_ev p hp2 (by omega)
  rw [hp4] at h
  exact Ev.bind (Digits_ev x hx (by omega)) (Ev.bind (Digits_ev y hy (by omega)) (Ev.bind hp1 (Ev.bind h (Ev.now _))))
theorem RMul_ev (x y : List Int) (hx : inW x) (hy : inW y) (hn : x.length ≤ 200000) (hm : y.length ≤ 200000) : Ev (fun k => reckonerref02_Mul.f k x y) (can (valB W64 x * valB W64 y)) := by
  obtain ⟨p, hp1, hp2, hp3, hp4⟩ := Times_ev (digitsL x) (digitsL y) (digitsL_in hx) (digitsL_in hy) (by rw [digitsL_length]; omega) (by rw [digitsL_length]; omega)
  rw [digitsL_length, digitsL_length] at hp3
  rw [digitsL_val, digitsL_val] at hp4
  have h := RNat_ev p hp2 (by omega)
  rw [hp4] at h
  exact Ev.bind (Digits_ev x hx (by omega)) (Ev.bind (Digits_ev y hy (by omega)) (Ev.bind hp1 (Ev.bind h (Ev.now _))))
end Go.Proofs.YtkkkbalefnileaaDoor.Ex
/- The bits of a value: how many are set, which is the lowest. No program here. -/
namespace Go.Proofs.YtkkkbalefnileaaDoor.Ex
open Go.RowKit Go.Proofs.YtkkkbalefnileaaDoorW.PrintWords Go.Proofs.YtkkkbalefnileaaDoorW.PrintLast Go.Proofs.YtkkkbalefnileaaDoorW.PrintMore Go.Proofs.YtkkkbalefnileaaDoor.T
set_option linter.unusedVariables false
set_option linter.unusedSimpArgs false

/-- t is the lowest bit below n that is set (d if none is). -/
def LowB (v : Int) (n : Nat) (d t : Int) : Prop := (∃ j : Nat, j < n ∧ t = (j : Int) ∧ v / 2 ^ j % 2 = 1 ∧ ∀ i, i < j → v / 2 ^ i % 2 = 0) ∨ (t = d ∧ ∀ i, i < n → v / 2 ^ i % 2 = 0)
theorem bit_cases (v : Int) (n : Nat) : v / 2 ^ n % 2 = 0 ∨ v / 2 ^ n % 2 = 1 := by omega
theorem LowB.one {v : Int} {n : Nat} {d t t' : Int} (h : LowB v n d t) (h' : LowB v n d t') : t = t' := by
  rcases h with ⟨j, h1, h2, h3, h4⟩ | ⟨h1, h2⟩ <;> rcases h' with ⟨j', k1, k2, k3, k4⟩ | ⟨k1, k2⟩
  · rcases Nat.lt_trichotomy j j' with c | c | c
    · have := k4 j c; omega
    · subst c; rw [h2, k2]
    · have := h4 j' c; omega
  · have := k2 j h1; omega
  · have := h2 j' k1; omega
  · rw [h1, k1]
theorem bit_beyond {v : Int} (h0 : 0 ≤ v) {n i : Nat} (h : v < 2 ^ n) (hi : n ≤ i) : v / 2 ^ i % 2 = 0 := by
  rw [Int.ediv_eq_zero_of_lt h0 (Int.lt_of_lt_of_le h (pow_mono (by decide) hi))]
  rfl
theorem LowB.more {v : Int} (h0 : 0 ≤ v) {n m : Nat} {d t : Int} (h : LowB v n d t) (hv : v < 2 ^ n) (hm : n ≤ m) : LowB v m d t := by
  rcases h with ⟨j, h1, h2, h3, h4⟩ | ⟨h1, h2⟩
  · exact Or.inl ⟨j, by omega, h2, h3, h4⟩
  · refine Or.inr ⟨h1, fun i hi => ?_⟩
    by_cases hin : i < n
    · exact h2 i hin
    · exact bit_beyond h0 hv (by omega)
theorem RBit_some (x : List Int) (i : Nat) (hx : inW x) (hi : i ≤ 1000000) : reckonerref02_Bit.f x (i : Int) = some (valB W64 x / 2 ^ i % 2 == 1) := by
  obtain ⟨q, m, hqm, hm, hq⟩ : ∃ q m : Nat, i = 64 * q + m ∧ m ≤ 63 ∧ q ≤ 100000 := ⟨i / 64, i % 64, by omega, by omega, by omega⟩
  have e1 : wrap64 (Int.tdiv (i : Int) 64) = (q : Int) := by
    rw [Int.tdiv_eq_ediv_of_nonneg (by omega), w64_int _ (by omega) (by omega)]; omega
  have e2 : Int.tmod (i : Int) 64 = (m : Int) := by
    rw [Int.tmod_eq_emod_of_nonneg (by omega)]; omega
  unfold reckonerref02_Bit.f
  rw [if_pos (by omega), e1, e2]
  by_cases hl : q < x.length
  · rw [if_pos (by omega), if_pos (by omega), if_pos (by omega), rd_nat, ← shr_small rfl (show (m : Int) ≤ ((64 : Nat) : Int) by omega), Int.toNat_natCast, hqm, bit_val hx hl hm]
    have h0 : 0 ≤ x.getD q 0 / 2 ^ m := Int.ediv_nonneg (isW_get hx q).1 (Int.le_of_lt (pow_posB (by decide) m))
    rw [Int.tmod_eq_emod_of_nonneg h0]
  · rw [if_neg (by omega)]
    have hv := valB_lt W64_pos hx
    rw [pow2_W] at hv
    rw [bit_beyond (valW_nonneg hx) hv (by omega)]
    rfl
end Go.Proofs.YtkkkbalefnileaaDoor.Ex
/- Powers of two as words. -/
namespace Go.Proofs.YtkkkbalefnileaaDoor.Ex
open Go.RowKit Go.Proofs.YtkkkbalefnileaaDoorW.PrintWords Go.Proofs.YtkkkbalefnileaaDoorW.PrintLast Go.Proofs.YtkkkbalefnileaaDoorW.PrintMore Go.Proofs.YtkkkbalefnileaaDoor.T
set_option linter.unusedVariables false
set_option linter.unusedSimpArgs false

theorem pow2_lt (n : Nat) (h : n ≤ 63) : isW ((2 : Int) ^ n) := by
  have h1 : 2 ^ n < 2 ^ 64 := Nat.pow_lt_pow_right (by decide) (by omega)
  have h2 : (2 : Int) ^ n = ((2 ^ n : Nat) : Int) := by simp
  have h3 : 2 ^ n < 18446744073709551616 := h1
  unfold isW
  rw [h2, W64_eq]
  exact ⟨Int.natCast_nonneg _, Int.ofNat_lt.2 h3⟩
theorem shl_one (s : Int) (h0 : 0 ≤ s) (h1 : s ≤ 63) : shl .u64 1 s = 2 ^ s.toNat := by
  have h := pow2_lt s.toNat (by omega)
  have h2 := h.2
  rw [W64_eq] at h2
  rw [← shl_small (rfl : shl .u64 1 s = shl .u64 1 s) (show s ≤ ((64 : Nat) : Int) by omega), Int.one_mul]
  exact wrapW _ h.1 h2
end Go.Proofs.YtkkkbalefnileaaDoor.Ex
/- The reference's shift of a row to the left by less than a word. -/
namespace Go.Proofs.YtkkkbalefnileaaDoor.Ex
open Go.RowKit Go.Proofs.YtkkkbalefnileaaDoorW.PrintWords Go.Proofs.YtkkkbalefnileaaDoorW.PrintLast Go.Proofs.YtkkkbalefnileaaDoorW.PrintMore Go.Proofs.YtkkkbalefnileaaDoor.T
set_option linter.unusedVariables false
set_option linter.unusedSimpArgs false

/-- The reference's product of a row and a word is the program's. -/
theorem MulW_ev (x : List Int) (w : Int) (hx : inW x) (hw : isW w) (hn : x.length ≤ 4096) :
    Ev (fun k => (reckonerref01_Digits.f k x).bind fun t486 => ((reckonerref01_Times.f k t486 [w % H32, w / H32]).bind fun t492 => ((reckonerref01_Cut.f k t492 (x.length : Int)).bind fun bt495 => (some (bt495.1, bt495.2))))) (carryL (fun i c => moreS (x.getD i 0) w c 0) x.length 0 0) := by
  have d1 := Digits_ev x hx (by omega)
  obtain ⟨p, p1, p2, p3, p4⟩ := Times_ev (digitsL x) [w % H32, w / H32] (digitsL_in hx) (word_in _ hw) (by rw [digitsL_length]; omega) (by simp)
  rw [digitsL_val, word_val] at p4
  have hpl : p.length = 2 * x.length + 2 := by rw [p3, digitsL_length]; rfl
  obtain ⟨row, t, c1, c2, c3, c4, c5⟩ := Cut_ev x.length (by omega) p p2 (by omega)
  have hp0 := valB_nonneg H32_pos p2
  have hp1 := valB_lt H32_pos p2
  rw [hpl, show 2 * x.length + 2 = 2 * (x.length + 1) by omega, H32_pow, Int.pow_succ] at hp1
  rw [Int.emod_eq_of_lt hp0 hp1, p4] at c5
  obtain ⟨v1, v2, v3⟩ := mul_val x w 0 hx hw ⟨Int.le_refl 0, W64_pos⟩
  have hlen := carryL_length (fun i c => moreS (x.getD i 0) w c 0) x.length 0 0
  obtain ⟨z, u, hzu⟩ : ∃ z u, carryL (fun i c => moreS (x.getD i 0) w c 0) x.length 0 0 = (z, u) := ⟨_, _, rfl⟩
  rw [hzu] at v2 v3 hlen ⊢
  simp only at v2 v3 hlen
  rw [Int.add_zero, ← c5] at v3
  obtain ⟨e1, e2⟩ := row_eq v2 c2 hlen c3 v3
  rw [e1, e2]
  exact Ev.bind d1 (Ev.bind p1 (Ev.bind c1 (Ev.now (row, t))))
/-- The reference's shift to the left is the program's. -/
theorem Left_ev (x : List Int) (s : Int) (hx : inW x) (h0 : 0 ≤ s) (h1 : s ≤ 63) (hn : x.length ≤ 4096) :
    Ev (fun k => reckonerref01_Left.f k x s) (carryL (fun i c => moreS (x.getD i 0) (2 ^ s.toNat) c 0) x.length 0 0) := by
  have hw := pow2_lt s.toNat (by omega)
  have hs := shl_one s h0 h1
  generalize (2 : Int) ^ s.toNat = w at hw hs ⊢
  refine Ev.congr (fun k => ?_) (MulW_ev x w hx hw hn)
  show reckonerref01_Left.f k x s = _
  unfold reckonerref01_Left.f
  rw [hs, Word_some w hw]
  congr 1
  funext t
  rw [if_pos h0, Option.bind_some]
end Go.Proofs.YtkkkbalefnileaaDoor.Ex
/- The reference's shift of a number to the left. -/
namespace Go.Proofs.YtkkkbalefnileaaDoor.Ex
open Go.RowKit Go.Proofs.YtkkkbalefnileaaDoorW.PrintWords Go.Proofs.YtkkkbalefnileaaDoorW.PrintLast Go.Proofs.YtkkkbalefnileaaDoorW.PrintMore Go.Proofs.YtkkkbalefnileaaDoor.T
set_option linter.unusedVariables false
set_option linter.unusedSimpArgs false

theorem tdiv64 (s : Int) (h0 : 0 ≤ s) (h1 : s ≤ 1000000) : wrap64 (Int.tdiv s 64) = ((s.toNat / 64 : Nat) : Int) ∧ Int.tmod s 64 = ((s.toNat % 64 : Nat) : Int) := by
  rw [Int.tdiv_eq_ediv_of_nonneg h0, Int.tmod_eq_emod_of_nonneg h0]
  refine ⟨?_, by omega⟩
  rw [w64_int _ (by omega) (by omega)]
  omega
theorem RLeft_ev (x : List Int) (s : Int) (hx : inW x) (hn : x.length ≤ 4096) (h0 : 0 ≤ s) (h1 : s ≤ 1000000) : Ev (fun k => reckonerref02_Left.f k x s) (can (valB W64 x * 2 ^ s.toNat)) := by
  obtain ⟨e1, e2⟩ := tdiv64 s h0 h1
  have hs := Nat.mod_add_div s.toNat 64
  have hm : s.toNat % 64 ≤ 63 := by omega
  have hq : s.toNat / 64 ≤ 20000 := by omega
  generalize s.toNat / 64 = q at *
  generalize s.toNat % 64 = m at *
  have hp : (2 : Int) ^ s.toNat = W64 ^ q * 2 ^ m := by rw [pow2_W, ← Int.pow_add]; congr 1; omega
  have hl := Left_ev x (m : Int) hx (by omega) (by omega) hn
  rw [Int.toNat_natCast] at hl
  obtain ⟨v1, v2, v3⟩ := mul_val x (2 ^ m) 0 hx (pow2_lt m hm) ⟨Int.le_refl 0, W64_pos⟩
  have hlen := carryL_length (fun i c => moreS (x.getD i 0) (2 ^ m) c 0) x.length 0 0
  obtain ⟨z, u, hzu⟩ : ∃ z u, carryL (fun i c => moreS (x.getD i 0) (2 ^ m) c 0) x.length 0 0 = (z, u) := ⟨_, _, rfl⟩
  rw [hzu] at hl v1 v2 v3 hlen
  simp only at v1 v2 v3 hlen
  have hin : inW (List.replicate q 0 ++ z ++ [u]) := inB_append.2 ⟨inB_append.2 ⟨inB_zeros W64_pos q, v2⟩, inB_cons.2 ⟨v1, inB_nil⟩⟩
  have ht := RTrim_ev (List.replicate q 0 ++ z ++ [u]) hin (by simp; omega)
  have hval : valB W64 (List.replicate q 0 ++ z ++ [u]) = valB W64 x * 2 ^ s.toNat := by
    rw [List.append_assoc, valB_append, valB_zeros, List.length_replicate, valB_append, hlen, hp]
    have : valB W64 [u] = u := by simp [valB]
    rw [this, v3, Int.add_zero, Int.zero_add, Int.mul_left_comm]
  rw [hval] at ht
  refine Ev.congr (f := fun k => (reckonerref01_Left.f k x (m : Int)).bind fun bt625 => (if 0 ≤ (q : Int) then (if (q : Int).toNat ≤ 35184372088832 then ((some (List.replicate (q : Int).toNat 0 : List Int)).bind fun y629 => (if y629.length + bt625.1.length < 17592186044416 then ((some (y629 ++ bt625.1 : List Int)).bind fun y632 => (if y632.length < 17592186044416 then ((reckonerref02_Trim.f k (y632 ++ [bt625.2])).bind fun t638 => (some t638)) else (none))) else (none))) else (none)) else (none))) (fun k => ?_) (Ev.bind hl (Ev.congr (fun k => ?_) (Ev.bind ht (Ev.now _))))
  · show reckonerref02_Left.f k x s = _
    rw [reckonerref02_Left.f, e1, e2]
  · show (if 0 ≤ (q : Int) then _ else _) = _
    have hr1 : (List.replicate q (0 : Int)).length + z.length < 17592186044416 := by simp; omega
    have hr2 : (List.replicate q (0 : Int) ++ z).length < 17592186044416 := by simp; omega
    rw [if_pos (by omega), Int.toNat_natCast, if_pos (by omega), Option.bind_some, if_pos hr1, Option.bind_some, if_pos hr2]
end Go.Proofs.YtkkkbalefnileaaDoor.Ex
/- The reference's difference, quotient and order of numbers. -/
namespace Go.Proofs.YtkkkbalefnileaaDoor.Ex
open Go.RowKit Go.Proofs.YtkkkbalefnileaaDoorW.PrintWords Go.Proofs.YtkkkbalefnileaaDoorW.PrintLast Go.Proofs.YtkkkbalefnileaaDoorW.PrintMore Go.Proofs.YtkkkbalefnileaaDoor.T
set_option linter.unusedVariables false
set_option linter.unusedSimpArgs false

theorem RSub_ev (x y : List Int) (hx : inW x) (hy : inW y) (hn : x.length ≤ 400000) (hm : y.length ≤ 400000) (h : valB W64 y ≤ valB W64 x) : Ev (fun k => reckonerref02_Sub.f k x y) (can (valB W64 x - valB W64 y)) := by
  have hv := valW_nonneg hy
  have ht := RTrim_ev y hy hm
  have hc := can_in hv
  have hcl := can_le hy
  have hlt : valB H32 (digitsL (can (valB W64 y))) < H32 ^ (digitsL x).length := by
    rw [digitsL_val, can_val hv, digitsL_length, H32_pow]
    have := valB_lt W64_pos hx
    omega
  obtain ⟨p, b, hp1, ⟨hb, hb'⟩, hp2, hp3, hp4⟩ := Minus_ev' (digitsL x) (digitsL (can (valB W64 y))) (digitsL_in hx) (digitsL_in hc) (by rw [digitsL_length]; omega) hlt
  rw [digitsL_val, digitsL_val, can_val hv] at hp4
  have hpl := valB_lt H32_pos hp2
  rw [hp3] at hpl
  have hp0 := valB_nonneg H32_pos hp2
  have hb0 : b = 0 := by
    by_cases h1 : b = 0
    · exact h1
    · rw [show b = 1 by omega, Int.mul_one] at hp4
      omega
  rw [hb0, Int.mul_zero, Int.sub_zero] at hp4
  have hr := RNat_ev p hp2 (by rw [hp3, digitsL_length]; omega)
  rw [hp4] at hr
  exact Ev.bind (Digits_ev x hx (by omega)) (Ev.bind ht (Ev.bind (Digits_ev (can (valB W64 y)) hc (by omega)) (Ev.bind hp1 (Ev.bind hr (Ev.now _)))))
end Go.Proofs.YtkkkbalefnileaaDoor.Ex
/- The reference's joined numbers, and its numbers with another bit. -/
namespace Go.Proofs.YtkkkbalefnileaaDoor.Ex
open Go.RowKit Go.Proofs.YtkkkbalefnileaaDoorW.PrintWords Go.Proofs.YtkkkbalefnileaaDoorW.PrintLast Go.Proofs.YtkkkbalefnileaaDoorW.PrintMore Go.Proofs.YtkkkbalefnileaaDoor.T
set_option linter.unusedVariables false
set_option linter.unusedSimpArgs false

theorem and_one (x : Int) (hx : isW x) : bits .and .u64 x 1 = Int.tmod x 2 := by
  obtain ⟨X, rfl⟩ := Int.eq_ofNat_of_zero_le hx.1
  have hX := hx.2
  rw [W64_eq] at hX
  have h := bits_and_u64_nat X 1 (by omega) (by decide)
  rw [Nat.and_one_is_mod] at h
  rw [Int.tmod_eq_emod_of_nonneg (by omega)]
  exact h
theorem shr_in (x : Int) (m : Nat) (hx : isW x) (hm : m ≤ 63) : isW (shr .u64 x (m : Int)) := by
  rw [← shr_small rfl (show (m : Int) ≤ ((64 : Nat) : Int) by omega), Int.toNat_natCast]
  have hp := pow_posB (B := 2) (by decide) m
  exact ⟨Int.ediv_nonneg hx.1 (by omega), Int.lt_of_le_of_lt (Int.ediv_le_self _ hx.1) hx.2⟩
/-- Both packages tell the same bit. -/
theorem Bit_same (x : List Int) (i : Int) (hx : inW x) (hl : x.length ≤ 4096) (hi : i < 9223372036854775808) : ∃ b, nat_Bit.f x i = some b ∧ reckonerref02_Bit.f x i = some b := by
  by_cases h0 : i ≥ 0
  · obtain ⟨q, m, hqm, hm⟩ : ∃ q m : Nat, i = 64 * q + m ∧ m ≤ 63 := ⟨i.toNat / 64, i.toNat % 64, by omega, by omega⟩
    have e1 : wrap64 (Int.tdiv i 64) = (q : Int) := by
      rw [Int.tdiv_eq_ediv_of_nonneg h0, w64_int _ (by omega) (by omega)]; omega
    have e2 : Int.tmod i 64 = (m : Int) := by
      rw [Int.tmod_eq_emod_of_nonneg h0]; omega
    have e3 : IntKind.u64.wrap (m : Int) = (m : Int) := wrapW _ (by omega) (by omega)
    unfold nat_Bit.f reckonerref02_Bit.f
    rw [if_pos h0, if_pos h0, e1, e2, e3]
    by_cases hq : (q : Int) < (x.length : Int)
    · rw [if_pos hq, if_pos hq, if_pos (by omega), if_pos (by omega), if_pos (by omega), if_pos (by omega), rd_nat, and_one _ (shr_in _ m (isW_get hx q) hm)]
      exact ⟨_, rfl, rfl⟩
    · rw [if_neg hq, if_neg hq]
      exact ⟨_, rfl, rfl⟩
  · unfold nat_Bit.f reckonerref02_Bit.f
    rw [if_neg h0, if_neg h0]
    exact ⟨_, rfl, rfl⟩
theorem bit_one_le {v : Int} (h0 : 0 ≤ v) {n : Nat} (h : v / 2 ^ n % 2 = 1) : 2 ^ n ≤ v := by
  rcases Int.lt_or_le v (2 ^ n) with h1 | h1
  · rw [Int.ediv_eq_zero_of_lt h0 h1] at h
    exact absurd h (by decide)
  · exact h1
theorem setV_cases {v : Int} {n : Nat} : (v / 2 ^ n % 2 = 1 → setV v n true = v ∧ setV v n false = v - 2 ^ n) ∧ (v / 2 ^ n % 2 = 0 → setV v n true = v + 2 ^ n ∧ setV v n false = v) := by
  unfold setV
  refine ⟨fun h => ?_, fun h => ?_⟩ <;> rw [h]
  · refine ⟨?_, ?_⟩
    · rw [if_pos rfl, Int.one_mul]; omega
    · rw [if_neg (by decide), Int.one_mul]; omega
  · refine ⟨?_, ?_⟩
    · rw [if_pos rfl, Int.zero_mul]; omega
    · rw [if_neg (by decide), Int.zero_mul]; omega
theorem RSetBit_ev (x : List Int) (i : Nat) (b : Bool) (hx : inW x) (hl : x.length ≤ 4096) (hi : i < 262144) : Ev (fun k => reckonerref02_SetBit.f k x (i : Int) b) (can (setV (valB W64 x) i b)) := by
  have v0 := valW_nonneg hx
  have hp := pow_posB (B := 2) (by decide) i
  have w1 := RWord_ev 1 (by decide)
  have c1 : inW (can 1) := can_in (by decide)
  have hl1 := RLeft_ev (can 1) (i : Int) c1 (by decide) (by omega) (by omega)
  rw [can_val (by decide), Int.one_mul, Int.toNat_natCast] at hl1
  have hb := RBit_some x i hx (by omega)
  have hps : (can (2 ^ i)).length ≤ 4096 := can_short (by omega) (by rw [pow2_W]; exact Int.pow_lt_pow_of_lt (by decide) (by omega))
  have cp : inW (can (2 ^ i)) := can_in (by omega)
  have cv : valB W64 (can (2 ^ i)) = 2 ^ i := can_val (by omega)
  have ha := RAdd_ev x (can (2 ^ i)) hx cp (by omega) (by omega)
  rw [cv] at ha
  have ht := RTrim_ev x hx (by omega)
  obtain ⟨s1, s0⟩ := setV_cases (v := valB W64 x) (n := i)
  rcases bit_cases (valB W64 x) i with h | h
  · obtain ⟨t1, t2⟩ := s0 h
    rw [h] at hb
    have hb' : reckonerref02_Bit.f x (i : Int) = some false := hb
    cases b
    · rw [t2]
      have hj : Ev (fun k => reckonerref02_SetBit.j0 k x (i : Int) false (can (2 ^ i)) false) (can (valB W64 x)) := by
        refine Ev.step (f := fun k => reckonerref02_SetBit.j1 k x (can (2 ^ i)) false) (fun k => ?_) (Ev.step (f := fun k => (reckonerref02_Trim.f k x).bind fun t => some t) (fun k => ?_) (Ev.bind ht (Ev.now _)))
        · rw [reckonerref02_SetBit.j0, if_neg (by decide), if_neg (by decide), hb', Option.bind_some]
        · rw [reckonerref02_SetBit.j1, if_neg (by decide)]
      exact Ev.bind w1 (Ev.bind hl1 (Ev.congr (fun k => if_neg (by decide)) hj))
    · rw [t1]
      have hj : Ev (fun k => reckonerref02_SetBit.j0 k x (i : Int) true (can (2 ^ i)) true) (can (valB W64 x + 2 ^ i)) := by
        refine Ev.step (f := fun k => (reckonerref02_Add.f k x (can (2 ^ i))).bind fun t => some t) (fun k => ?_) (Ev.bind ha (Ev.now _))
        rw [reckonerref02_SetBit.j0, if_pos rfl]
      exact Ev.bind w1 (Ev.bind hl1 (Ev.congr (fun k => (if_pos rfl).trans (by rw [hb', Option.bind_some]; rfl)) hj))
  · obtain ⟨t1, t2⟩ := s1 h
    rw [h] at hb
    have hb' : reckonerref02_Bit.f x (i : Int) = some true := hb
    cases b
    · rw [t2]
      have hs := RSub_ev x (can (2 ^ i)) hx cp (by omega) (by omega) (by rw [cv]; exact bit_one_le v0 h)
      rw [cv] at hs
      have hj : Ev (fun k => reckonerref02_SetBit.j0 k x (i : Int) false (can (2 ^ i)) false) (can (valB W64 x - 2 ^ i)) := by
        refine Ev.step (f := fun k => reckonerref02_SetBit.j1 k x (can (2 ^ i)) true) (fun k => ?_) (Ev.step (f := fun k => (reckonerref02_Sub.f k x (can (2 ^ i))).bind fun t => some t) (fun k => ?_) (Ev.bind hs (Ev.now _)))
        · rw [reckonerref02_SetBit.j0, if_neg (by decide), if_neg (by decide), hb', Option.bind_some]
        · rw [reckonerref02_SetBit.j1, if_pos rfl]
      exact Ev.bind w1 (Ev.bind hl1 (Ev.congr (fun k => if_neg (by decide)) hj))
    · rw [t1]
      have hj : Ev (fun k => reckonerref02_SetBit.j0 k x (i : Int) true (can (2 ^ i)) false) (can (valB W64 x)) := by
        refine Ev.step (f := fun k => reckonerref02_SetBit.j1 k x (can (2 ^ i)) false) (fun k => ?_) (Ev.step (f := fun k => (reckonerref02_Trim.f k x).bind fun t => some t) (fun k => ?_) (Ev.bind ht (Ev.now _)))
        · rw [reckonerref02_SetBit.j0, if_neg (by decide), if_pos rfl]
        · rw [reckonerref02_SetBit.j1, if_neg (by decide)]
      exact Ev.bind w1 (Ev.bind hl1 (Ev.congr (fun k => (if_pos rfl).trans (by rw [hb', Option.bind_some]; rfl)) hj))
/-- Joined word by word, up to the end of the longer one. -/
def joinM (g : Int → Int → Int) (x y : List Int) : List Int := (List.range (max x.length y.length)).map fun i => g (x.getD i 0) (y.getD i 0)
theorem joinM_in {g : Int → Int → Int} (hg : ∀ x y, isW x → isW y → isW (g x y)) {x y : List Int} (hx : inW x) (hy : inW y) : inW (joinM g x y) := by
  intro z hz
  simp only [joinM, List.mem_map] at hz
  obtain ⟨i, _, rfl⟩ := hz
  exact hg _ _ (isW_get hx i) (isW_get hy i)
theorem joinM_len (g : Int → Int → Int) (x y : List Int) : (joinM g x y).length = max x.length y.length := by simp [joinM]
theorem joinM_succ (g : Int → Int → Int) (x y : List Int) (i : Nat) (h : i < max x.length y.length) : (joinM g x y).take (i + 1) = (joinM g x y).take i ++ [g (x.getD i 0) (y.getD i 0)] := by
  have hl : i < (joinM g x y).length := by rw [joinM_len]; exact h
  rw [List.take_succ_eq_append_getElem hl]
  simp [joinM]
theorem joinR_eq (op : BinOp) (hc : ∀ a b, bits op .u64 a b = bits op .u64 b a) (x y : List Int) : joinR op x y = joinM (bits op .u64) x y := by
  unfold joinR joinL joinM
  by_cases h : x.length < y.length
  · rw [if_pos h, Nat.max_eq_right (by omega)]
    exact List.map_congr_left fun i _ => hc _ _
  · rw [if_neg h, Nat.max_eq_left (by omega)]
theorem Rword_some (x : List Int) (i : Nat) : reckonerref02_word.f x (i : Int) = some (x.getD i 0) := by
  unfold reckonerref02_word.f
  by_cases h : i < x.length
  · rw [if_pos (by omega), if_pos (by omega), rd_nat]
  · rw [if_neg (by omega)]
    simp [List.getD_eq_getElem?_getD, List.getElem?_eq_none (by omega : x.length ≤ i)]
theorem RJoined_loop (x y : List Int) (hx : inW x) (hy : inW y) (hlx : x.length ≤ 4096) (hly : y.length ≤ 4096) (how : Int) (op : BinOp) (hop : how = 0 ∧ op = .and ∨ how = 1 ∧ op = .or ∨ how = 2 ∧ op = .xor)
    (hg : ∀ a b, isW a → isW b → isW (bits op .u64 a b)) : ∀ (d i : Nat), i + d = max x.length y.length → Ev (fun k => reckonerref02_Joined.l0 k x y how ((joinM (bits op .u64) x y).take i) (i : Int)) (can (valB W64 (joinM (bits op .u64) x y)))
  | 0, i, hi => by
    have hlen := joinM_len (bits op .u64) x y
    have hJ := joinM_in (g := bits op .u64) hg hx hy
    rw [List.take_of_length_le (by omega)]
    have ht := RTrim_ev _ hJ (by omega)
    refine Ev.step (f := fun k => reckonerref02_Joined.j1 k x y how (joinM (bits op .u64) x y) (i : Int) false) (fun k => ?_) (Ev.step (f := fun k => (reckonerref02_Trim.f k (joinM (bits op .u64) x y)).bind fun t => some t) (fun k => ?_) (Ev.bind ht (Ev.now _)))
    · rw [reckonerref02_Joined.l0, if_neg (by omega), decide_eq_false (by omega)]
    · rw [reckonerref02_Joined.j1, if_neg (by decide)]
  | d + 1, i, hi => by
    have ih := RJoined_loop x y hx hy hlx hly how op hop hg d (i + 1) (by omega)
    have ei : wrap64 ((i : Int) + 1) = ((i + 1 : Nat) : Int) := by rw [w64_int _ (by omega) (by omega)]; omega
    have hl : ((joinM (bits op .u64) x y).take i).length < 17592186044416 := by rw [List.length_take]; omega
    rw [joinM_succ _ _ _ i (by omega)] at ih
    refine Ev.step (f := fun k => reckonerref02_Joined.j1 k x y how ((joinM (bits op .u64) x y).take i) (i : Int) true) (fun k => ?_) (Ev.step (fun k => ?_) ih)
    · rw [reckonerref02_Joined.l0]
      by_cases h : i < x.length
      · rw [if_pos (by omega)]
      · rw [if_neg (by omega), decide_eq_true (by omega)]
    · rw [reckonerref02_Joined.j1, if_pos rfl, Rword_some, Rword_some, Option.bind_some, Option.bind_some, ei]
      rcases hop with ⟨rfl, rfl⟩ | ⟨rfl, rfl⟩ | ⟨rfl, rfl⟩
      · rw [if_pos rfl, if_pos hl]
      · rw [if_neg (by decide), if_pos rfl, if_pos hl]
      · rw [if_neg (by decide), if_neg (by decide), if_pos hl]
theorem and_comm64 (a b : Int) : bits .and .u64 a b = bits .and .u64 b a := by
  show IntKind.u64.wrap ((BitVec.ofInt 64 a &&& BitVec.ofInt 64 b).toNat : Int) = IntKind.u64.wrap ((BitVec.ofInt 64 b &&& BitVec.ofInt 64 a).toNat : Int)
  rw [BitVec.and_comm]
theorem or_comm64 (a b : Int) : bits .or .u64 a b = bits .or .u64 b a := by
  show IntKind.u64.wrap ((BitVec.ofInt 64 a ||| BitVec.ofInt 64 b).toNat : Int) = IntKind.u64.wrap ((BitVec.ofInt 64 b ||| BitVec.ofInt 64 a).toNat : Int)
  rw [BitVec.or_comm]
theorem xor_comm64 (a b : Int) : bits .xor .u64 a b = bits .xor .u64 b a := by
  show IntKind.u64.wrap ((BitVec.ofInt 64 a ^^^ BitVec.ofInt 64 b).toNat : Int) = IntKind.u64.wrap ((BitVec.ofInt 64 b ^^^ BitVec.ofInt 64 a).toNat : Int)
  rw [BitVec.xor_comm]
end Go.Proofs.YtkkkbalefnileaaDoor.Ex
/- The reference's Parse; what every law asks beside: awake. -/
namespace Go.Proofs.YtkkkbalefnileaaDoor.Ex
open Go.RowKit Go.Proofs.YtkkkbalefnileaaDoorW.PrintWords Go.Proofs.YtkkkbalefnileaaDoorW.PrintLast Go.Proofs.YtkkkbalefnileaaDoorW.PrintMore Go.Proofs.YtkkkbalefnileaaDoor.T
set_option linter.unusedVariables false
set_option linter.unusedSimpArgs false

/-- The number of the digits from place i on, behind v. -/
def pv (s : ByteArray) : Nat → Nat → Int → Int
  | _, 0, v => v
  | i, n + 1, v => pv s (i + 1) n (v * 10 + (bt s (i : Int) - 48) % 256)
theorem Parse_loop (s : ByteArray) (hs : s.size ≤ 1000) (n : Nat) : ∀ (i : Nat) (v : Int), i + n = s.size → 0 ≤ v → v < W64 ^ (i + 1) → Ev (fun k => reckonerref02_Parse.l0 k s (can v) (i : Int)) (can (pv s i n v)) := by
  induction n with
  | zero =>
    intro i v hi h0 h1
    refine Ev.now' fun k => ?_
    rw [reckonerref02_Parse.l0, if_neg (by omega)]
    rfl
  | succ n IH =>
    intro i v hi h0 h1
    have e1 : wrap64 ((i : Int) + 1) = ((i + 1 : Nat) : Int) := by rw [← w64_nat (i + 1) (by omega)]; rfl
    have hd0 : 0 ≤ (bt s (i : Int) - 48) % 256 := Int.emod_nonneg _ (by decide)
    have hd1 : (bt s (i : Int) - 48) % 256 < 256 := Int.emod_lt_of_pos _ (by decide)
    have hdw : isW ((bt s (i : Int) - 48) % 256) := by unfold isW; rw [W64_eq]; omega
    have htw : isW 10 := by decide
    have hl := can_short h0 h1
    have r1 := RWord_ev 10 htw
    have r2 := RMul_ev (can v) (can 10) (can_in h0) (can_in (by decide)) (by omega) (by decide)
    rw [can_val h0, can_val (by decide)] at r2
    have r3 := RWord_ev _ hdw
    have hp := pow_posB W64_pos (i + 1)
    have hb : v * 10 + (bt s (i : Int) - 48) % 256 < W64 ^ (i + 1 + 1) := by
      rw [Int.pow_succ _ (i + 1)]
      have h2 : W64 ^ (i + 1) * 1000 ≤ W64 ^ (i + 1) * W64 := Int.mul_le_mul_of_nonneg_left (by decide) (Int.le_of_lt hp)
      omega
    have hm0 : 0 ≤ v * 10 := by omega
    have hm1 : v * 10 < W64 ^ (i + 1 + 1) := by omega
    have hml := can_short hm0 hm1
    have hwl : (can ((bt s (i : Int) - 48) % 256)).length ≤ 1 := can_short hd0 (by rw [Int.pow_succ, Int.pow_zero, Int.one_mul]; exact hdw.2)
    have r4 := RAdd_ev (can (v * 10)) (can ((bt s (i : Int) - 48) % 256)) (can_in hm0) (can_in hd0) (by omega) (by omega)
    rw [can_val hm0, can_val hd0] at r4
    have ih := IH (i + 1) (v * 10 + (bt s (i : Int) - 48) % 256) (by omega) (by omega) hb
    refine Ev.step (f := fun k => (reckonerref02_FromWord.f k 10).bind fun t => (reckonerref02_Mul.f k (can v) t).bind fun t2 => (reckonerref02_FromWord.f k ((bt s (i : Int) - 48) % 256)).bind fun t3 => (reckonerref02_Add.f k t2 t3).bind fun t4 => reckonerref02_Parse.l0 k s t4 ((i + 1 : Nat) : Int)) (fun k => ?_) (Ev.bind r1 (Ev.bind r2 (Ev.bind r3 (Ev.bind r4 ih))))
    show reckonerref02_Parse.l0 (k + 1) s (can v) (i : Int) = _
    rw [reckonerref02_Parse.l0, if_pos (by omega)]
    simp only [if_pos (show (0 : Int) ≤ (i : Int) by omega), e1]
theorem Parse_ev (s : ByteArray) (hs : s.size ≤ 1000) (v : Int) (h : pv s 0 s.size 0 = v) : Ev (fun k => reckonerref02_Parse.f k s) (can v) := by
  have h1 := Parse_loop s hs s.size 0 0 (by omega) (Int.le_refl 0) (by decide)
  rw [h] at h1
  exact h1
theorem aw1 : nat_Pow.f [10] 20 = some (can 100000000000000000000, 0) := by
  have e : valB W64 [10] ^ (20 : Int).toNat = 100000000000000000000 := by decide
  have hl : (can 100000000000000000000).length ≤ 4096 := Nat.le_trans (can_short (n := 2) (by decide) (by decide)) (by decide)
  unfold nat_Pow.f
  rw [if_pos (by decide), if_pos (by decide), if_neg (by decide), e]
  unfold fitV
  rw [if_pos hl]
theorem aw2 : nat_Square.f [18446744073709551615] = some (can 340282366920938463426481119284349108225, 0) := by
  have e : valB W64 [18446744073709551615] * valB W64 [18446744073709551615] = 340282366920938463426481119284349108225 := by decide
  have hl : (can 340282366920938463426481119284349108225).length ≤ 4096 := Nat.le_trans (can_short (n := 2) (by decide) (by decide)) (by decide)
  unfold nat_Square.f
  rw [if_pos (by decide), if_pos (by decide), e]
  unfold fitV
  rw [if_pos hl]
theorem aw3 : nat_DivMod.f [7766279631452241920, 5] [3] = some (can 33333333333333333333, can 1, 0) := by
  have e1 : valB W64 [7766279631452241920, 5] / valB W64 [3] = 33333333333333333333 := by decide
  have e2 : valB W64 [7766279631452241920, 5] % valB W64 [3] = 1 := by decide
  unfold nat_DivMod.f
  rw [if_pos (by decide), if_pos (by decide), if_neg (by decide), e1, e2]
theorem aw4 : nat_Sub.f [1] [2] = some ([], 8) := by
  unfold nat_Sub.f
  rw [if_pos (by decide), if_pos (by decide), if_pos (by decide)]
theorem awake_ev : Ev (fun k => reckonerlaw02_awake.f k) true := by
  have p1 := Parse_ev ⟨#[49, 48, 48, 48, 48, 48, 48, 48, 48, 48, 48, 48, 48, 48, 48, 48, 48, 48, 48, 48, 48]⟩ (by decide) 100000000000000000000 (by decide +kernel)
  have p2 := Parse_ev ⟨#[51, 51, 51, 51, 51, 51, 51, 51, 51, 51, 51, 51, 51, 51, 51, 51, 51, 51, 51, 51]⟩ (by decide) 33333333333333333333 (by decide +kernel)
  have l1 : (can 100000000000000000000).length ≤ 2 := can_short (by decide) (by decide)
  have l2 : (can 33333333333333333333).length ≤ 2 := can_short (by decide) (by decide)
  have i1 := RIs_ev (can 100000000000000000000) (can_in (by decide)) (by omega) (can_val (by decide))
  have i2 := RIs_ev (v := 340282366920938463426481119284349108225) [1, 18446744073709551614] (by decide) (by decide) (by decide)
  have i3 := RIs_ev (can 33333333333333333333) (can_in (by decide)) (by omega) (can_val (by decide))
  have i4 := RIs_ev (v := 1) [1] (by decide) (by decide) (by decide)
  refine Ev.congr (f := fun k => (reckonerref02_Parse.f k (⟨#[49, 48, 48, 48, 48, 48, 48, 48, 48, 48, 48, 48, 48, 48, 48, 48, 48, 48, 48, 48, 48]⟩ : ByteArray)).bind fun t280 => ((reckonerref02_Is.f k (can 100000000000000000000) t280).bind fun t283 => (if t283 = true then ((reckonerref02_Is.f k (can 340282366920938463426481119284349108225) (([1, 18446744073709551614] : List Int))).bind fun t287 => (if t287 = true then ((reckonerref02_Parse.f k (⟨#[51, 51, 51, 51, 51, 51, 51, 51, 51, 51, 51, 51, 51, 51, 51, 51, 51, 51, 51, 51]⟩ : ByteArray)).bind fun t288 => ((reckonerref02_Is.f k (can 33333333333333333333) t288).bind fun t291 => (if t291 = true then ((reckonerref02_Is.f k (can 1) (([1] : List Int))).bind fun t295 => (if t295 = true then (some ((8 : Int) == 8)) else (none))) else (none)))) else (none))) else (none)))) (fun k => ?_) (Ev.bind p1 (Ev.bind i1 ?_))
  · show reckonerlaw02_awake.f k = _
    unfold reckonerlaw02_awake.f
    rw [aw1, aw2, aw3, aw4]
    rfl
  · simp only [if_true]
    refine Ev.bind i2 ?_
    simp only [if_true]
    refine Ev.bind p2 (Ev.bind i3 ?_)
    simp only [if_true]
    refine Ev.bind i4 ?_
    simp only [if_true]
    exact Ev.now true
end Go.Proofs.YtkkkbalefnileaaDoor.Ex
/- NatBits: the plain law. -/
namespace Go.Proofs.YtkkkbalefnileaaDoor.Ex
open Go.RowKit Go.Proofs.YtkkkbalefnileaaDoorW.PrintWords Go.Proofs.YtkkkbalefnileaaDoorW.PrintLast Go.Proofs.YtkkkbalefnileaaDoorW.PrintMore Go.Proofs.YtkkkbalefnileaaDoor.T
set_option linter.unusedVariables false
set_option linter.unusedSimpArgs false

theorem setV_nonneg {v : Int} (h0 : 0 ≤ v) (n : Nat) (b : Bool) : 0 ≤ setV v n b := by
  have hp := pow_posB (B := 2) (by decide) n
  obtain ⟨s1, s0⟩ := setV_cases (v := v) (n := n)
  rcases bit_cases v n with h | h
  · obtain ⟨t1, t2⟩ := s0 h
    cases b
    · rw [t2]; exact h0
    · rw [t1]; omega
  · obtain ⟨t1, t2⟩ := s1 h
    have := bit_one_le h0 h
    cases b
    · rw [t2]; omega
    · rw [t1]; exact h0
theorem setV_short {x : List Int} (hx : inW x) (hl : x.length ≤ 40) (i : Nat) (hi : i < 262144) (b : Bool) : (can (setV (valB W64 x) i b)).length ≤ 4097 := by
  have v0 := valW_nonneg hx
  have hp := pow_posB (B := 2) (by decide) i
  have h1 := valB_lt W64_pos hx
  have h2 := pow_mono (B := W64) (by decide) (show x.length ≤ 4096 by omega)
  have h3 : (2 : Int) ^ i ≤ W64 ^ 4096 := by rw [pow2_W]; exact pow_mono (by decide) (by omega)
  have h4 : W64 ^ 4097 = W64 ^ 4096 * W64 := Int.pow_succ ..
  have h5 := pow_posB W64_pos 4096
  have h6 : W64 ^ 4096 * 2 ≤ W64 ^ 4096 * W64 := Int.mul_le_mul_of_nonneg_left (by decide) (Int.le_of_lt h5)
  have hle : setV (valB W64 x) i b ≤ valB W64 x + 2 ^ i := by
    obtain ⟨s1, s0⟩ := setV_cases (v := valB W64 x) (n := i)
    rcases bit_cases (valB W64 x) i with h | h
    · obtain ⟨t1, t2⟩ := s0 h
      cases b
      · rw [t2]; omega
      · rw [t1]; omega
    · obtain ⟨t1, t2⟩ := s1 h
      cases b
      · rw [t2]; omega
      · rw [t1]; omega
  have hn := setV_nonneg v0 i b
  refine can_short hn ?_
  rw [h4]
  generalize W64 ^ 4096 = P at *
  generalize W64 ^ x.length = Q at *
  generalize (2 : Int) ^ i = R at *
  generalize P * W64 = S at *
  clear h4
  omega
theorem Bits_round (a b : List Int) (i r : Int) (ha : inW a) (hla : a.length ≤ 40) (hi : i < 9223372036854775808) (hr : r < 2)
    (next : Ev (fun k => reckonerlaw02_NatBits.l0 k (wrap64 (Int.tmod (IntKind.u64.wrap i) 2600)) a b (wrap64 (r + 1))) true) : Ev (fun k => reckonerlaw02_NatBits.l0 k i a b r) true := by
  obtain ⟨t, b1, b2⟩ := Bit_same a i ha (by omega) hi
  have hne : ¬ (t != t) = true := by simp
  by_cases hs : 0 ≤ i ∧ i < 262144
  · obtain ⟨n, rfl⟩ := Int.eq_ofNat_of_zero_le hs.1
    have va := valW_nonneg ha
    have f1 : ∀ c, nat_SetBit.f a (n : Int) c = some (can (setV (valB W64 a) n c), 0) := fun c => by unfold nat_SetBit.f; rw [if_pos ha, if_pos (by omega), if_pos hs, Int.toNat_natCast]
    have r1 := fun c => RSetBit_ev a n c ha (by omega) (by omega)
    have i1 := fun c => RIs_ev (v := setV (valB W64 a) n c) (can (setV (valB W64 a) n c)) (can_in (setV_nonneg va n c)) (by have := setV_short ha hla n (by omega) c; omega) (can_val (setV_nonneg va n c))
    generalize setV (valB W64 a) n = g at *
    refine Ev.step (f := fun k => reckonerlaw02_NatBits.j1 k (n : Int) a b r (can (g true)) 0 (can (g false)) 0 false) (fun k => ?_) ?_
    · rw [reckonerlaw02_NatBits.l0, if_pos hr, f1, f1, Option.bind_some, Option.bind_some, b1, b2, Option.bind_some, Option.bind_some, if_neg hne, if_neg (by omega), decide_eq_false (by omega)]
    · refine Ev.step (f := fun k => (reckonerref02_SetBit.f k a (n : Int) true).bind fun t388 => ((reckonerref02_Is.f k (can (g true)) t388).bind fun t391 => (if t391 = true then ((reckonerref02_SetBit.f k a (n : Int) false).bind fun t392 => ((reckonerref02_Is.f k (can (g false)) t392).bind fun t395 => (if t395 = true then (reckonerlaw02_NatBits.l0 k (wrap64 (Int.tmod (IntKind.u64.wrap (n : Int)) 2600)) a b (wrap64 (r + 1))) else (none)))) else (none)))) (fun k => ?_) (Ev.bind (r1 true) (Ev.bind (i1 true) (Ev.congr (fun k => if_pos rfl) (Ev.bind (r1 false) (Ev.bind (i1 false) (Ev.congr (fun k => if_pos rfl) next))))))
      rw [reckonerlaw02_NatBits.j1, if_neg (by decide), if_pos rfl, if_pos rfl]
  · have f1 : ∀ c, nat_SetBit.f a i c = some ([], 1) := fun c => by unfold nat_SetBit.f; rw [if_pos ha, if_pos (by omega), if_neg hs]
    have e0 : wrap64 ((([] : List Int).length : Int) + (([] : List Int).length : Int)) = 0 := w64_nat 0 (by decide)
    refine Ev.step (f := fun k => reckonerlaw02_NatBits.j1 k i a b r [] 1 [] 1 true) (fun k => ?_) (Ev.step (fun k => ?_) next)
    · rw [reckonerlaw02_NatBits.l0, if_pos hr, f1, f1, Option.bind_some, Option.bind_some, b1, b2, Option.bind_some, Option.bind_some, if_neg hne]
      by_cases hn : i < 0
      · rw [if_pos hn]
      · rw [if_neg hn, decide_eq_true (by omega)]
    · rw [reckonerlaw02_NatBits.j1, if_pos rfl, if_pos rfl, if_pos rfl, if_pos e0]
theorem pureNatBits : reckonerlaw02_NatBits.Pure := by
  intro l0 l1 a2 _ h0 hw0 _ h1 hw1 hw2
  have f0 := few_some l0 40 (by omega)
  have f1 := few_some l1 40 (by omega)
  have ha := inW_take (inW_of_wf hw0) 40
  have hb := inW_take (inW_of_wf hw1) 40
  have hla : (l0.take 40).length ≤ 40 := by rw [List.length_take]; omega
  have hlb : (l1.take 40).length ≤ 40 := by rw [List.length_take]; omega
  generalize l0.take 40 = a at *
  generalize l1.take 40 = b at *
  rw [show ((40 : Nat) : Int) = 40 from rfl] at f0 f1
  have hi : a2 < 9223372036854775808 := by
    have h := hw2
    simp [Lit.wf, IntKind.wrap] at h
    omega
  have hi2 : wrap64 (Int.tmod (IntKind.u64.wrap a2) 2600) < 9223372036854775808 := by unfold wrap64; omega
  have e1 : wrap64 ((0 : Int) + 1) = 1 := w64_nat 1 (by decide)
  have e2 : wrap64 ((1 : Int) + 1) = 2 := w64_nat 2 (by decide)
  refine Ev.rounds (Ev.congr (f := fun k => reckonerlaw02_NatBits.l0 k a2 a b 0) (fun k => ?_) ?_)
  · show reckonerlaw02_NatBits.f k l0 l1 a2 = _
    unfold reckonerlaw02_NatBits.f
    rw [f0, f1, Option.bind_some, Option.bind_some]
  · refine Bits_round a b a2 0 ha hla hi (by decide) ?_
    rw [e1]
    refine Bits_round a b _ 1 ha hla hi2 (by decide) ?_
    rw [e2]
    have jn : ∀ (s : ByteArray) (op : BinOp) (how : Int), (how = 0 ∧ op = .and ∨ how = 1 ∧ op = .or ∨ how = 2 ∧ op = .xor) → (∀ x y, isW x → isW y → isW (bits op .u64 x y)) → (∀ x y, bits op .u64 x y = bits op .u64 y x) → nat_join.f a b s = some (can (valB W64 (joinR op a b)), 0) →
        ∃ z, nat_join.f a b s = some (can z, 0) ∧ Ev (fun k => reckonerref02_Joined.f k a b how) (can z) ∧ Ev (fun k => reckonerref02_Is.f k (can z) (can z)) true := by
      intro s op how hop hg hc hf
      have hJ := joinM_in (g := bits op .u64) hg ha hb
      have hl := joinM_len (bits op .u64) a b
      have v0 := valW_nonneg hJ
      have lc := can_le hJ
      rw [joinR_eq op hc] at hf
      refine ⟨_, hf, ?_, RIs_ev _ (can_in v0) (by omega) (can_val v0)⟩
      have h := RJoined_loop a b ha hb (by omega) (by omega) how op hop hg (max a.length b.length) 0 (by omega)
      exact h
    have jf : ∀ s, nat_join.f a b s = if s = andS then some (can (valB W64 (joinR .and a b)), 0) else if s = orS then some (can (valB W64 (joinR .or a b)), 0) else if s = xorS then some (can (valB W64 (joinR .xor a b)), 0) else none := fun s => by
      unfold nat_join.f
      rw [if_pos ⟨ha, hb⟩, if_pos ⟨by omega, by omega⟩]
    obtain ⟨z1, u1, u2, u3⟩ := jn andS .and 0 (Or.inl ⟨rfl, rfl⟩) bits_in_and and_comm64 (by rw [jf, if_pos rfl])
    obtain ⟨z2, v1, v2, v3⟩ := jn orS .or 1 (Or.inr (Or.inl ⟨rfl, rfl⟩)) bits_in_or or_comm64 (by rw [jf, if_neg (by decide), if_pos rfl])
    obtain ⟨z3, w1, w2, w3⟩ := jn xorS .xor 2 (Or.inr (Or.inr ⟨rfl, rfl⟩)) bits_in_xor xor_comm64 (by rw [jf, if_neg (by decide), if_neg (by decide), if_pos rfl])
    have a1 : nat_And.f a b = some (can z1, 0) := by unfold nat_And.f; rw [u1, Option.bind_some]
    have a2 : nat_Or.f a b = some (can z2, 0) := by unfold nat_Or.f; rw [v1, Option.bind_some]
    have a3 : nat_Xor.f a b = some (can z3, 0) := by unfold nat_Xor.f; rw [w1, Option.bind_some]
    refine Ev.step (f := fun k => (reckonerref02_Joined.f k a b 0).bind fun t408 => ((reckonerref02_Is.f k (can z1) t408).bind fun t411 => (if t411 = true then ((reckonerref02_Joined.f k a b 1).bind fun t412 => ((reckonerref02_Is.f k (can z2) t412).bind fun t415 => (if t415 = true then ((reckonerref02_Joined.f k a b 2).bind fun t416 => ((reckonerref02_Is.f k (can z3) t416).bind fun t419 => (if t419 = true then ((reckonerlaw02_awake.f k).bind fun t420 => (some t420)) else (none)))) else (none)))) else (none)))) (fun k => ?_) (Ev.bind u2 (Ev.bind u3 (Ev.congr (fun k => if_pos rfl) (Ev.bind v2 (Ev.bind v3 (Ev.congr (fun k => if_pos rfl) (Ev.bind w2 (Ev.bind w3 (Ev.congr (fun k => if_pos rfl) (Ev.bind awake_ev (Ev.now true)))))))))))
    rw [reckonerlaw02_NatBits.l0, if_neg (by decide), a1, a2, a3, Option.bind_some, Option.bind_some, Option.bind_some, if_pos rfl, if_pos rfl, if_pos rfl]
end Go.Proofs.YtkkkbalefnileaaDoor.Ex
/- The laid map of the ways to join, out of a row's condition. -/
namespace Go.Proofs.YtkkkbalefnileaaDoor.Ex
open Go.RowKit Go.WideMaps Go.WideElems
set_option linter.unusedVariables false
set_option linter.unusedSimpArgs false

theorem gJ : Tryd.prog.globalNamed "reckoner/nat.joins" = some 0 := by kernel_rfl
theorem tJ : (Tryd.prog.globals[0]?).map (·.type) = some 88 := by kernel_rfl
theorem uJ : Tryd.prog.underlying 88 = some (.map 9 87) := by kernel_rfl
theorem uJs : Tryd.prog.underlying 9 = some .string := by kernel_rfl
theorem uJf : Tryd.prog.underlying 87 = some (.func #[36, 36] #[36] false) := by kernel_rfl
theorem elemAt_func {P : Program} {W : World} {sp : Nat → Bool} {n : Nat} {t : TypeId} {ps rs : Array TypeId} {va : Bool} {v : Value} {b : UInt8} {r : List UInt8} {q : List MemPlace} {f0 : FuncId}
    (ht : P.underlying t = some (.func ps rs va)) (hone : ((List.range P.funcs.size).filter fun f => (P.funcs[f]?).any (·.name.toUTF8.data.toList == b :: r)) = [f0])
    (h : elemAt (funcToken P) P W 0 sp true n t v = some (.held (b :: r), q)) : v = .func (.func f0) #[] #[] := by
  unfold elemAt at h
  split at h
  · rename_i hf
    refine func_of_trod (w := W) (base := 0) (sp := sp) (fuel := n) (q := q) ht hone ?_
    cases v <;> first | exact h | (unfold Value.formed at hf; rw [ht] at hf; cases hf)
  · cases h
theorem look_of {W : World} {es : Array MapEntry} {clock bm m : Nat} {d : DataW (List UInt8)} (hb : W.heap[bm]? = some (.map es clock))
    (F : Fit Tryd.prog 9 (elemAt (funcToken Tryd.prog) Tryd.prog W 0 (fun _ => true) true m 87) es clock)
    (hx : d = .map ((es.toList.map (rg Tryd.prog 9 (elemAt (funcToken Tryd.prog) Tryd.prog W 0 (fun _ => true) true m 87))).foldr DataW.insert []))
    (s : ByteArray) (f0 : FuncId) (b : UInt8) (r : List UInt8) (hs : s.size ≤ maxLen) (hone : ((List.range Tryd.prog.funcs.size).filter fun f => (Tryd.prog.funcs[f]?).any (·.name.toUTF8.data.toList == b :: r)) = [f0])
    (hd : d.atKey (.string s.data.toList) .nil = .held (b :: r)) : LookJ W bm s f0 := by
  intro w' hB
  have hb' : w'.heap[bm]? = some (.map es clock) := by
    rw [← hb]
    exact hB.block bm (Array.getElem?_eq_some_iff.1 hb).1
  have hz : (zeroValue 87).run Tryd.prog w' = .ok .nilFunc w' := by kernel_rfl
  rcases fit_lookup (w := w') (string_law uJs) uJ hz hb' F (keyOf_string_mk (s := s) uJs hs) with ⟨_, hat⟩ | ⟨v, y, hrun, hRv, hat, _⟩
  · have h1 := hat .nil
    rw [← hx, hd] at h1
    cases h1
  · have h1 := hat .nil
    rw [← hx, hd] at h1
    obtain ⟨y1, y2⟩ := y
    cases h1
    rw [elemAt_func uJf hone hRv] at hrun
    exact hrun
set_option maxRecDepth 100000 in
theorem laidJ_of {W : World} {l : List (String × DataW Unit)} (h : laidMetH Tryd.prog l W) (hm : ("reckoner/nat.joins", Rows.laid_reckoner_nat_joins) ∈ l) : LaidJ W := by
  obtain ⟨g, t, cs, fuel, p, hg, ht, hv, hd⟩ := h.funcs hm
  obtain rfl := Option.some.inj (gJ.symm.trans hg)
  obtain rfl := Option.some.inj (tJ.symm.trans ht)
  rcases open_map uJ hd with ⟨_, hx⟩ | ⟨bm, es, clock, m, rfl, hcs, hb, _, F, hx⟩
  · exact absurd (congrArg Prod.fst hx) (by intro e; cases e)
  · have hx1 := congrArg Prod.fst hx
    refine ⟨bm, ?_, look_of hb F hx1 andS _ 114 [101, 99, 107, 111, 110, 101, 114, 47, 110, 97, 116, 46, 106, 111, 105, 110, 115, 36, 49] (by decide) (by kernel_rfl) rfl, look_of hb F hx1 orS _ 114 [101, 99, 107, 111, 110, 101, 114, 47, 110, 97, 116, 46, 106, 111, 105, 110, 115, 36, 50] (by decide) (by kernel_rfl) rfl, look_of hb F hx1 xorS _ 114 [101, 99, 107, 111, 110, 101, 114, 47, 110, 97, 116, 46, 106, 111, 105, 110, 115, 36, 51] (by decide) (by kernel_rfl) rfl⟩
    have := World.var?_cell hg hv 0
    rw [Array.eq_one_of_toList hcs] at this
    simpa using this
end Go.Proofs.YtkkkbalefnileaaDoor.Ex
-- PRINTED BY print.sh 35421559b90ae4d0a3588c463048766b98c2df88dd9212a6774a882060cdf62d: not written by this session
-- PRINTED WORDS (module Derived/Print/Sized.lean): go-gate-2's, for the rows of laws over slices: an AI agent of Go's test side, Tue Nov 17 2026; no person has read it. Lean checks it.
namespace Go.Proofs.YtkkkbalefnileaaDoorW.PrintWords
open Go.ChangeShapes Go.WideShapes
/-- A row's slice of whole numbers is no longer than its weight allows. -/
theorem sized_ints {H : Type} {enc : TypeId × Value → H} {P : Program} {W : World} {base : Nat} {spare : Nat → Bool} {held : Bool} {t e : TypeId} {k : IntKind} {a : Option Addr} {len cap : Nat} {d : DataW H} {ps : List MemPlace} {ts : List TypeId} {ds : List (DataW H)} {j : Nat}
    (hsz : (DataW.weightsEach P ts ds).all (· ≤ reachBytes) = true) (ht : ts[j]? = some t) (hd : ds[j]? = some d) (hu : P.underlying t = some (.slice e)) (he : P.underlying e = some (.int k)) (hc : P.cellsOf e = 1) {B : Nat} (hB : P.bytesOf e = B)
    (h : DataW.Trod enc P W base spare held t (.slice a len cap) d ps) : len * B ≤ 140737488351232 := by
  obtain ⟨fuel, hf⟩ := h
  rcases open_ints hu he hc hf with ⟨hcs, _⟩ | ⟨x, l, c, zs, hcs, _, hl, _, hz, hx, _, _⟩
  · simp [Value.cells] at hcs
    obtain ⟨rfl, rfl, rfl⟩ := hcs
    simp
  · simp [Value.cells] at hcs
    obtain ⟨rfl, rfl, rfl⟩ := hcs
    obtain ⟨hx, _⟩ := Prod.mk.inj hx
    subst hx
    have z := sized_slice hsz ht hd hu
    rw [hB] at z
    have hl2 : len ≤ zs.length := by
      rw [hz]
      split
      · exact hl
      · exact Nat.le_refl _
    have h1 : (lits (H := H) k (zs.take len)).length + (lits (H := H) k (zs.drop len)).length = zs.length := by
      simp [lits]
      omega
    rw [h1] at z
    exact Nat.le_trans (Nat.mul_le_mul_right _ hl2) z
end Go.Proofs.YtkkkbalefnileaaDoorW.PrintWords
-- PRINTED by print.py: the row of the law reckonerlaw02_NatBits, out of its Pure (the session's) and the printed walk. Not trusted: Lean checks it.
namespace Go.Proofs.YtkkkbalefnileaaDoor.natBits
open Go.Proofs.YtkkkbalefnileaaDoor.Ex
open Go.ChangeShapes Go.WideShapes Go.ChangeAt Go.RowKit
open Go.ChangeMaps (open_string shut_string)
set_option linter.unusedVariables false
theorem own : ownKnob Tryd.prog.godebug = none := by kernel_rfl
theorem laidOut : laidOutB Tryd.prog = true := by kernel_rfl
def IsRow (k : IntKind) (w : World) (a : Option Addr) (len cap : Nat) (zs : List Int) : Prop :=
  (a = none ∧ len = 0 ∧ cap = 0 ∧ zs = []) ∨
  ∃ x, a = some x ∧ len ≤ cap ∧ cap ≤ maxLen ∧ zs.length = cap ∧ (∀ i, i < zs.length → w.cell? (x.add i) = some (.int k (zs.getD i 0))) ∧ ∀ n ∈ zs, (Lit.int k n).wf = true
/-- A world in which the map lies as its initialiser lays it: the heap that the door's own run leaves. -/
noncomputable def laidWorld (os : Os) : World := World.doorLaid Tryd.prog 34 os
theorem laid_met (os : Os) (args : Array Value) : laidMetH Tryd.prog Rows.natBitsRow.laid ((laidWorld os).forCall (fun _ _ => 0) ⟨#[], args, []⟩).memory :=
  laidMetH_of_parts3 (fuel := 8) (laidMet_of_run' 8 (by kernel_rfl) (by kernel_rfl)) (by kernel_rfl) (by kernel_rfl)
theorem witness_row (os : Os) {H : Type} (enc : TypeId × Value → H) :
    (OpenSpec.ofChange Rows.natBitsSpec).preRow enc Tryd.prog Tryd.f3 Rows.natBitsRow.domain false Rows.natBitsRow.laid ((laidWorld os).forCall (fun _ _ => 0) ⟨#[], #[.slice none 0 0, .slice none 0 0, .int .i64 0], []⟩).memory #[.slice none 0 0, .slice none 0 0, .int .i64 0] := by
  have hw : (DataW.whole enc Tryd.prog ((laidWorld os).forCall (fun _ _ => 0) ⟨#[], #[.slice none 0 0, .slice none 0 0, .int .i64 0], []⟩).memory Tryd.f3.params.toList (OpenSpec.ofChange Rows.natBitsSpec).vars false (#[.slice none 0 0, .slice none 0 0, .int .i64 0] : Array Value).toList 8).map (fun x => (x.1, x.2.1)) =
      some ([.nil, .nil, .lit (.int .i64 0)], []) := by kernel_rfl
  obtain ⟨⟨x1, x2, x3⟩, hx, hx1⟩ := Option.map_eq_some_iff.1 hw
  simp only [Prod.mk.injEq] at hx1
  obtain ⟨rfl, rfl⟩ := hx1
  exact OpenSpec.preRow_of_cond 8 hx (by kernel_rfl) (fun k hk => by cases hk) (by kernel_rfl) (laid_met os _)
set_option maxRecDepth 100000 in
theorem lifted (os : Os) (started : os.Started) (H : Type) (enc : TypeId × Value → H) (F : Stop.Interp) :
    ReturnsInHanded {} Tryd.checked os 3 .any ((OpenSpec.ofChange Rows.natBitsSpec).preRow enc Tryd.prog Tryd.f3 Rows.natBitsRow.domain false Rows.natBitsRow.laid) (((OpenSpec.ofChange Rows.natBitsSpec).at F).post enc Tryd.prog Tryd.f3 false true false false) := by
  refine returnsInHanded_of_row (C := Tryd.checked) (s := OpenSpec.ofChange Rows.natBitsSpec) own started (by kernel_rfl) Tryd.func3
    (witness_row_atRef (enc := enc) (C := Tryd.checked) false (laidWorld os) #[.slice none 0 0, .slice none 0 0, .int .i64 0] rfl (by kernel_rfl) (by kernel_rfl) (by kernel_rfl) (witness_row os enc)) ?_
  intro W base args ds gs before hval0 hW hcnd _ hsz0 hL _ _
  have hg : LaidJ W := laidJ_of hL (List.mem_cons_self ..)
  have hsz : (DataW.weightsEach Tryd.prog (Tryd.f3.params.toList ++ (OpenSpec.ofChange Rows.natBitsSpec).bare.plain.varTypes Tryd.prog) (ds ++ gs)).all (· ≤ reachBytes) = true := hsz0
  have hval : ∀ (j : Nat) t v, Tryd.f3.params[j]? = some t → args[j]? = some v → Value.okWide Tryd.prog W .any base t v := hval0
  have hW' := hW
  obtain ⟨p, q, hA0, hV, rfl, hfz, hnd⟩ := hW
  have hA : DataW.TrodAll enc Tryd.prog W 0 (fun _ => true) true Tryd.f3.params.toList args.toList ds p := hA0
  rw [Tryd.params3] at hA hval hsz
  obtain ⟨v0, vs0, d0, ds0, p0, q0, hargs, rfl, rfl, h0, r0⟩ := trodAll_cons hA
  obtain ⟨v1, vs1, d1, ds1, p1, q1, rfl, rfl, rfl, h1, r1⟩ := trodAll_cons r0
  obtain ⟨v2, vs2, d2, ds2, p2, q2, rfl, rfl, rfl, h2, r2⟩ := trodAll_cons r1
  obtain ⟨rfl, rfl, rfl⟩ := trodAll_nil r2
  obtain rfl : args = #[v0, v1, v2] := by cases args; simp_all
  obtain ⟨rfl, rfl⟩ := trodVars_none hV
  obtain ⟨a0, len0, cap0, rfl⟩ := okWide_slice Tryd.underlying23 (hval 0 23 v0 rfl rfl)
  have k0 := h0
  have lt0 : ∀ x ∈ p0, x.block < W.heap.size := by obtain ⟨m, hm⟩ := k0; exact DataW.trod_lt m _ _ _ hm
  obtain ⟨z0, w0⟩ : ∃ zs, IsRow .u64 W a0 len0 cap0 zs := by
    obtain ⟨fuel, hf⟩ := h0
    rcases open_ints Tryd.underlying23 Tryd.underlying36 (by kernel_rfl) hf with ⟨hcs, _⟩ | ⟨x, l, c, zs, hcs, _, hl, hm, hz, _, hcell, hwz⟩
    · simp [Value.cells] at hcs
      obtain ⟨rfl, rfl, rfl⟩ := hcs
      exact ⟨[], .inl ⟨rfl, rfl, rfl, rfl⟩⟩
    · simp [Value.cells] at hcs
      obtain ⟨rfl, rfl, rfl⟩ := hcs
      exact ⟨zs, .inr ⟨_, rfl, hl, hm, by simpa using hz, hcell, hwz⟩⟩
  have y0 : len0 * 8 ≤ 140737488351232 := Go.Proofs.YtkkkbalefnileaaDoorW.PrintWords.sized_ints hsz (j := 0) (t := 23) rfl rfl Tryd.underlying23 Tryd.underlying36 (by kernel_rfl) (by kernel_rfl) h0
  obtain ⟨a1, len1, cap1, rfl⟩ := okWide_slice Tryd.underlying23 (hval 1 23 v1 rfl rfl)
  have k1 := h1
  have lt1 : ∀ x ∈ p1, x.block < W.heap.size := by obtain ⟨m, hm⟩ := k1; exact DataW.trod_lt m _ _ _ hm
  obtain ⟨z1, w1⟩ : ∃ zs, IsRow .u64 W a1 len1 cap1 zs := by
    obtain ⟨fuel, hf⟩ := h1
    rcases open_ints Tryd.underlying23 Tryd.underlying36 (by kernel_rfl) hf with ⟨hcs, _⟩ | ⟨x, l, c, zs, hcs, _, hl, hm, hz, _, hcell, hwz⟩
    · simp [Value.cells] at hcs
      obtain ⟨rfl, rfl, rfl⟩ := hcs
      exact ⟨[], .inl ⟨rfl, rfl, rfl, rfl⟩⟩
    · simp [Value.cells] at hcs
      obtain ⟨rfl, rfl, rfl⟩ := hcs
      exact ⟨zs, .inr ⟨_, rfl, hl, hm, by simpa using hz, hcell, hwz⟩⟩
  have y1 : len1 * 8 ≤ 140737488351232 := Go.Proofs.YtkkkbalefnileaaDoorW.PrintWords.sized_ints hsz (j := 1) (t := 23) rfl rfl Tryd.underlying23 Tryd.underlying36 (by kernel_rfl) (by kernel_rfl) h1
  obtain ⟨a2, rfl, rfl, rfl, w2⟩ := open_int Tryd.underlying3 (hval 2 3 v2 rfl rfl) h2
  clear hA0 hval0 hsz0 hsz
  refine (T.reckonerlaw02_NatBits.walk pureNatBits a0 len0 cap0 z0 a1 len1 cap1 z1 a2 W w0 y0 w1 y1 w2 hg).mono fun e W' ⟨he, bel⟩ => ?_
  subst he
  exact ⟨_, rfl, _, _, _, [], _, [], hW', trodAll_mk1 (shut_bool Tryd.underlying4 _), (trodAll_cons_mk (Below.trod laidOut (by kernel_rfl) (of_decide_eq_true (by kernel_rfl)) k0 bel lt0) (trodAll_cons_mk (Below.trod laidOut (by kernel_rfl) (of_decide_eq_true (by kernel_rfl)) k1 bel lt1) (trodAll_cons_mk (shut_int Tryd.underlying3 w2) trodAll_mk0))), rfl, bel.frame _, fun h => by cases h⟩
theorem over : Rows.natBitsRow.holds Tryd.pinned (OpenSpec.ofChange Rows.natBitsSpec) :=
  OpenClaim.holds_of_cond 3 Tryd.f3 rfl rfl rfl rfl rfl rfl rfl ⟨rfl, rfl, rfl, rfl, rfl⟩ rfl rfl rfl rfl rfl (by kernel_rfl) Tryd.func3 (by kernel_rfl)
    (of_decide_eq_true (by kernel_rfl)) (by unfold Func.isWrapper; first | (rw [if_pos (by decide +kernel)]; kernel_rfl) | (rw [if_neg (by decide +kernel)]; exact ⟨rfl, rfl⟩))
    (fun os started H enc _ F0 => by rw [OpenClaim.pre_eq_preRow]; exact lifted os started H enc F0)
theorem proved : Rows.NatBitsSaid := over
end Go.Proofs.YtkkkbalefnileaaDoor.natBits
namespace Go.Proofs.YtkkkbalefnileaaDoor
/-- The row, under a short name, for the claim. -/
theorem natBits_holds : Rows.NatBitsSaid := natBits.proved
/-- THE TIED CARD. -/
theorem natBitsCard_holds : Rows.NatBitsCardSaid :=
  Claim7.holds_tied_plain_at .later [] [.funcs] true (true, "36986857b704cc5859705dd873ca777faef389e418bc52f4b429b1ff2dc10ece") false
    natBits_holds (fun _ h => by cases h) (by kernel_rfl) (fun _ h => by cases h) natBits_row_tie rfl ⟨rfl, rfl⟩ (by kernel_rfl) rfl
    (fun f fn hf hfn => by
      obtain rfl : f = 3 := Option.some.inj ((show Tryd.prog.funcNamed Rows.natBitsRow.func = some 3 by kernel_rfl).symm.trans hf) |>.symm
      obtain rfl : fn = Tryd.f3 := (Option.some.inj (Tryd.func3.symm.trans hfn)).symm
      exact ⟨by kernel_rfl, fun j t ht => by
        rw [Tryd.params3] at ht
        have h3 : Tryd.prog.wantsStandIn t = false := by
          rcases j with (_ | (_ | (_ | j)))
          · obtain rfl := Option.some.inj ht.symm
            kernel_rfl
          · obtain rfl := Option.some.inj ht.symm
            kernel_rfl
          · obtain rfl := Option.some.inj ht.symm
            kernel_rfl
          · simp at ht
        exact h3⟩)
    (by kernel_rfl)
end Go.Proofs.YtkkkbalefnileaaDoor
