/- x (Part 6 of 6.) -/
import Derived.Lib.BitFns
import Derived.Lib.TrailingZeros
import Derived.Shelf.Spec.TrailingZeros
import Derived.SizedLaws
import Derived.ChangeSlices
import Derived.Test.YtkkkbalefnileaaRows
import Derived.WalkKit
import Derived.ProofKit
import Derived.OpenShut
import Derived.ShutString
import Derived.ChangeOld
import Derived.Below
import Derived.Test.YtkkkbalefnileaaMNatDivides4
-- PRINTED by print.py (a twelfth state) out of the translation. Not trusted: Lean checks it.
namespace Go.Proofs.Ytkkkbalefnileaa.T
open Go.RowKit Go.Proofs.YtkkkbalefnileaaW.PrintWords Go.Proofs.YtkkkbalefnileaaW.PrintLast Go.Proofs.YtkkkbalefnileaaW.PrintMore
attribute [local go_sem] max2_int min2_int max_two min_two max_three min_three max_four min_four   -- for this text's walks alone
open Ytkkkbalefnileaa.Ex
set_option linter.unusedVariables false
set_option linter.unusedSimpArgs false

/-! ### reckonerref02_DivMod: function 19 -/
def reckonerref02_DivMod.f (k : Nat) (l0 : List Int) (l1 : List Int) : Option (List Int × List Int) := (reckonerref01_Digits.f k l0).bind fun t389 => ((reckonerref01_Digits.f k l1).bind fun t392 => ((reckonerref01_Divide.f k t389 t392).bind fun bt395 => ((reckonerref02_nat.f k bt395.1).bind fun t401 => ((reckonerref02_nat.f k bt395.2).bind fun t404 => (some (t401, t404))))))
set_option maxHeartbeats 8000000 in
set_option maxRecDepth 100000 in
theorem reckonerref02_DivMod.calls (k : Nat) (A0 : Option Addr) (c0 : Nat) (l0 : List Int) (A1 : Option Addr) (c1 : Nat) (l1 : List Int) (r1 : List Int) (r2 : List Int) (w : World) (hr0 : Kd.C (Kd.int .u64) w A0 l0.length l0) (hc0 : l0.length ≤ c0) (hr1 : Kd.C (Kd.int .u64) w A1 l1.length l1) (hc1 : l1.length ≤ c1) (h : reckonerref02_DivMod.f k l0 l1 = some (r1, r2)) :
  Calls Try.prog 19 #[.slice A0 l0.length c0, .slice A1 l1.length c1] w fun e w' => ∃ v0_ v1_ : Value, e = .returned (.tuple #[v0_, v1_]) ∧ Kd.R (Kd.int .u64) 33 w' w.heap.size (fun k_ => some k_ ≠ (v1_ : Value).ownBlock) v0_ r1 ∧ Kd.R (Kd.int .u64) 33 w' w.heap.size (fun k_ => some k_ ≠ (v0_ : Value).ownBlock) v1_ r2 ∧ Below w.heap.size w w' := by
 have HR0 := Aside0.mk hr0
 have HC0 := Aside0.mk hc0
 clear hr0 hc0
 have HR1 := Aside0.mk hr1
 have HC1 := Aside0.mk hc1
 clear hr1 hc1
 have HB := Aside0.mk (Below.refl w.heap.size w)
 have H : ((reckonerref01_Digits.f k l0).bind fun t389 => ((reckonerref01_Digits.f k l1).bind fun t392 => ((reckonerref01_Divide.f k t389 t392).bind fun bt395 => ((reckonerref02_nat.f k bt395.1).bind fun t401 => ((reckonerref02_nat.f k bt395.2).bind fun t404 => (some (t401, t404))))))) = some (r1, r2) := h
 clear h
 replace H := Option.bind_eq_some_iff.mp H
 obtain ⟨t389, A30, H⟩ := H
 replace H : ((reckonerref01_Digits.f k l1).bind fun t392 => ((reckonerref01_Divide.f k t389 t392).bind fun bt395 => ((reckonerref02_nat.f k bt395.1).bind fun t401 => ((reckonerref02_nat.f k bt395.2).bind fun t404 => (some (t401, t404)))))) = some (r1, r2) := H
 have A3 := Aside0.mk A30
 clear A30
 replace H := Option.bind_eq_some_iff.mp H
 obtain ⟨t392, A40, H⟩ := H
 replace H : ((reckonerref01_Divide.f k t389 t392).bind fun bt395 => ((reckonerref02_nat.f k bt395.1).bind fun t401 => ((reckonerref02_nat.f k bt395.2).bind fun t404 => (some (t401, t404))))) = some (r1, r2) := H
 have A4 := Aside0.mk A40
 clear A40
 replace H := Option.bind_eq_some_iff.mp H
 obtain ⟨⟨t395, t396⟩, A50, H⟩ := H
 replace H : ((reckonerref02_nat.f k t395).bind fun t401 => ((reckonerref02_nat.f k t396).bind fun t404 => (some (t401, t404)))) = some (r1, r2) := H
 have A5 := Aside0.mk A50
 clear A50
 replace H := Option.bind_eq_some_iff.mp H
 obtain ⟨t401, A60, H⟩ := H
 replace H : ((reckonerref02_nat.f k t396).bind fun t404 => (some (t401, t404))) = some (r1, r2) := H
 have A6 := Aside0.mk A60
 clear A60
 replace H := Option.bind_eq_some_iff.mp H
 obtain ⟨t404, A70, H⟩ := H
 replace H : (some (t401, t404)) = some (r1, r2) := H
 have A7 := Aside0.mk A70
 clear A70
 simp only [Option.some.injEq, Prod.mk.injEq] at H
 obtain ⟨rfl, rfl⟩ := H
 go_enter Try.func19, Try.ntmps19
 go_wp2_with (first | ((with_reducible refine gate_callee (f := 57) rfl ?_); refine goesL_ (some 10) rfl rfl Try.func57 (by kernel_rfl) rfl #[.slice A0 l0.length c0] rfl (by (try simp only [List.map_toArray, List.map_cons, List.map_nil]); first | done | rfl | (simp only [List.length_drop, List.length_take]; rfl)) ?_; (with_reducible refine (reckonerref01_Digits.calls k _ _ l0 t389 _ ?side1 ?side2 A3.out).mono ?_); (case side1 => repeat (first | exact HR0.out | (with_reducible refine Kd.C_alloc ?_ _) | (with_reducible refine Kd.C_drewN ?_ _) | (with_reducible refine Kd.C_drew ?_))); (case side2 => exact HC0.out); rintro e w8 ⟨v390, rfl, ho0, hb⟩; refine ⟨_, rfl, ?_⟩; have n0_ := Aside0.mk (Kd.R_lower ho0 (below_size (by repeat (first | (with_reducible first | exact HB.out | apply below_alloc | apply pw_below_drewN | apply below_drew1) | exact HB.out)))); have n1_ := Aside0.mk (below_step (by repeat (first | (with_reducible first | exact HB.out | apply below_alloc | apply pw_below_drewN | apply below_drew1) | exact HB.out)) hb); clear HB; have HO391 := n0_; have HB := n1_; clear n0_ n1_; (try clear hb); (try clear hb2); (try clear hk); (try clear hi); (try clear ho0)) | ((with_reducible refine gate_callee (f := 57) rfl ?_); refine goesL_ (some 12) rfl rfl Try.func57 (by kernel_rfl) rfl #[.slice A1 l1.length c1] rfl (by (try simp only [List.map_toArray, List.map_cons, List.map_nil]); first | done | rfl | (simp only [List.length_drop, List.length_take]; rfl)) ?_; (with_reducible refine (reckonerref01_Digits.calls k _ _ l1 t392 _ ?side1 ?side2 A4.out).mono ?_); (case side1 => repeat (first | exact (Kd.C_below HR1.out HB.out) | (with_reducible refine Kd.C_alloc ?_ _) | (with_reducible refine Kd.C_drewN ?_ _) | (with_reducible refine Kd.C_drew ?_))); (case side2 => exact HC1.out); rintro e w9 ⟨v393, rfl, ho0, hb⟩; refine ⟨_, rfl, ?_⟩; have n0_ := Aside0.mk (Kd.R_elder' (by (with_reducible repeat (first | apply Kd.R_alloc | apply Kd.R_drewN | apply Kd.R_drew)); exact HO391.out) (Kd.R_base ho0) hb); have n1_ := Aside0.mk (Kd.R_lower (Kd.R_new' ho0 (Kd.R_lt (by (with_reducible repeat (first | apply Kd.R_alloc | apply Kd.R_drewN | apply Kd.R_drew)); exact HO391.out))) (below_size (by repeat (first | (with_reducible first | exact HB.out | apply below_alloc | apply pw_below_drewN | apply below_drew1) | exact HB.out)))); have n2_ := Aside0.mk (below_step (by repeat (first | (with_reducible first | exact HB.out | apply below_alloc | apply pw_below_drewN | apply below_drew1) | exact HB.out)) hb); clear HO391; clear HB; have HO391 := n0_; have HO394 := n1_; have HB := n2_; clear n0_ n1_ n2_; (try clear hb); (try clear hb2); (try clear hk); (try clear hi); (try clear ho0); obtain ⟨Ao10, co10, eo10⟩ := Kd.R_slice HO391.out; subst eo10; obtain ⟨Ao11, co11, eo11⟩ := Kd.R_slice HO394.out; subst eo11) | ((with_reducible refine gate_callee (f := 56) rfl ?_); refine goesL_ (some 13) rfl rfl Try.func56 (by kernel_rfl) rfl #[.slice Ao10 t389.length co10, .slice Ao11 t392.length co11] rfl (by (try simp only [List.map_toArray, List.map_cons, List.map_nil]); first | done | rfl | (simp only [List.length_drop, List.length_take]; rfl)) ?_; (with_reducible refine (reckonerref01_Divide.calls k _ _ t389 _ _ t392 t395 t396 _ ?side1 ?side2 ?side3 ?side4 A5.out).mono ?_); (case side1 => repeat (first | exact (Kd.R_reads' HO391.out).2.2 | (with_reducible refine Kd.C_alloc ?_ _) | (with_reducible refine Kd.C_drewN ?_ _) | (with_reducible refine Kd.C_drew ?_))); (case side2 => exact (Kd.R_reads' HO391.out).2.1); (case side3 => repeat (first | exact (Kd.R_reads' HO394.out).2.2 | (with_reducible refine Kd.C_alloc ?_ _) | (with_reducible refine Kd.C_drewN ?_ _) | (with_reducible refine Kd.C_drew ?_))); (case side4 => exact (Kd.R_reads' HO394.out).2.1); rintro e w12 ⟨v397, v399, rfl, ho0, ho1, hb⟩; refine ⟨_, rfl, ?_⟩; have n0_ := Aside0.mk (Kd.R_mono (Kd.R_told (Kd.R_told (Kd.R_old (by (with_reducible repeat (first | apply Kd.R_alloc | apply Kd.R_drewN | apply Kd.R_drew)); exact HO391.out) hb) (Kd.R_base ho0)) (Kd.R_base ho1)) (fun _ h_ => h_.1)); have n1_ := Aside0.mk (Kd.R_mono (Kd.R_told (Kd.R_told (Kd.R_old (by (with_reducible repeat (first | apply Kd.R_alloc | apply Kd.R_drewN | apply Kd.R_drew)); exact HO394.out) hb) (Kd.R_base ho0)) (Kd.R_base ho1)) (fun _ h_ => h_.1)); have n2_ := Aside0.mk (Kd.R_lower (Kd.R_new' (Kd.R_new' ho0 (Kd.R_lt (by (with_reducible repeat (first | apply Kd.R_alloc | apply Kd.R_drewN | apply Kd.R_drew)); exact HO391.out))) (Kd.R_lt (by (with_reducible repeat (first | apply Kd.R_alloc | apply Kd.R_drewN | apply Kd.R_drew)); exact HO394.out))) (below_size (by repeat (first | (with_reducible first | exact HB.out | apply below_alloc | apply pw_below_drewN | apply below_drew1) | exact HB.out)))); have n3_ := Aside0.mk (Kd.R_lower (Kd.R_new' (Kd.R_new' ho1 (Kd.R_lt (by (with_reducible repeat (first | apply Kd.R_alloc | apply Kd.R_drewN | apply Kd.R_drew)); exact HO391.out))) (Kd.R_lt (by (with_reducible repeat (first | apply Kd.R_alloc | apply Kd.R_drewN | apply Kd.R_drew)); exact HO394.out))) (below_size (by repeat (first | (with_reducible first | exact HB.out | apply below_alloc | apply pw_below_drewN | apply below_drew1) | exact HB.out)))); have n4_ := Aside0.mk (below_step (by repeat (first | (with_reducible first | exact HB.out | apply below_alloc | apply pw_below_drewN | apply below_drew1) | exact HB.out)) hb); clear HO391; clear HO394; clear HB; have HO391 := n0_; have HO394 := n1_; have HO398 := n2_; have HO400 := n3_; have HB := n4_; clear n0_ n1_ n2_ n3_ n4_; (try clear hb); (try clear hb2); (try clear hk); (try clear hi); (try clear ho0); (try clear ho1); obtain ⟨Ao13, co13, eo13⟩ := Kd.R_slice HO398.out; subst eo13) | ((with_reducible refine gate_callee (f := 58) rfl ?_); refine goesL_ (some 17) rfl rfl Try.func58 (by kernel_rfl) rfl #[.slice Ao13 t395.length co13] rfl (by (try simp only [List.map_toArray, List.map_cons, List.map_nil]); first | done | rfl | (simp only [List.length_drop, List.length_take]; rfl)) ?_; (with_reducible refine (reckonerref02_nat.calls k _ _ t395 t401 _ ?side1 ?side2 A6.out).mono ?_); (case side1 => repeat (first | exact (Kd.R_reads' HO398.out).2.2 | (with_reducible refine Kd.C_alloc ?_ _) | (with_reducible refine Kd.C_drewN ?_ _) | (with_reducible refine Kd.C_drew ?_))); (case side2 => exact (Kd.R_reads' HO398.out).2.1); rintro e w14 ⟨v402, rfl, ho0, hb⟩; refine ⟨_, rfl, ?_⟩; have n0_ := Aside0.mk (Kd.R_elder' (by (with_reducible repeat (first | apply Kd.R_alloc | apply Kd.R_drewN | apply Kd.R_drew)); exact HO391.out) (Kd.R_base ho0) hb); have n1_ := Aside0.mk (Kd.R_elder' (by (with_reducible repeat (first | apply Kd.R_alloc | apply Kd.R_drewN | apply Kd.R_drew)); exact HO394.out) (Kd.R_base ho0) hb); have n2_ := Aside0.mk (Kd.R_elder' (by (with_reducible repeat (first | apply Kd.R_alloc | apply Kd.R_drewN | apply Kd.R_drew)); exact HO398.out) (Kd.R_base ho0) hb); have n3_ := Aside0.mk (Kd.R_elder' (by (with_reducible repeat (first | apply Kd.R_alloc | apply Kd.R_drewN | apply Kd.R_drew)); exact HO400.out) (Kd.R_base ho0) hb); have n4_ := Aside0.mk (Kd.R_lower (Kd.R_new' (Kd.R_new' (Kd.R_new' (Kd.R_new' ho0 (Kd.R_lt (by (with_reducible repeat (first | apply Kd.R_alloc | apply Kd.R_drewN | apply Kd.R_drew)); exact HO391.out))) (Kd.R_lt (by (with_reducible repeat (first | apply Kd.R_alloc | apply Kd.R_drewN | apply Kd.R_drew)); exact HO394.out))) (Kd.R_lt (by (with_reducible repeat (first | apply Kd.R_alloc | apply Kd.R_drewN | apply Kd.R_drew)); exact HO398.out))) (Kd.R_lt (by (with_reducible repeat (first | apply Kd.R_alloc | apply Kd.R_drewN | apply Kd.R_drew)); exact HO400.out))) (below_size (by repeat (first | (with_reducible first | exact HB.out | apply below_alloc | apply pw_below_drewN | apply below_drew1) | exact HB.out)))); have n5_ := Aside0.mk (below_step (by repeat (first | (with_reducible first | exact HB.out | apply below_alloc | apply pw_below_drewN | apply below_drew1) | exact HB.out)) hb); clear HO391; clear HO394; clear HO398; clear HO400; clear HB; have HO391 := n0_; have HO394 := n1_; have HO398 := n2_; have HO400 := n3_; have HO403 := n4_; have HB := n5_; clear n0_ n1_ n2_ n3_ n4_ n5_; (try clear hb); (try clear hb2); (try clear hk); (try clear hi); (try clear ho0); obtain ⟨Ao15, co15, eo15⟩ := Kd.R_slice HO400.out; subst eo15) | ((with_reducible refine gate_callee (f := 58) rfl ?_); refine goesL_ (some 19) rfl rfl Try.func58 (by kernel_rfl) rfl #[.slice Ao15 t396.length co15] rfl (by (try simp only [List.map_toArray, List.map_cons, List.map_nil]); first | done | rfl | (simp only [List.length_drop, List.length_take]; rfl)) ?_; (with_reducible refine (reckonerref02_nat.calls k _ _ t396 t404 _ ?side1 ?side2 A7.out).mono ?_); (case side1 => repeat (first | exact (Kd.R_reads' HO400.out).2.2 | (with_reducible refine Kd.C_alloc ?_ _) | (with_reducible refine Kd.C_drewN ?_ _) | (with_reducible refine Kd.C_drew ?_))); (case side2 => exact (Kd.R_reads' HO400.out).2.1); rintro e w16 ⟨v405, rfl, ho0, hb⟩; refine ⟨_, rfl, ?_⟩; have n0_ := Aside0.mk (Kd.R_elder' (by (with_reducible repeat (first | apply Kd.R_alloc | apply Kd.R_drewN | apply Kd.R_drew)); exact HO391.out) (Kd.R_base ho0) hb); have n1_ := Aside0.mk (Kd.R_elder' (by (with_reducible repeat (first | apply Kd.R_alloc | apply Kd.R_drewN | apply Kd.R_drew)); exact HO394.out) (Kd.R_base ho0) hb); have n2_ := Aside0.mk (Kd.R_elder' (by (with_reducible repeat (first | apply Kd.R_alloc | apply Kd.R_drewN | apply Kd.R_drew)); exact HO398.out) (Kd.R_base ho0) hb); have n3_ := Aside0.mk (Kd.R_elder' (by (with_reducible repeat (first | apply Kd.R_alloc | apply Kd.R_drewN | apply Kd.R_drew)); exact HO400.out) (Kd.R_base ho0) hb); have n4_ := Aside0.mk (Kd.R_elder' (by (with_reducible repeat (first | apply Kd.R_alloc | apply Kd.R_drewN | apply Kd.R_drew)); exact HO403.out) (Kd.R_base ho0) hb); have n5_ := Aside0.mk (Kd.R_lower (Kd.R_new' (Kd.R_new' (Kd.R_new' (Kd.R_new' (Kd.R_new' ho0 (Kd.R_lt (by (with_reducible repeat (first | apply Kd.R_alloc | apply Kd.R_drewN | apply Kd.R_drew)); exact HO391.out))) (Kd.R_lt (by (with_reducible repeat (first | apply Kd.R_alloc | apply Kd.R_drewN | apply Kd.R_drew)); exact HO394.out))) (Kd.R_lt (by (with_reducible repeat (first | apply Kd.R_alloc | apply Kd.R_drewN | apply Kd.R_drew)); exact HO398.out))) (Kd.R_lt (by (with_reducible repeat (first | apply Kd.R_alloc | apply Kd.R_drewN | apply Kd.R_drew)); exact HO400.out))) (Kd.R_lt (by (with_reducible repeat (first | apply Kd.R_alloc | apply Kd.R_drewN | apply Kd.R_drew)); exact HO403.out))) (below_size (by repeat (first | (with_reducible first | exact HB.out | apply below_alloc | apply pw_below_drewN | apply below_drew1) | exact HB.out)))); have n6_ := Aside0.mk (below_step (by repeat (first | (with_reducible first | exact HB.out | apply below_alloc | apply pw_below_drewN | apply below_drew1) | exact HB.out)) hb); clear HO391; clear HO394; clear HO398; clear HO400; clear HO403; clear HB; have HO391 := n0_; have HO394 := n1_; have HO398 := n2_; have HO400 := n3_; have HO403 := n4_; have HO406 := n5_; have HB := n6_; clear n0_ n1_ n2_ n3_ n4_ n5_ n6_; (try clear hb); (try clear hb2); (try clear hk); (try clear hi); (try clear ho0)))
 go_ret2
 exact ⟨_, _, by first | rfl | (simp [errW_none, errW_some] <;> rfl) | (simp [*, errW_none, errW_some] <;> rfl), by (with_reducible repeat (first | apply Kd.R_alloc | apply Kd.R_drewN | apply Kd.R_drew)); exact Kd.R_mono HO403.out (fun _ hk => hk.2), by (with_reducible repeat (first | apply Kd.R_alloc | apply Kd.R_drewN | apply Kd.R_drew)); exact Kd.R_mono HO406.out (fun _ hk => hk.2), by repeat (first | (with_reducible first | exact HB.out | apply below_alloc | apply pw_below_drewN | apply below_drew1) | exact HB.out)⟩
/-! ### reckonerref01_Compare: function 59 -/
def reckonerref01_Compare.l0 : Nat → List Int → List Int → Int → Option (Int)
  | 0, _, _, _ => none
  | k + 1, x0, x1, x5 => if x5 ≥ 0 then ((reckonerref01_digit.f x0 x5).bind fun t407 => ((reckonerref01_digit.f x1 x5).bind fun t408 => (if t407 < t408 then (some (-1)) else (if t407 > t408 then (some 1) else (reckonerref01_Compare.l0 k x0 x1 (wrap64 (x5 - 1))))))) else (some 0)
def reckonerref01_Compare.f (k : Nat) (l0 : List Int) (l1 : List Int) : Option (Int) := if (l0.length : Int) < (l1.length : Int) then (reckonerref01_Compare.l0 k l0 l1 (wrap64 ((l1.length : Int) - 1))) else (reckonerref01_Compare.l0 k l0 l1 (wrap64 ((l0.length : Int) - 1)))
set_option maxHeartbeats 8000000 in
set_option maxRecDepth 100000 in
theorem reckonerref01_Compare.calls (k : Nat) (A0 : Option Addr) (c0 : Nat) (l0 : List Int) (A1 : Option Addr) (c1 : Nat) (l1 : List Int) (r : Int) (w : World) (hr0 : Kd.C (Kd.int .u64) w A0 l0.length l0) (hc0 : l0.length ≤ c0) (hr1 : Kd.C (Kd.int .u64) w A1 l1.length l1) (hc1 : l1.length ≤ c1) (h : reckonerref01_Compare.f k l0 l1 = some r) :
  Calls Try.prog 59 #[.slice A0 l0.length c0, .slice A1 l1.length c1] w fun e w' => e = .returned (.int .i64 r) ∧ Below w.heap.size w w' := by
 have HR0 := Aside0.mk hr0
 have HC0 := Aside0.mk hc0
 clear hr0 hc0
 have HR1 := Aside0.mk hr1
 have HC1 := Aside0.mk hc1
 clear hr1 hc1
 have HB := Aside0.mk (Below.refl w.heap.size w)
 have H : (if (l0.length : Int) < (l1.length : Int) then (reckonerref01_Compare.l0 k l0 l1 (wrap64 ((l1.length : Int) - 1))) else (reckonerref01_Compare.l0 k l0 l1 (wrap64 ((l0.length : Int) - 1)))) = some r := h
 clear h
 by_cases c3 : (l0.length : Int) < (l1.length : Int)
 ·rw [if_pos c3] at H
  have c3i := eq_true c3
  have c3b0 : decide ((l0.length : Int) < (l1.length : Int)) = true := decide_eq_true c3
  have c3b1 : decide (l0.length < l1.length) = true := decide_eq_true (Int.ofNat_lt.mp c3)
  clear c3
  have H' := Aside0.mk H
  clear H
  go_enter Try.func59, Try.ntmps59
  go_wp2
  go_loopg [5] k (fun kq v5 w' => ∃ (x5_1 : Int), v5 = .int .i64 x5_1 ∧ Aside0 (reckonerref01_Compare.l0 kq l0 l1 x5_1 = some r) ∧ Aside0 (kq ≤ k) ∧ Aside0 (Below w.heap.size w w'))
  case atStart => exact ⟨(wrap64 ((l1.length : Int) - 1)), (by first | rfl | (simp; done) | (simp [*]; done)), H', ⟨Nat.le_refl _⟩, ⟨by repeat (first | (with_reducible first | exact HB.out | apply below_alloc | apply pw_below_drewN | apply below_drew1) | exact HB.out)⟩⟩
  case round =>
   clear H'
   try clear c1
   try clear p2
   try clear c3
   try clear c3b0
   try clear c3b1
   obtain ⟨x5_1, rfl, HA, HK1, HB⟩ := hrel
   cases gk with
   | zero => exact absurd HA.out (by simp [reckonerref01_Compare.l0])
   | succ k1 =>
    have H := HA.out
    clear HA
    simp only [reckonerref01_Compare.l0] at H
    by_cases c4 : x5_1 ≥ 0
    ·rw [if_pos c4] at H
     have c4b0 : decide (0 ≤ x5_1) = true := decide_eq_true c4
     clear c4
     replace H := Option.bind_eq_some_iff.mp H
     obtain ⟨t407, A50, H⟩ := H
     replace H : ((reckonerref01_digit.f l1 x5_1).bind fun t408 => (if t407 < t408 then (some (-1)) else (if t407 > t408 then (some 1) else (reckonerref01_Compare.l0 k1 l0 l1 (wrap64 (x5_1 - 1)))))) = some r := H
     have A5 := Aside0.mk A50
     clear A50
     replace H := Option.bind_eq_some_iff.mp H
     obtain ⟨t408, A60, H⟩ := H
     replace H : (if t407 < t408 then (some (-1)) else (if t407 > t408 then (some 1) else (reckonerref01_Compare.l0 k1 l0 l1 (wrap64 (x5_1 - 1))))) = some r := H
     have A6 := Aside0.mk A60
     clear A60
     by_cases c7 : t407 < t408
     ·rw [if_pos c7] at H
      have c7b0 : decide (t407 < t408) = true := decide_eq_true c7
      clear c7
      obtain rfl := Option.some.inj H
      go_wp2_with (first | ((with_reducible refine gate_callee (f := 89) rfl ?_); refine goesL_ (some 20) rfl rfl Try.func89 (by kernel_rfl) rfl #[.slice A0 l0.length c0, .int .i64 x5_1] rfl (by (try simp only [List.map_toArray, List.map_cons, List.map_nil]); first | done | rfl | (simp only [List.length_drop, List.length_take]; rfl)) ?_; (with_reducible refine (reckonerref01_digit.calls _ _ l0 x5_1 t407 _ ?side1 ?side2 A5.out).mono ?_); (case side1 => repeat (first | exact (Kd.C_below HR0.out HB.out) | (with_reducible refine Kd.C_alloc ?_ _) | (with_reducible refine Kd.C_drewN ?_ _) | (with_reducible refine Kd.C_drew ?_))); (case side2 => exact HC0.out); rintro e w' ⟨rfl, ⟨nd, rfl⟩⟩; refine ⟨_, rfl, ?_⟩) | ((with_reducible refine gate_callee (f := 89) rfl ?_); refine goesL_ (some 23) rfl rfl Try.func89 (by kernel_rfl) rfl #[.slice A1 l1.length c1, .int .i64 x5_1] rfl (by (try simp only [List.map_toArray, List.map_cons, List.map_nil]); first | done | rfl | (simp only [List.length_drop, List.length_take]; rfl)) ?_; (with_reducible refine (reckonerref01_digit.calls _ _ l1 x5_1 t408 _ ?side1 ?side2 A6.out).mono ?_); (case side1 => repeat (first | exact (Kd.C_below HR1.out (by repeat (first | (with_reducible first | exact HB.out | apply below_alloc | apply pw_below_drewN | apply below_drew1) | exact HB.out))) | (with_reducible refine Kd.C_alloc ?_ _) | (with_reducible refine Kd.C_drewN ?_ _) | (with_reducible refine Kd.C_drew ?_))); (case side2 => exact HC1.out); rintro e w' ⟨rfl, ⟨nd, rfl⟩⟩; refine ⟨_, rfl, ?_⟩))
      go_ret
      exact ⟨by first | rfl | (simp [errW_none, errW_some] <;> rfl) | (simp [*, errW_none, errW_some] <;> rfl), by repeat (first | (with_reducible first | exact HB.out | apply below_alloc | apply pw_below_drewN | apply below_drew1) | exact HB.out)⟩
     ·rw [if_neg c7] at H
      have c7b0 : decide (t407 < t408) = false := decide_eq_false c7
      clear c7
      by_cases c8 : t407 > t408
      ·rw [if_pos c8] at H
       have c8b0 : decide (t408 < t407) = true := decide_eq_true c8
       clear c8
       obtain rfl := Option.some.inj H
       go_wp2_with (first | ((with_reducible refine gate_callee (f := 89) rfl ?_); refine goesL_ (some 20) rfl rfl Try.func89 (by kernel_rfl) rfl #[.slice A0 l0.length c0, .int .i64 x5_1] rfl (by (try simp only [List.map_toArray, List.map_cons, List.map_nil]); first | done | rfl | (simp only [List.length_drop, List.length_take]; rfl)) ?_; (with_reducible refine (reckonerref01_digit.calls _ _ l0 x5_1 t407 _ ?side1 ?side2 A5.out).mono ?_); (case side1 => repeat (first | exact (Kd.C_below HR0.out HB.out) | (with_reducible refine Kd.C_alloc ?_ _) | (with_reducible refine Kd.C_drewN ?_ _) | (with_reducible refine Kd.C_drew ?_))); (case side2 => exact HC0.out); rintro e w' ⟨rfl, ⟨nd, rfl⟩⟩; refine ⟨_, rfl, ?_⟩) | ((with_reducible refine gate_callee (f := 89) rfl ?_); refine goesL_ (some 23) rfl rfl Try.func89 (by kernel_rfl) rfl #[.slice A1 l1.length c1, .int .i64 x5_1] rfl (by (try simp only [List.map_toArray, List.map_cons, List.map_nil]); first | done | rfl | (simp only [List.length_drop, List.length_take]; rfl)) ?_; (with_reducible refine (reckonerref01_digit.calls _ _ l1 x5_1 t408 _ ?side1 ?side2 A6.out).mono ?_); (case side1 => repeat (first | exact (Kd.C_below HR1.out (by repeat (first | (with_reducible first | exact HB.out | apply below_alloc | apply pw_below_drewN | apply below_drew1) | exact HB.out))) | (with_reducible refine Kd.C_alloc ?_ _) | (with_reducible refine Kd.C_drewN ?_ _) | (with_reducible refine Kd.C_drew ?_))); (case side2 => exact HC1.out); rintro e w' ⟨rfl, ⟨nd, rfl⟩⟩; refine ⟨_, rfl, ?_⟩))
       go_ret
       exact ⟨by first | rfl | (simp [errW_none, errW_some] <;> rfl) | (simp [*, errW_none, errW_some] <;> rfl), by repeat (first | (with_reducible first | exact HB.out | apply below_alloc | apply pw_below_drewN | apply below_drew1) | exact HB.out)⟩
      ·rw [if_neg c8] at H
       have c8b0 : decide (t408 < t407) = false := decide_eq_false c8
       clear c8
       have H' := Aside0.mk H
       clear H
       go_wp2_with (first | ((with_reducible refine gate_callee (f := 89) rfl ?_); refine goesL_ (some 20) rfl rfl Try.func89 (by kernel_rfl) rfl #[.slice A0 l0.length c0, .int .i64 x5_1] rfl (by (try simp only [List.map_toArray, List.map_cons, List.map_nil]); first | done | rfl | (simp only [List.length_drop, List.length_take]; rfl)) ?_; (with_reducible refine (reckonerref01_digit.calls _ _ l0 x5_1 t407 _ ?side1 ?side2 A5.out).mono ?_); (case side1 => repeat (first | exact (Kd.C_below HR0.out HB.out) | (with_reducible refine Kd.C_alloc ?_ _) | (with_reducible refine Kd.C_drewN ?_ _) | (with_reducible refine Kd.C_drew ?_))); (case side2 => exact HC0.out); rintro e w' ⟨rfl, ⟨nd, rfl⟩⟩; refine ⟨_, rfl, ?_⟩) | ((with_reducible refine gate_callee (f := 89) rfl ?_); refine goesL_ (some 23) rfl rfl Try.func89 (by kernel_rfl) rfl #[.slice A1 l1.length c1, .int .i64 x5_1] rfl (by (try simp only [List.map_toArray, List.map_cons, List.map_nil]); first | done | rfl | (simp only [List.length_drop, List.length_take]; rfl)) ?_; (with_reducible refine (reckonerref01_digit.calls _ _ l1 x5_1 t408 _ ?side1 ?side2 A6.out).mono ?_); (case side1 => repeat (first | exact (Kd.C_below HR1.out (by repeat (first | (with_reducible first | exact HB.out | apply below_alloc | apply pw_below_drewN | apply below_drew1) | exact HB.out))) | (with_reducible refine Kd.C_alloc ?_ _) | (with_reducible refine Kd.C_drewN ?_ _) | (with_reducible refine Kd.C_drew ?_))); (case side2 => exact HC1.out); rintro e w' ⟨rfl, ⟨nd, rfl⟩⟩; refine ⟨_, rfl, ?_⟩))
       go_roundg k1
       case measure => have := HK1.out; omega
       case rel => exact ⟨(wrap64 (x5_1 - 1)), (by first | rfl | (simp; done) | (simp [*]; done)), H', ⟨by have := HK1.out; omega⟩, ⟨by repeat (first | (with_reducible first | exact HB.out | apply below_alloc | apply pw_below_drewN | apply below_drew1) | exact HB.out)⟩⟩
    ·rw [if_neg c4] at H
     have c4b0 : decide (0 ≤ x5_1) = false := decide_eq_false c4
     clear c4
     obtain rfl := Option.some.inj H
     go_wp2
     go_ret
     exact ⟨by first | rfl | (simp [errW_none, errW_some] <;> rfl) | (simp [*, errW_none, errW_some] <;> rfl), by repeat (first | (with_reducible first | exact HB.out | apply below_alloc | apply pw_below_drewN | apply below_drew1) | exact HB.out)⟩
 ·rw [if_neg c3] at H
  have c3i := eq_false c3
  have c3b0 : decide ((l0.length : Int) < (l1.length : Int)) = false := decide_eq_false c3
  have c3b1 : decide (l0.length < l1.length) = false := decide_eq_false (fun h => c3 (Int.ofNat_lt.mpr h))
  clear c3
  have H' := Aside0.mk H
  clear H
  go_enter Try.func59, Try.ntmps59
  go_wp2
  go_loopg [5] k (fun kq v5 w' => ∃ (x5_1 : Int), v5 = .int .i64 x5_1 ∧ Aside0 (reckonerref01_Compare.l0 kq l0 l1 x5_1 = some r) ∧ Aside0 (kq ≤ k) ∧ Aside0 (Below w.heap.size w w'))
  case atStart => exact ⟨(wrap64 ((l0.length : Int) - 1)), (by first | rfl | (simp; done) | (simp [*]; done)), H', ⟨Nat.le_refl _⟩, ⟨by repeat (first | (with_reducible first | exact HB.out | apply below_alloc | apply pw_below_drewN | apply below_drew1) | exact HB.out)⟩⟩
  case round =>
   clear H'
   try clear c1
   try clear p2
   try clear c3
   try clear c3b0
   try clear c3b1
   try clear c4
   try clear c4b0
   try clear c5
   try clear p6
   try clear c7
   try clear c7b0
   try clear c8
   try clear c8b0
   try clear p2
   obtain ⟨x5_1, rfl, HA, HK1, HB⟩ := hrel
   cases gk with
   | zero => exact absurd HA.out (by simp [reckonerref01_Compare.l0])
   | succ k1 =>
    have H := HA.out
    clear HA
    simp only [reckonerref01_Compare.l0] at H
    by_cases c9 : x5_1 ≥ 0
    ·rw [if_pos c9] at H
     have c9b0 : decide (0 ≤ x5_1) = true := decide_eq_true c9
     clear c9
     replace H := Option.bind_eq_some_iff.mp H
     obtain ⟨t407, A100, H⟩ := H
     replace H : ((reckonerref01_digit.f l1 x5_1).bind fun t408 => (if t407 < t408 then (some (-1)) else (if t407 > t408 then (some 1) else (reckonerref01_Compare.l0 k1 l0 l1 (wrap64 (x5_1 - 1)))))) = some r := H
     have A10 := Aside0.mk A100
     clear A100
     replace H := Option.bind_eq_some_iff.mp H
     obtain ⟨t408, A110, H⟩ := H
     replace H : (if t407 < t408 then (some (-1)) else (if t407 > t408 then (some 1) else (reckonerref01_Compare.l0 k1 l0 l1 (wrap64 (x5_1 - 1))))) = some r := H
     have A11 := Aside0.mk A110
     clear A110
     by_cases c12 : t407 < t408
     ·rw [if_pos c12] at H
      have c12b0 : decide (t407 < t408) = true := decide_eq_true c12
      clear c12
      obtain rfl := Option.some.inj H
      go_wp2_with (first | ((with_reducible refine gate_callee (f := 89) rfl ?_); refine goesL_ (some 20) rfl rfl Try.func89 (by kernel_rfl) rfl #[.slice A0 l0.length c0, .int .i64 x5_1] rfl (by (try simp only [List.map_toArray, List.map_cons, List.map_nil]); first | done | rfl | (simp only [List.length_drop, List.length_take]; rfl)) ?_; (with_reducible refine (reckonerref01_digit.calls _ _ l0 x5_1 t407 _ ?side1 ?side2 A10.out).mono ?_); (case side1 => repeat (first | exact (Kd.C_below HR0.out HB.out) | (with_reducible refine Kd.C_alloc ?_ _) | (with_reducible refine Kd.C_drewN ?_ _) | (with_reducible refine Kd.C_drew ?_))); (case side2 => exact HC0.out); rintro e w' ⟨rfl, ⟨nd, rfl⟩⟩; refine ⟨_, rfl, ?_⟩) | ((with_reducible refine gate_callee (f := 89) rfl ?_); refine goesL_ (some 23) rfl rfl Try.func89 (by kernel_rfl) rfl #[.slice A1 l1.length c1, .int .i64 x5_1] rfl (by (try simp only [List.map_toArray, List.map_cons, List.map_nil]); first | done | rfl | (simp only [List.length_drop, List.length_take]; rfl)) ?_; (with_reducible refine (reckonerref01_digit.calls _ _ l1 x5_1 t408 _ ?side1 ?side2 A11.out).mono ?_); (case side1 => repeat (first | exact (Kd.C_below HR1.out (by repeat (first | (with_reducible first | exact HB.out | apply below_alloc | apply pw_below_drewN | apply below_drew1) | exact HB.out))) | (with_reducible refine Kd.C_alloc ?_ _) | (with_reducible refine Kd.C_drewN ?_ _) | (with_reducible refine Kd.C_drew ?_))); (case side2 => exact HC1.out); rintro e w' ⟨rfl, ⟨nd, rfl⟩⟩; refine ⟨_, rfl, ?_⟩))
      go_ret
      exact ⟨by first | rfl | (simp [errW_none, errW_some] <;> rfl) | (simp [*, errW_none, errW_some] <;> rfl), by repeat (first | (with_reducible first | exact HB.out | apply below_alloc | apply pw_below_drewN | apply below_drew1) | exact HB.out)⟩
     ·rw [if_neg c12] at H
      have c12b0 : decide (t407 < t408) = false := decide_eq_false c12
      clear c12
      by_cases c13 : t407 > t408
      ·rw [if_pos c13] at H
       have c13b0 : decide (t408 < t407) = true := decide_eq_true c13
       clear c13
       obtain rfl := Option.some.inj H
       go_wp2_with (first | ((with_reducible refine gate_callee (f := 89) rfl ?_); refine goesL_ (some 20) rfl rfl Try.func89 (by kernel_rfl) rfl #[.slice A0 l0.length c0, .int .i64 x5_1] rfl (by (try simp only [List.map_toArray, List.map_cons, List.map_nil]); first | done | rfl | (simp only [List.length_drop, List.length_take]; rfl)) ?_; (with_reducible refine (reckonerref01_digit.calls _ _ l0 x5_1 t407 _ ?side1 ?side2 A10.out).mono ?_); (case side1 => repeat (first | exact (Kd.C_below HR0.out HB.out) | (with_reducible refine Kd.C_alloc ?_ _) | (with_reducible refine Kd.C_drewN ?_ _) | (with_reducible refine Kd.C_drew ?_))); (case side2 => exact HC0.out); rintro e w' ⟨rfl, ⟨nd, rfl⟩⟩; refine ⟨_, rfl, ?_⟩) | ((with_reducible refine gate_callee (f := 89) rfl ?_); refine goesL_ (some 23) rfl rfl Try.func89 (by kernel_rfl) rfl #[.slice A1 l1.length c1, .int .i64 x5_1] rfl (by (try simp only [List.map_toArray, List.map_cons, List.map_nil]); first | done | rfl | (simp only [List.length_drop, List.length_take]; rfl)) ?_; (with_reducible refine (reckonerref01_digit.calls _ _ l1 x5_1 t408 _ ?side1 ?side2 A11.out).mono ?_); (case side1 => repeat (first | exact (Kd.C_below HR1.out (by repeat (first | (with_reducible first | exact HB.out | apply below_alloc | apply pw_below_drewN | apply below_drew1) | exact HB.out))) | (with_reducible refine Kd.C_alloc ?_ _) | (with_reducible refine Kd.C_drewN ?_ _) | (with_reducible refine Kd.C_drew ?_))); (case side2 => exact HC1.out); rintro e w' ⟨rfl, ⟨nd, rfl⟩⟩; refine ⟨_, rfl, ?_⟩))
       go_ret
       exact ⟨by first | rfl | (simp [errW_none, errW_some] <;> rfl) | (simp [*, errW_none, errW_some] <;> rfl), by repeat (first | (with_reducible first | exact HB.out | apply below_alloc | apply pw_below_drewN | apply below_drew1) | exact HB.out)⟩
      ·rw [if_neg c13] at H
       have c13b0 : decide (t408 < t407) = false := decide_eq_false c13
       clear c13
       have H' := Aside0.mk H
       clear H
       go_wp2_with (first | ((with_reducible refine gate_callee (f := 89) rfl ?_); refine goesL_ (some 20) rfl rfl Try.func89 (by kernel_rfl) rfl #[.slice A0 l0.length c0, .int .i64 x5_1] rfl (by (try simp only [List.map_toArray, List.map_cons, List.map_nil]); first | done | rfl | (simp only [List.length_drop, List.length_take]; rfl)) ?_; (with_reducible refine (reckonerref01_digit.calls _ _ l0 x5_1 t407 _ ?side1 ?side2 A10.out).mono ?_); (case side1 => repeat (first | exact (Kd.C_below HR0.out HB.out) | (with_reducible refine Kd.C_alloc ?_ _) | (with_reducible refine Kd.C_drewN ?_ _) | (with_reducible refine Kd.C_drew ?_))); (case side2 => exact HC0.out); rintro e w' ⟨rfl, ⟨nd, rfl⟩⟩; refine ⟨_, rfl, ?_⟩) | ((with_reducible refine gate_callee (f := 89) rfl ?_); refine goesL_ (some 23) rfl rfl Try.func89 (by kernel_rfl) rfl #[.slice A1 l1.length c1, .int .i64 x5_1] rfl (by (try simp only [List.map_toArray, List.map_cons, List.map_nil]); first | done | rfl | (simp only [List.length_drop, List.length_take]; rfl)) ?_; (with_reducible refine (reckonerref01_digit.calls _ _ l1 x5_1 t408 _ ?side1 ?side2 A11.out).mono ?_); (case side1 => repeat (first | exact (Kd.C_below HR1.out (by repeat (first | (with_reducible first | exact HB.out | apply below_alloc | apply pw_below_drewN | apply below_drew1) | exact HB.out))) | (with_reducible refine Kd.C_alloc ?_ _) | (with_reducible refine Kd.C_drewN ?_ _) | (with_reducible refine Kd.C_drew ?_))); (case side2 => exact HC1.out); rintro e w' ⟨rfl, ⟨nd, rfl⟩⟩; refine ⟨_, rfl, ?_⟩))
       go_roundg k1
       case measure => have := HK1.out; omega
       case rel => exact ⟨(wrap64 (x5_1 - 1)), (by first | rfl | (simp; done) | (simp [*]; done)), H', ⟨by have := HK1.out; omega⟩, ⟨by repeat (first | (with_reducible first | exact HB.out | apply below_alloc | apply pw_below_drewN | apply below_drew1) | exact HB.out)⟩⟩
    ·rw [if_neg c9] at H
     have c9b0 : decide (0 ≤ x5_1) = false := decide_eq_false c9
     clear c9
     obtain rfl := Option.some.inj H
     go_wp2
     go_ret
     exact ⟨by first | rfl | (simp [errW_none, errW_some] <;> rfl) | (simp [*, errW_none, errW_some] <;> rfl), by repeat (first | (with_reducible first | exact HB.out | apply below_alloc | apply pw_below_drewN | apply below_drew1) | exact HB.out)⟩
/-! ### reckonerref02_Cmp: function 20 -/
def reckonerref02_Cmp.f (k : Nat) (l0 : List Int) (l1 : List Int) : Option (Int) := (reckonerref01_Digits.f k l0).bind fun t409 => ((reckonerref01_Digits.f k l1).bind fun t412 => ((reckonerref01_Compare.f k t409 t412).bind fun t415 => (some t415)))
set_option maxHeartbeats 8000000 in
set_option maxRecDepth 100000 in
theorem reckonerref02_Cmp.calls (k : Nat) (A0 : Option Addr) (c0 : Nat) (l0 : List Int) (A1 : Option Addr) (c1 : Nat) (l1 : List Int) (r : Int) (w : World) (hr0 : Kd.C (Kd.int .u64) w A0 l0.length l0) (hc0 : l0.length ≤ c0) (hr1 : Kd.C (Kd.int .u64) w A1 l1.length l1) (hc1 : l1.length ≤ c1) (h : reckonerref02_Cmp.f k l0 l1 = some r) :
  Calls Try.prog 20 #[.slice A0 l0.length c0, .slice A1 l1.length c1] w fun e w' => e = .returned (.int .i64 r) ∧ Below w.heap.size w w' := by
 have HR0 := Aside0.mk hr0
 have HC0 := Aside0.mk hc0
 clear hr0 hc0
 have HR1 := Aside0.mk hr1
 have HC1 := Aside0.mk hc1
 clear hr1 hc1
 have HB := Aside0.mk (Below.refl w.heap.size w)
 have H : ((reckonerref01_Digits.f k l0).bind fun t409 => ((reckonerref01_Digits.f k l1).bind fun t412 => ((reckonerref01_Compare.f k t409 t412).bind fun t415 => (some t415)))) = some r := h
 clear h
 replace H := Option.bind_eq_some_iff.mp H
 obtain ⟨t409, A30, H⟩ := H
 replace H : ((reckonerref01_Digits.f k l1).bind fun t412 => ((reckonerref01_Compare.f k t409 t412).bind fun t415 => (some t415))) = some r := H
 have A3 := Aside0.mk A30
 clear A30
 replace H := Option.bind_eq_some_iff.mp H
 obtain ⟨t412, A40, H⟩ := H
 replace H : ((reckonerref01_Compare.f k t409 t412).bind fun t415 => (some t415)) = some r := H
 have A4 := Aside0.mk A40
 clear A40
 replace H := Option.bind_eq_some_iff.mp H
 obtain ⟨t415, A50, H⟩ := H
 replace H : (some t415) = some r := H
 have A5 := Aside0.mk A50
 clear A50
 obtain rfl := Option.some.inj H
 go_enter Try.func20, Try.ntmps20
 go_wp2_with (first | ((with_reducible refine gate_callee (f := 57) rfl ?_); refine goesL_ (some 6) rfl rfl Try.func57 (by kernel_rfl) rfl #[.slice A0 l0.length c0] rfl (by (try simp only [List.map_toArray, List.map_cons, List.map_nil]); first | done | rfl | (simp only [List.length_drop, List.length_take]; rfl)) ?_; (with_reducible refine (reckonerref01_Digits.calls k _ _ l0 t409 _ ?side1 ?side2 A3.out).mono ?_); (case side1 => repeat (first | exact HR0.out | (with_reducible refine Kd.C_alloc ?_ _) | (with_reducible refine Kd.C_drewN ?_ _) | (with_reducible refine Kd.C_drew ?_))); (case side2 => exact HC0.out); rintro e w6 ⟨v410, rfl, ho0, hb⟩; refine ⟨_, rfl, ?_⟩; have n0_ := Aside0.mk (Kd.R_lower ho0 (below_size (by repeat (first | (with_reducible first | exact HB.out | apply below_alloc | apply pw_below_drewN | apply below_drew1) | exact HB.out)))); have n1_ := Aside0.mk (below_step (by repeat (first | (with_reducible first | exact HB.out | apply below_alloc | apply pw_below_drewN | apply below_drew1) | exact HB.out)) hb); clear HB; have HO411 := n0_; have HB := n1_; clear n0_ n1_; (try clear hb); (try clear hb2); (try clear hk); (try clear hi); (try clear ho0)) | ((with_reducible refine gate_callee (f := 57) rfl ?_); refine goesL_ (some 8) rfl rfl Try.func57 (by kernel_rfl) rfl #[.slice A1 l1.length c1] rfl (by (try simp only [List.map_toArray, List.map_cons, List.map_nil]); first | done | rfl | (simp only [List.length_drop, List.length_take]; rfl)) ?_; (with_reducible refine (reckonerref01_Digits.calls k _ _ l1 t412 _ ?side1 ?side2 A4.out).mono ?_); (case side1 => repeat (first | exact (Kd.C_below HR1.out HB.out) | (with_reducible refine Kd.C_alloc ?_ _) | (with_reducible refine Kd.C_drewN ?_ _) | (with_reducible refine Kd.C_drew ?_))); (case side2 => exact HC1.out); rintro e w7 ⟨v413, rfl, ho0, hb⟩; refine ⟨_, rfl, ?_⟩; have n0_ := Aside0.mk (Kd.R_elder' (by (with_reducible repeat (first | apply Kd.R_alloc | apply Kd.R_drewN | apply Kd.R_drew)); exact HO411.out) (Kd.R_base ho0) hb); have n1_ := Aside0.mk (Kd.R_lower (Kd.R_new' ho0 (Kd.R_lt (by (with_reducible repeat (first | apply Kd.R_alloc | apply Kd.R_drewN | apply Kd.R_drew)); exact HO411.out))) (below_size (by repeat (first | (with_reducible first | exact HB.out | apply below_alloc | apply pw_below_drewN | apply below_drew1) | exact HB.out)))); have n2_ := Aside0.mk (below_step (by repeat (first | (with_reducible first | exact HB.out | apply below_alloc | apply pw_below_drewN | apply below_drew1) | exact HB.out)) hb); clear HO411; clear HB; have HO411 := n0_; have HO414 := n1_; have HB := n2_; clear n0_ n1_ n2_; (try clear hb); (try clear hb2); (try clear hk); (try clear hi); (try clear ho0); obtain ⟨Ao8, co8, eo8⟩ := Kd.R_slice HO411.out; subst eo8; obtain ⟨Ao9, co9, eo9⟩ := Kd.R_slice HO414.out; subst eo9) | ((with_reducible refine gate_callee (f := 59) rfl ?_); refine goesL_ (some 9) rfl rfl Try.func59 (by kernel_rfl) rfl #[.slice Ao8 t409.length co8, .slice Ao9 t412.length co9] rfl (by (try simp only [List.map_toArray, List.map_cons, List.map_nil]); first | done | rfl | (simp only [List.length_drop, List.length_take]; rfl)) ?_; (with_reducible refine (reckonerref01_Compare.calls k _ _ t409 _ _ t412 t415 _ ?side1 ?side2 ?side3 ?side4 A5.out).mono ?_); (case side1 => repeat (first | exact (Kd.R_reads' HO411.out).2.2 | (with_reducible refine Kd.C_alloc ?_ _) | (with_reducible refine Kd.C_drewN ?_ _) | (with_reducible refine Kd.C_drew ?_))); (case side2 => exact (Kd.R_reads' HO411.out).2.1); (case side3 => repeat (first | exact (Kd.R_reads' HO414.out).2.2 | (with_reducible refine Kd.C_alloc ?_ _) | (with_reducible refine Kd.C_drewN ?_ _) | (with_reducible refine Kd.C_drew ?_))); (case side4 => exact (Kd.R_reads' HO414.out).2.1); rintro e w10 ⟨rfl, hb⟩; refine ⟨_, rfl, ?_⟩; have n0_ := Aside0.mk (Kd.R_below (by (with_reducible repeat (first | apply Kd.R_alloc | apply Kd.R_drewN | apply Kd.R_drew)); exact HO411.out) hb); have n1_ := Aside0.mk (Kd.R_below (by (with_reducible repeat (first | apply Kd.R_alloc | apply Kd.R_drewN | apply Kd.R_drew)); exact HO414.out) hb); have n2_ := Aside0.mk (below_step (by repeat (first | (with_reducible first | exact HB.out | apply below_alloc | apply pw_below_drewN | apply below_drew1) | exact HB.out)) hb); clear HO411; clear HO414; clear HB; have HO411 := n0_; have HO414 := n1_; have HB := n2_; clear n0_ n1_ n2_; (try clear hb); (try clear hb2); (try clear hk); (try clear hi)))
 go_ret
 exact ⟨by first | rfl | (simp [errW_none, errW_some] <;> rfl) | (simp [*, errW_none, errW_some] <;> rfl), by repeat (first | (with_reducible first | exact HB.out | apply below_alloc | apply pw_below_drewN | apply below_drew1) | exact HB.out)⟩
/-! ### reckonerlaw02_NatDivides: function 4 -/
def reckonerlaw02_NatDivides.j0 : Nat → Int → List Int → List Int → Int → Int → Option (Bool)
  | 0, _, _, _, _, _ => none
  | k + 1, x2, x7, x12, x13, x14 => if x2 = 0 then (if x14 = 5 then (if (x12.length : Int) = 0 then (if x13 = 0 then ((reckonerlaw02_awake.f k).bind fun t443 => (some t443)) else (none)) else (none)) else (none)) else ((reckonerref02_DivMod.f k x7 (([x2] : List Int))).bind fun bt447 => (if x14 = 0 then ((reckonerref02_Is.f k x12 bt447.1).bind fun t453 => (if t453 = true then ((reckonerref02_Cmp.f k (([x13] : List Int)) bt447.2).bind fun t457 => (if t457 = 0 then ((reckonerlaw02_awake.f k).bind fun t458 => (some t458)) else (none))) else (none))) else (none)))
def reckonerlaw02_NatDivides.f (k : Nat) (l0 : List Int) (l1 : List Int) (a2 : Int) : Option (Bool) := (reckonerlaw02_few.f l0 40).bind fun t416 => ((reckonerlaw02_few.f l1 40).bind fun t419 => ((nat_DivMod.f t416 t419).bind fun bt422 => ((nat_DivWord.f t416 a2).bind fun bt429 => ((reckonerref02_IsZero.f k t419).bind fun t434 => (if t434 = true then (if bt422.2.2 = 5 then (if (wrap64 ((bt422.1.length : Int) + (bt422.2.1.length : Int))) = 0 then (reckonerlaw02_NatDivides.j0 k a2 t416 bt429.1 bt429.2.1 bt429.2.2) else (none)) else (none)) else ((reckonerref02_DivMod.f k t416 t419).bind fun bt435 => (if bt422.2.2 = 0 then ((reckonerref02_Is.f k bt422.1 bt435.1).bind fun t441 => (if t441 = true then ((reckonerref02_Is.f k bt422.2.1 bt435.2).bind fun t442 => (if t442 = true then (reckonerlaw02_NatDivides.j0 k a2 t416 bt429.1 bt429.2.1 bt429.2.2) else (none))) else (none))) else (none))))))))
set_option maxHeartbeats 8000000 in
set_option maxRecDepth 100000 in
theorem reckonerlaw02_NatDivides.calls (k : Nat) (A0 : Option Addr) (c0 : Nat) (l0 : List Int) (A1 : Option Addr) (c1 : Nat) (l1 : List Int) (a2 : Int) (r : Bool) (w : World) (hr0 : Kd.C (Kd.int .u64) w A0 l0.length l0) (hc0 : l0.length ≤ c0) (hr1 : Kd.C (Kd.int .u64) w A1 l1.length l1) (hc1 : l1.length ≤ c1) (h : reckonerlaw02_NatDivides.f k l0 l1 a2 = some r) :
  Calls Try.prog 4 #[.slice A0 l0.length c0, .slice A1 l1.length c1, .int .u64 a2] w fun e w' => e = .returned (.bool r) ∧ Below w.heap.size w w' := by
 have HR0 := Aside0.mk hr0
 have HC0 := Aside0.mk hc0
 clear hr0 hc0
 have HR1 := Aside0.mk hr1
 have HC1 := Aside0.mk hc1
 clear hr1 hc1
 have HB := Aside0.mk (Below.refl w.heap.size w)
 have H : ((reckonerlaw02_few.f l0 40).bind fun t416 => ((reckonerlaw02_few.f l1 40).bind fun t419 => ((nat_DivMod.f t416 t419).bind fun bt422 => ((nat_DivWord.f t416 a2).bind fun bt429 => ((reckonerref02_IsZero.f k t419).bind fun t434 => (if t434 = true then (if bt422.2.2 = 5 then (if (wrap64 ((bt422.1.length : Int) + (bt422.2.1.length : Int))) = 0 then (reckonerlaw02_NatDivides.j0 k a2 t416 bt429.1 bt429.2.1 bt429.2.2) else (none)) else (none)) else ((reckonerref02_DivMod.f k t416 t419).bind fun bt435 => (if bt422.2.2 = 0 then ((reckonerref02_Is.f k bt422.1 bt435.1).bind fun t441 => (if t441 = true then ((reckonerref02_Is.f k bt422.2.1 bt435.2).bind fun t442 => (if t442 = true then (reckonerlaw02_NatDivides.j0 k a2 t416 bt429.1 bt429.2.1 bt429.2.2) else (none))) else (none))) else (none))))))))) = some r := h
 clear h
 replace H := Option.bind_eq_some_iff.mp H
 obtain ⟨t416, A40, H⟩ := H
 replace H : ((reckonerlaw02_few.f l1 40).bind fun t419 => ((nat_DivMod.f t416 t419).bind fun bt422 => ((nat_DivWord.f t416 a2).bind fun bt429 => ((reckonerref02_IsZero.f k t419).bind fun t434 => (if t434 = true then (if bt422.2.2 = 5 then (if (wrap64 ((bt422.1.length : Int) + (bt422.2.1.length : Int))) = 0 then (reckonerlaw02_NatDivides.j0 k a2 t416 bt429.1 bt429.2.1 bt429.2.2) else (none)) else (none)) else ((reckonerref02_DivMod.f k t416 t419).bind fun bt435 => (if bt422.2.2 = 0 then ((reckonerref02_Is.f k bt422.1 bt435.1).bind fun t441 => (if t441 = true then ((reckonerref02_Is.f k bt422.2.1 bt435.2).bind fun t442 => (if t442 = true then (reckonerlaw02_NatDivides.j0 k a2 t416 bt429.1 bt429.2.1 bt429.2.2) else (none))) else (none))) else (none)))))))) = some r := H
 have A4 := Aside0.mk A40
 clear A40
 replace H := Option.bind_eq_some_iff.mp H
 obtain ⟨t419, A50, H⟩ := H
 replace H : ((nat_DivMod.f t416 t419).bind fun bt422 => ((nat_DivWord.f t416 a2).bind fun bt429 => ((reckonerref02_IsZero.f k t419).bind fun t434 => (if t434 = true then (if bt422.2.2 = 5 then (if (wrap64 ((bt422.1.length : Int) + (bt422.2.1.length : Int))) = 0 then (reckonerlaw02_NatDivides.j0 k a2 t416 bt429.1 bt429.2.1 bt429.2.2) else (none)) else (none)) else ((reckonerref02_DivMod.f k t416 t419).bind fun bt435 => (if bt422.2.2 = 0 then ((reckonerref02_Is.f k bt422.1 bt435.1).bind fun t441 => (if t441 = true then ((reckonerref02_Is.f k bt422.2.1 bt435.2).bind fun t442 => (if t442 = true then (reckonerlaw02_NatDivides.j0 k a2 t416 bt429.1 bt429.2.1 bt429.2.2) else (none))) else (none))) else (none))))))) = some r := H
 have A5 := Aside0.mk A50
 clear A50
 replace H := Option.bind_eq_some_iff.mp H
 obtain ⟨⟨t422, t423, t424⟩, A60, H⟩ := H
 replace H : ((nat_DivWord.f t416 a2).bind fun bt429 => ((reckonerref02_IsZero.f k t419).bind fun t434 => (if t434 = true then (if t424 = 5 then (if (wrap64 ((t422.length : Int) + (t423.length : Int))) = 0 then (reckonerlaw02_NatDivides.j0 k a2 t416 bt429.1 bt429.2.1 bt429.2.2) else (none)) else (none)) else ((reckonerref02_DivMod.f k t416 t419).bind fun bt435 => (if t424 = 0 then ((reckonerref02_Is.f k t422 bt435.1).bind fun t441 => (if t441 = true then ((reckonerref02_Is.f k t423 bt435.2).bind fun t442 => (if t442 = true then (reckonerlaw02_NatDivides.j0 k a2 t416 bt429.1 bt429.2.1 bt429.2.2) else (none))) else (none))) else (none)))))) = some r := H
 have A6 := Aside0.mk A60
 clear A60
 replace H := Option.bind_eq_some_iff.mp H
 obtain ⟨⟨t429, t430, t431⟩, A70, H⟩ := H
 replace H : ((reckonerref02_IsZero.f k t419).bind fun t434 => (if t434 = true then (if t424 = 5 then (if (wrap64 ((t422.length : Int) + (t423.length : Int))) = 0 then (reckonerlaw02_NatDivides.j0 k a2 t416 t429 t430 t431) else (none)) else (none)) else ((reckonerref02_DivMod.f k t416 t419).bind fun bt435 => (if t424 = 0 then ((reckonerref02_Is.f k t422 bt435.1).bind fun t441 => (if t441 = true then ((reckonerref02_Is.f k t423 bt435.2).bind fun t442 => (if t442 = true then (reckonerlaw02_NatDivides.j0 k a2 t416 t429 t430 t431) else (none))) else (none))) else (none))))) = some r := H
 have A7 := Aside0.mk A70
 clear A70
 replace H := Option.bind_eq_some_iff.mp H
 obtain ⟨t434, A80, H⟩ := H
 replace H : (if t434 = true then (if t424 = 5 then (if (wrap64 ((t422.length : Int) + (t423.length : Int))) = 0 then (reckonerlaw02_NatDivides.j0 k a2 t416 t429 t430 t431) else (none)) else (none)) else ((reckonerref02_DivMod.f k t416 t419).bind fun bt435 => (if t424 = 0 then ((reckonerref02_Is.f k t422 bt435.1).bind fun t441 => (if t441 = true then ((reckonerref02_Is.f k t423 bt435.2).bind fun t442 => (if t442 = true then (reckonerlaw02_NatDivides.j0 k a2 t416 t429 t430 t431) else (none))) else (none))) else (none)))) = some r := H
 have A8 := Aside0.mk A80
 clear A80
 have HC9 := Aside0.mk H
 clear H
 go_enter Try.func4, Try.ntmps4
 try simp only [List.append]
 go_upto_if 38 with (first | ((with_reducible refine gate_callee (f := 10) rfl ?_); refine goesL_ (some 20) rfl rfl Try.func10 (by kernel_rfl) rfl #[.slice A0 l0.length c0, .int .i64 40] rfl (by (try simp only [List.map_toArray, List.map_cons, List.map_nil]); first | done | rfl | (simp only [List.length_drop, List.length_take]; rfl)) ?_; (with_reducible refine (reckonerlaw02_few.calls _ _ l0 40 t416 _ ?side1 ?side2 A4.out).mono ?_); (case side1 => repeat (first | exact HR0.out | (with_reducible refine Kd.C_alloc ?_ _) | (with_reducible refine Kd.C_drewN ?_ _) | (with_reducible refine Kd.C_drew ?_))); (case side2 => exact HC0.out); rintro e w10 ⟨v417, rfl, ho0, hb⟩; refine ⟨_, rfl, ?_⟩; have n0_ := Aside0.mk (Kd.R_lower ho0 (below_size (by repeat (first | (with_reducible first | exact HB.out | apply below_alloc | apply pw_below_drewN | apply below_drew1) | exact HB.out)))); have n1_ := Aside0.mk (below_step (by repeat (first | (with_reducible first | exact HB.out | apply below_alloc | apply pw_below_drewN | apply below_drew1) | exact HB.out)) hb); clear HB; have HO418 := n0_; have HB := n1_; clear n0_ n1_; (try clear hb); (try clear hb2); (try clear hk); (try clear hi); (try clear ho0)) | ((with_reducible refine gate_callee (f := 10) rfl ?_); refine goesL_ (some 22) rfl rfl Try.func10 (by kernel_rfl) rfl #[.slice A1 l1.length c1, .int .i64 40] rfl (by (try simp only [List.map_toArray, List.map_cons, List.map_nil]); first | done | rfl | (simp only [List.length_drop, List.length_take]; rfl)) ?_; (with_reducible refine (reckonerlaw02_few.calls _ _ l1 40 t419 _ ?side1 ?side2 A5.out).mono ?_); (case side1 => repeat (first | exact (Kd.C_below HR1.out HB.out) | (with_reducible refine Kd.C_alloc ?_ _) | (with_reducible refine Kd.C_drewN ?_ _) | (with_reducible refine Kd.C_drew ?_))); (case side2 => exact HC1.out); rintro e w11 ⟨v420, rfl, ho0, hb⟩; refine ⟨_, rfl, ?_⟩; have n0_ := Aside0.mk (Kd.R_elder' (by (with_reducible repeat (first | apply Kd.R_alloc | apply Kd.R_drewN | apply Kd.R_drew)); exact HO418.out) (Kd.R_base ho0) hb); have n1_ := Aside0.mk (Kd.R_lower (Kd.R_new' ho0 (Kd.R_lt (by (with_reducible repeat (first | apply Kd.R_alloc | apply Kd.R_drewN | apply Kd.R_drew)); exact HO418.out))) (below_size (by repeat (first | (with_reducible first | exact HB.out | apply below_alloc | apply pw_below_drewN | apply below_drew1) | exact HB.out)))); have n2_ := Aside0.mk (below_step (by repeat (first | (with_reducible first | exact HB.out | apply below_alloc | apply pw_below_drewN | apply below_drew1) | exact HB.out)) hb); clear HO418; clear HB; have HO418 := n0_; have HO421 := n1_; have HB := n2_; clear n0_ n1_ n2_; (try clear hb); (try clear hb2); (try clear hk); (try clear hi); (try clear ho0); obtain ⟨Ao12, co12, eo12⟩ := Kd.R_slice HO418.out; subst eo12; obtain ⟨Ao13, co13, eo13⟩ := Kd.R_slice HO421.out; subst eo13) | ((with_reducible refine gate_callee (f := 16) rfl ?_); refine goesL_ (some 26) rfl rfl Try.func16 (by kernel_rfl) rfl #[.slice Ao12 t416.length co12, .slice Ao13 t419.length co13] rfl (by (try simp only [List.map_toArray, List.map_cons, List.map_nil]); first | done | rfl | (simp only [List.length_drop, List.length_take]; rfl)) ?_; (with_reducible refine (nat_DivMod.calls _ _ t416 _ _ t419 t422 t423 t424 _ ?side1 ?side2 ?side3 ?side4 A6.out).mono ?_); (case side1 => repeat (first | exact (Kd.R_reads' HO418.out).2.2 | (with_reducible refine Kd.C_alloc ?_ _) | (with_reducible refine Kd.C_drewN ?_ _) | (with_reducible refine Kd.C_drew ?_))); (case side2 => exact (Kd.R_reads' HO418.out).2.1); (case side3 => repeat (first | exact (Kd.R_reads' HO421.out).2.2 | (with_reducible refine Kd.C_alloc ?_ _) | (with_reducible refine Kd.C_drewN ?_ _) | (with_reducible refine Kd.C_drew ?_))); (case side4 => exact (Kd.R_reads' HO421.out).2.1); rintro e w14 ⟨v425, v427, rfl, ho0, ho1, hb⟩; refine ⟨_, rfl, ?_⟩; have n0_ := Aside0.mk (Kd.R_mono (Kd.R_told (Kd.R_told (Kd.R_old (by (with_reducible repeat (first | apply Kd.R_alloc | apply Kd.R_drewN | apply Kd.R_drew)); exact HO418.out) hb) (Kd.R_base ho0)) (Kd.R_base ho1)) (fun _ h_ => h_.1)); have n1_ := Aside0.mk (Kd.R_mono (Kd.R_told (Kd.R_told (Kd.R_old (by (with_reducible repeat (first | apply Kd.R_alloc | apply Kd.R_drewN | apply Kd.R_drew)); exact HO421.out) hb) (Kd.R_base ho0)) (Kd.R_base ho1)) (fun _ h_ => h_.1)); have n2_ := Aside0.mk (Kd.R_lower (Kd.R_new' (Kd.R_new' ho0 (Kd.R_lt (by (with_reducible repeat (first | apply Kd.R_alloc | apply Kd.R_drewN | apply Kd.R_drew)); exact HO418.out))) (Kd.R_lt (by (with_reducible repeat (first | apply Kd.R_alloc | apply Kd.R_drewN | apply Kd.R_drew)); exact HO421.out))) (below_size (by repeat (first | (with_reducible first | exact HB.out | apply below_alloc | apply pw_below_drewN | apply below_drew1) | exact HB.out)))); have n3_ := Aside0.mk (Kd.R_lower (Kd.R_new' (Kd.R_new' ho1 (Kd.R_lt (by (with_reducible repeat (first | apply Kd.R_alloc | apply Kd.R_drewN | apply Kd.R_drew)); exact HO418.out))) (Kd.R_lt (by (with_reducible repeat (first | apply Kd.R_alloc | apply Kd.R_drewN | apply Kd.R_drew)); exact HO421.out))) (below_size (by repeat (first | (with_reducible first | exact HB.out | apply below_alloc | apply pw_below_drewN | apply below_drew1) | exact HB.out)))); have n4_ := Aside0.mk (below_step (by repeat (first | (with_reducible first | exact HB.out | apply below_alloc | apply pw_below_drewN | apply below_drew1) | exact HB.out)) hb); clear HO418; clear HO421; clear HB; have HO418 := n0_; have HO421 := n1_; have HO426 := n2_; have HO428 := n3_; have HB := n4_; clear n0_ n1_ n2_ n3_ n4_; (try clear hb); (try clear hb2); (try clear hk); (try clear hi); (try clear ho0); (try clear ho1)) | ((with_reducible refine gate_callee (f := 17) rfl ?_); refine goesL_ (some 33) rfl rfl Try.func17 (by kernel_rfl) rfl #[.slice Ao12 t416.length co12, .int .u64 a2] rfl (by (try simp only [List.map_toArray, List.map_cons, List.map_nil]); first | done | rfl | (simp only [List.length_drop, List.length_take]; rfl)) ?_; (with_reducible refine (nat_DivWord.calls _ _ t416 a2 t429 t430 t431 _ ?side1 ?side2 A7.out).mono ?_); (case side1 => repeat (first | exact (Kd.R_reads' HO418.out).2.2 | (with_reducible refine Kd.C_alloc ?_ _) | (with_reducible refine Kd.C_drewN ?_ _) | (with_reducible refine Kd.C_drew ?_))); (case side2 => exact (Kd.R_reads' HO418.out).2.1); rintro e w15 ⟨v432, rfl, ho0, hb⟩; refine ⟨_, rfl, ?_⟩; have n0_ := Aside0.mk (Kd.R_elder' (by (with_reducible repeat (first | apply Kd.R_alloc | apply Kd.R_drewN | apply Kd.R_drew)); exact HO418.out) (Kd.R_base ho0) hb); have n1_ := Aside0.mk (Kd.R_elder' (by (with_reducible repeat (first | apply Kd.R_alloc | apply Kd.R_drewN | apply Kd.R_drew)); exact HO421.out) (Kd.R_base ho0) hb); have n2_ := Aside0.mk (Kd.R_elder' (by (with_reducible repeat (first | apply Kd.R_alloc | apply Kd.R_drewN | apply Kd.R_drew)); exact HO426.out) (Kd.R_base ho0) hb); have n3_ := Aside0.mk (Kd.R_elder' (by (with_reducible repeat (first | apply Kd.R_alloc | apply Kd.R_drewN | apply Kd.R_drew)); exact HO428.out) (Kd.R_base ho0) hb); have n4_ := Aside0.mk (Kd.R_lower (Kd.R_new' (Kd.R_new' (Kd.R_new' (Kd.R_new' ho0 (Kd.R_lt (by (with_reducible repeat (first | apply Kd.R_alloc | apply Kd.R_drewN | apply Kd.R_drew)); exact HO418.out))) (Kd.R_lt (by (with_reducible repeat (first | apply Kd.R_alloc | apply Kd.R_drewN | apply Kd.R_drew)); exact HO421.out))) (Kd.R_lt (by (with_reducible repeat (first | apply Kd.R_alloc | apply Kd.R_drewN | apply Kd.R_drew)); exact HO426.out))) (Kd.R_lt (by (with_reducible repeat (first | apply Kd.R_alloc | apply Kd.R_drewN | apply Kd.R_drew)); exact HO428.out))) (below_size (by repeat (first | (with_reducible first | exact HB.out | apply below_alloc | apply pw_below_drewN | apply below_drew1) | exact HB.out)))); have n5_ := Aside0.mk (below_step (by repeat (first | (with_reducible first | exact HB.out | apply below_alloc | apply pw_below_drewN | apply below_drew1) | exact HB.out)) hb); clear HO418; clear HO421; clear HO426; clear HO428; clear HB; have HO418 := n0_; have HO421 := n1_; have HO426 := n2_; have HO428 := n3_; have HO433 := n4_; have HB := n5_; clear n0_ n1_ n2_ n3_ n4_ n5_; (try clear hb); (try clear hb2); (try clear hk); (try clear hi); (try clear ho0)) | ((with_reducible refine gate_callee (f := 18) rfl ?_); refine goesL_ (some 38) rfl rfl Try.func18 (by kernel_rfl) rfl #[.slice Ao13 t419.length co13] rfl (by (try simp only [List.map_toArray, List.map_cons, List.map_nil]); first | done | rfl | (simp only [List.length_drop, List.length_take]; rfl)) ?_; (with_reducible refine (reckonerref02_IsZero.calls k _ _ t419 t434 _ ?side1 ?side2 A8.out).mono ?_); (case side1 => repeat (first | exact (Kd.R_reads' HO421.out).2.2 | (with_reducible refine Kd.C_alloc ?_ _) | (with_reducible refine Kd.C_drewN ?_ _) | (with_reducible refine Kd.C_drew ?_))); (case side2 => exact (Kd.R_reads' HO421.out).2.1); rintro e w16 ⟨rfl, hb⟩; refine ⟨_, rfl, ?_⟩; have n0_ := Aside0.mk (Kd.R_below (by (with_reducible repeat (first | apply Kd.R_alloc | apply Kd.R_drewN | apply Kd.R_drew)); exact HO418.out) hb); have n1_ := Aside0.mk (Kd.R_below (by (with_reducible repeat (first | apply Kd.R_alloc | apply Kd.R_drewN | apply Kd.R_drew)); exact HO421.out) hb); have n2_ := Aside0.mk (Kd.R_below (by (with_reducible repeat (first | apply Kd.R_alloc | apply Kd.R_drewN | apply Kd.R_drew)); exact HO426.out) hb); have n3_ := Aside0.mk (Kd.R_below (by (with_reducible repeat (first | apply Kd.R_alloc | apply Kd.R_drewN | apply Kd.R_drew)); exact HO428.out) hb); have n4_ := Aside0.mk (Kd.R_below (by (with_reducible repeat (first | apply Kd.R_alloc | apply Kd.R_drewN | apply Kd.R_drew)); exact HO433.out) hb); have n5_ := Aside0.mk (below_step (by repeat (first | (with_reducible first | exact HB.out | apply below_alloc | apply pw_below_drewN | apply below_drew1) | exact HB.out)) hb); clear HO418; clear HO421; clear HO426; clear HO428; clear HO433; clear HB; have HO418 := n0_; have HO421 := n1_; have HO426 := n2_; have HO428 := n3_; have HO433 := n4_; have HB := n5_; clear n0_ n1_ n2_ n3_ n4_ n5_; (try clear hb); (try clear hb2); (try clear hk); (try clear hi)))
 (try simp only [Act.put, List.setIfInBounds_toArray, List.set_cons_zero, List.set_cons_succ])
 go_cut [] (fun wc => ∃ (kq : Nat), Aside0 (reckonerlaw02_NatDivides.j0 kq a2 t416 t429 t430 t431 = some r) ∧ Aside0 (kq ≤ k) ∧ Aside0 (Kd.R (Kd.int .u64) 33 wc w.heap.size (fun k_ => some k_ ≠ (v432 : Value).ownBlock) (.slice Ao12 t416.length co12) t416) ∧ Aside0 (Kd.R (Kd.int .u64) 33 wc w.heap.size (fun k_ => some k_ ≠ ((.slice Ao12 t416.length co12) : Value).ownBlock) v432 t429) ∧ Aside0 (Below w.heap.size w wc))
 case first =>
  have H := HC9.out
  clear HC9
  by_cases c17 : t434 = true
  ·subst c17
   have H1 : (if t424 = 5 then (if (wrap64 ((t422.length : Int) + (t423.length : Int))) = 0 then (reckonerlaw02_NatDivides.j0 k a2 t416 t429 t430 t431) else (none)) else (none)) = some r := by rw [if_pos rfl] at H; exact H
   clear H
   have H := H1
   clear H1
   by_cases c18 : t424 = 5
   ·rw [if_pos c18] at H
    have c18b0 : (t424 == 5) = true := beq_iff_eq.mpr c18
    have c18b1 : (t424 != 5) = false := bne_eq_false_iff_eq.mpr c18
    clear c18
    (first | rw [c18b0] | (simp only [i64_w, i32_w]; rw [c18b0]) | skip)
    by_cases c19 : (wrap64 ((t422.length : Int) + (t423.length : Int))) = 0
    ·rw [if_pos c19] at H
     have c19b0 : ((wrap64 ((t422.length : Int) + (t423.length : Int))) == 0) = true := beq_iff_eq.mpr c19
     have c19b1 : ((wrap64 ((t422.length : Int) + (t423.length : Int))) != 0) = false := bne_eq_false_iff_eq.mpr c19
     clear c19
     have H' := Aside0.mk H
     clear H
     obtain ⟨Ao20, co20, eo20⟩ := Kd.R_slice HO426.out
     subst eo20
     obtain ⟨Ao21, co21, eo21⟩ := Kd.R_slice HO428.out
     subst eo21
     go_wp2
     go_meet
     case rel => exact ⟨_, H', ⟨by first | omega | exact Nat.le_refl _⟩, ⟨by (with_reducible repeat (first | apply Kd.R_alloc | apply Kd.R_drewN | apply Kd.R_drew)); exact Kd.R_mono HO418.out (fun _ hk => hk.2)⟩, ⟨by (with_reducible repeat (first | apply Kd.R_alloc | apply Kd.R_drewN | apply Kd.R_drew)); exact Kd.R_mono HO433.out (fun _ hk => hk.1.1.1.2)⟩, ⟨by repeat (first | (with_reducible first | exact HB.out | apply below_alloc | apply pw_below_drewN | apply below_drew1) | exact HB.out)⟩⟩
    ·rw [if_neg c19] at H
     exact absurd H (by simp)
   ·rw [if_neg c18] at H
    exact absurd H (by simp)
  ·replace c17 := Bool.eq_false_iff.mpr c17
   subst c17
   have H1 : ((reckonerref02_DivMod.f k t416 t419).bind fun bt435 => (if t424 = 0 then ((reckonerref02_Is.f k t422 bt435.1).bind fun t441 => (if t441 = true then ((reckonerref02_Is.f k t423 bt435.2).bind fun t442 => (if t442 = true then (reckonerlaw02_NatDivides.j0 k a2 t416 t429 t430 t431) else (none))) else (none))) else (none))) = some r := by rw [if_neg (show ¬ (false = true) by decide)] at H; exact H
   clear H
   have H := H1
   clear H1
   replace H := Option.bind_eq_some_iff.mp H
   obtain ⟨⟨t435, t436⟩, A220, H⟩ := H
   replace H : (if t424 = 0 then ((reckonerref02_Is.f k t422 t435).bind fun t441 => (if t441 = true then ((reckonerref02_Is.f k t423 t436).bind fun t442 => (if t442 = true then (reckonerlaw02_NatDivides.j0 k a2 t416 t429 t430 t431) else (none))) else (none))) else (none)) = some r := H
   have A22 := Aside0.mk A220
   clear A220
   by_cases c23 : t424 = 0
   ·rw [if_pos c23] at H
    have c23b0 : (t424 == 0) = true := beq_iff_eq.mpr c23
    have c23b1 : (t424 != 0) = false := bne_eq_false_iff_eq.mpr c23
    clear c23
    replace H := Option.bind_eq_some_iff.mp H
    obtain ⟨t441, A240, H⟩ := H
    replace H : (if t441 = true then ((reckonerref02_Is.f k t423 t436).bind fun t442 => (if t442 = true then (reckonerlaw02_NatDivides.j0 k a2 t416 t429 t430 t431) else (none))) else (none)) = some r := H
    have A24 := Aside0.mk A240
    clear A240
    by_cases c25 : t441 = true
    ·subst c25
     have H1 : ((reckonerref02_Is.f k t423 t436).bind fun t442 => (if t442 = true then (reckonerlaw02_NatDivides.j0 k a2 t416 t429 t430 t431) else (none))) = some r := by rw [if_pos rfl] at H; exact H
     clear H
     have H := H1
     clear H1
     replace H := Option.bind_eq_some_iff.mp H
     obtain ⟨t442, A260, H⟩ := H
     replace H : (if t442 = true then (reckonerlaw02_NatDivides.j0 k a2 t416 t429 t430 t431) else (none)) = some r := H
     have A26 := Aside0.mk A260
     clear A260
     by_cases c27 : t442 = true
     ·subst c27
      have H1 : (reckonerlaw02_NatDivides.j0 k a2 t416 t429 t430 t431) = some r := by rw [if_pos rfl] at H; exact H
      clear H
      have H := H1
      clear H1
      have H' := Aside0.mk H
      clear H
      go_wp2_with (first | ((with_reducible refine gate_callee (f := 19) rfl ?_); refine goesL_ (some 52) rfl rfl Try.func19 (by kernel_rfl) rfl #[.slice Ao12 t416.length co12, .slice Ao13 t419.length co13] rfl (by (try simp only [List.map_toArray, List.map_cons, List.map_nil]); first | done | rfl | (simp only [List.length_drop, List.length_take]; rfl)) ?_; (with_reducible refine (reckonerref02_DivMod.calls k _ _ t416 _ _ t419 t435 t436 _ ?side1 ?side2 ?side3 ?side4 A22.out).mono ?_); (case side1 => repeat (first | exact (Kd.R_reads' HO418.out).2.2 | (with_reducible refine Kd.C_alloc ?_ _) | (with_reducible refine Kd.C_drewN ?_ _) | (with_reducible refine Kd.C_drew ?_))); (case side2 => exact (Kd.R_reads' HO418.out).2.1); (case side3 => repeat (first | exact (Kd.R_reads' HO421.out).2.2 | (with_reducible refine Kd.C_alloc ?_ _) | (with_reducible refine Kd.C_drewN ?_ _) | (with_reducible refine Kd.C_drew ?_))); (case side4 => exact (Kd.R_reads' HO421.out).2.1); rintro e w28 ⟨v437, v439, rfl, ho0, ho1, hb⟩; refine ⟨_, rfl, ?_⟩; have n0_ := Aside0.mk (Kd.R_mono (Kd.R_told (Kd.R_told (Kd.R_old (by (with_reducible repeat (first | apply Kd.R_alloc | apply Kd.R_drewN | apply Kd.R_drew)); exact HO418.out) hb) (Kd.R_base ho0)) (Kd.R_base ho1)) (fun _ h_ => h_.1)); have n1_ := Aside0.mk (Kd.R_mono (Kd.R_told (Kd.R_told (Kd.R_old (by (with_reducible repeat (first | apply Kd.R_alloc | apply Kd.R_drewN | apply Kd.R_drew)); exact HO421.out) hb) (Kd.R_base ho0)) (Kd.R_base ho1)) (fun _ h_ => h_.1)); have n2_ := Aside0.mk (Kd.R_mono (Kd.R_told (Kd.R_told (Kd.R_old (by (with_reducible repeat (first | apply Kd.R_alloc | apply Kd.R_drewN | apply Kd.R_drew)); exact HO426.out) hb) (Kd.R_base ho0)) (Kd.R_base ho1)) (fun _ h_ => h_.1)); have n3_ := Aside0.mk (Kd.R_mono (Kd.R_told (Kd.R_told (Kd.R_old (by (with_reducible repeat (first | apply Kd.R_alloc | apply Kd.R_drewN | apply Kd.R_drew)); exact HO428.out) hb) (Kd.R_base ho0)) (Kd.R_base ho1)) (fun _ h_ => h_.1)); have n4_ := Aside0.mk (Kd.R_mono (Kd.R_told (Kd.R_told (Kd.R_old (by (with_reducible repeat (first | apply Kd.R_alloc | apply Kd.R_drewN | apply Kd.R_drew)); exact HO433.out) hb) (Kd.R_base ho0)) (Kd.R_base ho1)) (fun _ h_ => h_.1)); have n5_ := Aside0.mk (Kd.R_lower (Kd.R_new' (Kd.R_new' (Kd.R_new' (Kd.R_new' (Kd.R_new' ho0 (Kd.R_lt (by (with_reducible repeat (first | apply Kd.R_alloc | apply Kd.R_drewN | apply Kd.R_drew)); exact HO418.out))) (Kd.R_lt (by (with_reducible repeat (first | apply Kd.R_alloc | apply Kd.R_drewN | apply Kd.R_drew)); exact HO421.out))) (Kd.R_lt (by (with_reducible repeat (first | apply Kd.R_alloc | apply Kd.R_drewN | apply Kd.R_drew)); exact HO426.out))) (Kd.R_lt (by (with_reducible repeat (first | apply Kd.R_alloc | apply Kd.R_drewN | apply Kd.R_drew)); exact HO428.out))) (Kd.R_lt (by (with_reducible repeat (first | apply Kd.R_alloc | apply Kd.R_drewN | apply Kd.R_drew)); exact HO433.out))) (below_size (by repeat (first | (with_reducible first | exact HB.out | apply below_alloc | apply pw_below_drewN | apply below_drew1) | exact HB.out)))); have n6_ := Aside0.mk (Kd.R_lower (Kd.R_new' (Kd.R_new' (Kd.R_new' (Kd.R_new' (Kd.R_new' ho1 (Kd.R_lt (by (with_reducible repeat (first | apply Kd.R_alloc | apply Kd.R_drewN | apply Kd.R_drew)); exact HO418.out))) (Kd.R_lt (by (with_reducible repeat (first | apply Kd.R_alloc | apply Kd.R_drewN | apply Kd.R_drew)); exact HO421.out))) (Kd.R_lt (by (with_reducible repeat (first | apply Kd.R_alloc | apply Kd.R_drewN | apply Kd.R_drew)); exact HO426.out))) (Kd.R_lt (by (with_reducible repeat (first | apply Kd.R_alloc | apply Kd.R_drewN | apply Kd.R_drew)); exact HO428.out))) (Kd.R_lt (by (with_reducible repeat (first | apply Kd.R_alloc | apply Kd.R_drewN | apply Kd.R_drew)); exact HO433.out))) (below_size (by repeat (first | (with_reducible first | exact HB.out | apply below_alloc | apply pw_below_drewN | apply below_drew1) | exact HB.out)))); have n7_ := Aside0.mk (below_step (by repeat (first | (with_reducible first | exact HB.out | apply below_alloc | apply pw_below_drewN | apply below_drew1) | exact HB.out)) hb); clear HO418; clear HO421; clear HO426; clear HO428; clear HO433; clear HB; have HO418 := n0_; have HO421 := n1_; have HO426 := n2_; have HO428 := n3_; have HO433 := n4_; have HO438 := n5_; have HO440 := n6_; have HB := n7_; clear n0_ n1_ n2_ n3_ n4_ n5_ n6_ n7_; (try clear hb); (try clear hb2); (try clear hk); (try clear hi); (try clear ho0); (try clear ho1); obtain ⟨Ao29, co29, eo29⟩ := Kd.R_slice HO426.out; subst eo29; obtain ⟨Ao30, co30, eo30⟩ := Kd.R_slice HO438.out; subst eo30) | (go_at_call 13; (with_reducible refine (reckonerref02_Is.calls k _ _ t422 _ _ t435 true _ ?side1 ?side2 ?side3 ?side4 A24.out).mono ?_); (case side1 => repeat (first | exact (Kd.R_reads' HO426.out).2.2 | (with_reducible refine Kd.C_alloc ?_ _) | (with_reducible refine Kd.C_drewN ?_ _) | (with_reducible refine Kd.C_drew ?_))); (case side2 => exact (Kd.R_reads' HO426.out).2.1); (case side3 => repeat (first | exact (Kd.R_reads' HO438.out).2.2 | (with_reducible refine Kd.C_alloc ?_ _) | (with_reducible refine Kd.C_drewN ?_ _) | (with_reducible refine Kd.C_drew ?_))); (case side4 => exact (Kd.R_reads' HO438.out).2.1); rintro e w31 ⟨rfl, hb⟩; have n0_ := Aside0.mk (Kd.R_below (by (with_reducible repeat (first | apply Kd.R_alloc | apply Kd.R_drewN | apply Kd.R_drew)); exact HO418.out) hb); have n1_ := Aside0.mk (Kd.R_below (by (with_reducible repeat (first | apply Kd.R_alloc | apply Kd.R_drewN | apply Kd.R_drew)); exact HO421.out) hb); have n2_ := Aside0.mk (Kd.R_below (by (with_reducible repeat (first | apply Kd.R_alloc | apply Kd.R_drewN | apply Kd.R_drew)); exact HO426.out) hb); have n3_ := Aside0.mk (Kd.R_below (by (with_reducible repeat (first | apply Kd.R_alloc | apply Kd.R_drewN | apply Kd.R_drew)); exact HO428.out) hb); have n4_ := Aside0.mk (Kd.R_below (by (with_reducible repeat (first | apply Kd.R_alloc | apply Kd.R_drewN | apply Kd.R_drew)); exact HO433.out) hb); have n5_ := Aside0.mk (Kd.R_below (by (with_reducible repeat (first | apply Kd.R_alloc | apply Kd.R_drewN | apply Kd.R_drew)); exact HO438.out) hb); have n6_ := Aside0.mk (Kd.R_below (by (with_reducible repeat (first | apply Kd.R_alloc | apply Kd.R_drewN | apply Kd.R_drew)); exact HO440.out) hb); have n7_ := Aside0.mk (below_step (by repeat (first | (with_reducible first | exact HB.out | apply below_alloc | apply pw_below_drewN | apply below_drew1) | exact HB.out)) hb); clear HO418; clear HO421; clear HO426; clear HO428; clear HO433; clear HO438; clear HO440; clear HB; have HO418 := n0_; have HO421 := n1_; have HO426 := n2_; have HO428 := n3_; have HO433 := n4_; have HO438 := n5_; have HO440 := n6_; have HB := n7_; clear n0_ n1_ n2_ n3_ n4_ n5_ n6_ n7_; (try clear hb); (try clear hb2); (try clear hk); (try clear hi); obtain ⟨Ao32, co32, eo32⟩ := Kd.R_slice HO428.out; subst eo32; obtain ⟨Ao33, co33, eo33⟩ := Kd.R_slice HO440.out; subst eo33) | (go_at_call 13; (with_reducible refine (reckonerref02_Is.calls k _ _ t423 _ _ t436 true _ ?side1 ?side2 ?side3 ?side4 A26.out).mono ?_); (case side1 => repeat (first | exact (Kd.R_reads' HO428.out).2.2 | (with_reducible refine Kd.C_alloc ?_ _) | (with_reducible refine Kd.C_drewN ?_ _) | (with_reducible refine Kd.C_drew ?_))); (case side2 => exact (Kd.R_reads' HO428.out).2.1); (case side3 => repeat (first | exact (Kd.R_reads' HO440.out).2.2 | (with_reducible refine Kd.C_alloc ?_ _) | (with_reducible refine Kd.C_drewN ?_ _) | (with_reducible refine Kd.C_drew ?_))); (case side4 => exact (Kd.R_reads' HO440.out).2.1); rintro e w34 ⟨rfl, hb⟩; have n0_ := Aside0.mk (Kd.R_below (by (with_reducible repeat (first | apply Kd.R_alloc | apply Kd.R_drewN | apply Kd.R_drew)); exact HO418.out) hb); have n1_ := Aside0.mk (Kd.R_below (by (with_reducible repeat (first | apply Kd.R_alloc | apply Kd.R_drewN | apply Kd.R_drew)); exact HO421.out) hb); have n2_ := Aside0.mk (Kd.R_below (by (with_reducible repeat (first | apply Kd.R_alloc | apply Kd.R_drewN | apply Kd.R_drew)); exact HO426.out) hb); have n3_ := Aside0.mk (Kd.R_below (by (with_reducible repeat (first | apply Kd.R_alloc | apply Kd.R_drewN | apply Kd.R_drew)); exact HO428.out) hb); have n4_ := Aside0.mk (Kd.R_below (by (with_reducible repeat (first | apply Kd.R_alloc | apply Kd.R_drewN | apply Kd.R_drew)); exact HO433.out) hb); have n5_ := Aside0.mk (Kd.R_below (by (with_reducible repeat (first | apply Kd.R_alloc | apply Kd.R_drewN | apply Kd.R_drew)); exact HO438.out) hb); have n6_ := Aside0.mk (Kd.R_below (by (with_reducible repeat (first | apply Kd.R_alloc | apply Kd.R_drewN | apply Kd.R_drew)); exact HO440.out) hb); have n7_ := Aside0.mk (below_step (by repeat (first | (with_reducible first | exact HB.out | apply below_alloc | apply pw_below_drewN | apply below_drew1) | exact HB.out)) hb); clear HO418; clear HO421; clear HO426; clear HO428; clear HO433; clear HO438; clear HO440; clear HB; have HO418 := n0_; have HO421 := n1_; have HO426 := n2_; have HO428 := n3_; have HO433 := n4_; have HO438 := n5_; have HO440 := n6_; have HB := n7_; clear n0_ n1_ n2_ n3_ n4_ n5_ n6_ n7_; (try clear hb); (try clear hb2); (try clear hk); (try clear hi)))
      go_meet
      case rel => exact ⟨_, H', ⟨by first | omega | exact Nat.le_refl _⟩, ⟨by (with_reducible repeat (first | apply Kd.R_alloc | apply Kd.R_drewN | apply Kd.R_drew)); exact Kd.R_mono HO418.out (fun _ hk => hk.1.1.2)⟩, ⟨by (with_reducible repeat (first | apply Kd.R_alloc | apply Kd.R_drewN | apply Kd.R_drew)); exact Kd.R_mono HO433.out (fun _ hk => hk.1.1.1.1.1.2)⟩, ⟨by repeat (first | (with_reducible first | exact HB.out | apply below_alloc | apply pw_below_drewN | apply below_drew1) | exact HB.out)⟩⟩
     ·replace c27 := Bool.eq_false_iff.mpr c27
      subst c27
      have H1 : (none) = some r := by rw [if_neg (show ¬ (false = true) by decide)] at H; exact H
      clear H
      have H := H1
      clear H1
      exact absurd H (by simp)
    ·replace c25 := Bool.eq_false_iff.mpr c25
     subst c25
     have H1 : (none) = some r := by rw [if_neg (show ¬ (false = true) by decide)] at H; exact H
     clear H
     have H := H1
     clear H1
     exact absurd H (by simp)
   ·rw [if_neg c23] at H
    exact absurd H (by simp)
 case rest =>
  clear HC9
  try clear c1
  try clear c2
  try clear p2
  try clear c4
  try clear p6
  try clear c10
  try clear c16
  try clear c17
  try clear c18
  try clear c18b0
  try clear c18b1
  try clear c19
  try clear c19b0
  try clear c19b1
  try clear c23
  try clear c23b0
  try clear c23b1
  try clear c25
  try clear c27
  obtain ⟨kq, HA, HJ8, HO_7, HO_12, HB⟩ := hcut
  cases kq with
  | zero => exact absurd HA.out (by simp [reckonerlaw02_NatDivides.j0])
  | succ kj8 =>
   have H := HA.out
   clear HA
   simp only [reckonerlaw02_NatDivides.j0] at H
   by_cases c35 : a2 = 0
   ·rw [if_pos c35] at H
    have c35b0 : (a2 == 0) = true := beq_iff_eq.mpr c35
    have c35b1 : (a2 != 0) = false := bne_eq_false_iff_eq.mpr c35
    clear c35
    by_cases c36 : t431 = 5
    ·rw [if_pos c36] at H
     have c36b0 : (t431 == 5) = true := beq_iff_eq.mpr c36
     have c36b1 : (t431 != 5) = false := bne_eq_false_iff_eq.mpr c36
     clear c36
     by_cases c37 : (t429.length : Int) = 0
     ·rw [if_pos c37] at H
      have c37b0 : ((t429.length : Int) == 0) = true := beq_iff_eq.mpr c37
      have c37b1 : ((t429.length : Int) != 0) = false := bne_eq_false_iff_eq.mpr c37
      clear c37
      by_cases c38 : t430 = 0
      ·rw [if_pos c38] at H
       have c38b0 : (t430 == 0) = true := beq_iff_eq.mpr c38
       have c38b1 : (t430 != 0) = false := bne_eq_false_iff_eq.mpr c38
       clear c38
       replace H := Option.bind_eq_some_iff.mp H
       obtain ⟨t443, A390, H⟩ := H
       replace H : (some t443) = some r := H
       have A39 := Aside0.mk A390
       clear A390
       obtain rfl := Option.some.inj H
       obtain ⟨Ao40, co40, eo40⟩ := Kd.R_slice HO_12.out
       subst eo40
       go_wp2_with (first | (go_at_call 15; (with_reducible refine (reckonerlaw02_awake.calls kj8  t443 _ A39.out).mono ?_); rintro e w41 ⟨rfl, hb⟩; have n0_ := Aside0.mk (Kd.R_below (by (with_reducible repeat (first | apply Kd.R_alloc | apply Kd.R_drewN | apply Kd.R_drew)); exact HO_7.out) hb); have n1_ := Aside0.mk (Kd.R_below (by (with_reducible repeat (first | apply Kd.R_alloc | apply Kd.R_drewN | apply Kd.R_drew)); exact HO_12.out) hb); have n2_ := Aside0.mk (below_step (by repeat (first | (with_reducible first | exact HB.out | apply below_alloc | apply pw_below_drewN | apply below_drew1) | exact HB.out)) hb); clear HO_7; clear HO_12; clear HB; have HO_7 := n0_; have HO_12 := n1_; have HB := n2_; clear n0_ n1_ n2_; (try clear hb); (try clear hb2); (try clear hk); (try clear hi)))
       go_ret
       exact ⟨by first | rfl | (simp [errW_none, errW_some] <;> rfl) | (simp [*, errW_none, errW_some] <;> rfl), by repeat (first | (with_reducible first | exact HB.out | apply below_alloc | apply pw_below_drewN | apply below_drew1) | exact HB.out)⟩
      ·rw [if_neg c38] at H
       exact absurd H (by simp)
     ·rw [if_neg c37] at H
      exact absurd H (by simp)
    ·rw [if_neg c36] at H
     exact absurd H (by simp)
   ·rw [if_neg c35] at H
    have c35b0 : (a2 == 0) = false := beq_eq_false_iff_ne.mpr c35
    have c35b1 : (a2 != 0) = true := bne_iff_ne.mpr c35
    obtain ⟨y444, hy444⟩ : ∃ y_ : List Int, y_ = (([a2] : List Int)) := ⟨_, rfl⟩
    replace H : ((reckonerref02_DivMod.f kj8 t416 y444).bind fun bt447 => (if t431 = 0 then ((reckonerref02_Is.f kj8 t429 bt447.1).bind fun t453 => (if t453 = true then ((reckonerref02_Cmp.f kj8 (([t430] : List Int)) bt447.2).bind fun t457 => (if t457 = 0 then ((reckonerlaw02_awake.f kj8).bind fun t458 => (some t458)) else (none))) else (none))) else (none))) = some r := by first | (rw [hy444]; with_reducible exact H) | (have H2_ := (Option.bind_some _ _).symm.trans H; rw [hy444]; with_reducible exact H2_) | (have H2_ := (Option.bind_some _ _).symm.trans H; with_reducible exact H2_) | with_reducible exact H | (rw [hy444]; exact H) | exact H
    have Ny444 := Aside0.mk hy444
    clear hy444
    replace H := Option.bind_eq_some_iff.mp H
    obtain ⟨⟨t447, t448⟩, A420, H⟩ := H
    replace H : (if t431 = 0 then ((reckonerref02_Is.f kj8 t429 t447).bind fun t453 => (if t453 = true then ((reckonerref02_Cmp.f kj8 (([t430] : List Int)) t448).bind fun t457 => (if t457 = 0 then ((reckonerlaw02_awake.f kj8).bind fun t458 => (some t458)) else (none))) else (none))) else (none)) = some r := H
    have A42 := Aside0.mk A420
    clear A420
    by_cases c43 : t431 = 0
    ·rw [if_pos c43] at H
     have c43b0 : (t431 == 0) = true := beq_iff_eq.mpr c43
     have c43b1 : (t431 != 0) = false := bne_eq_false_iff_eq.mpr c43
     clear c43
     replace H := Option.bind_eq_some_iff.mp H
     obtain ⟨t453, A440, H⟩ := H
     replace H : (if t453 = true then ((reckonerref02_Cmp.f kj8 (([t430] : List Int)) t448).bind fun t457 => (if t457 = 0 then ((reckonerlaw02_awake.f kj8).bind fun t458 => (some t458)) else (none))) else (none)) = some r := H
     have A44 := Aside0.mk A440
     clear A440
     by_cases c45 : t453 = true
     ·subst c45
      have H1 : ((reckonerref02_Cmp.f kj8 (([t430] : List Int)) t448).bind fun t457 => (if t457 = 0 then ((reckonerlaw02_awake.f kj8).bind fun t458 => (some t458)) else (none))) = some r := by rw [if_pos rfl] at H; exact H
      clear H
      have H := H1
      clear H1
      obtain ⟨y454, hy454⟩ : ∃ y_ : List Int, y_ = (([t430] : List Int)) := ⟨_, rfl⟩
      replace H : ((reckonerref02_Cmp.f kj8 y454 t448).bind fun t457 => (if t457 = 0 then ((reckonerlaw02_awake.f kj8).bind fun t458 => (some t458)) else (none))) = some r := by first | (rw [hy454]; with_reducible exact H) | (have H2_ := (Option.bind_some _ _).symm.trans H; rw [hy454]; with_reducible exact H2_) | (have H2_ := (Option.bind_some _ _).symm.trans H; with_reducible exact H2_) | with_reducible exact H | (rw [hy454]; exact H) | exact H
      have Ny454 := Aside0.mk hy454
      clear hy454
      replace H := Option.bind_eq_some_iff.mp H
      obtain ⟨t457, A460, H⟩ := H
      replace H : (if t457 = 0 then ((reckonerlaw02_awake.f kj8).bind fun t458 => (some t458)) else (none)) = some r := H
      have A46 := Aside0.mk A460
      clear A460
      by_cases c47 : t457 = 0
      ·rw [if_pos c47] at H
       have c47b0 : (t457 == 0) = true := beq_iff_eq.mpr c47
       have c47b1 : (t457 != 0) = false := bne_eq_false_iff_eq.mpr c47
       clear c47
       replace H := Option.bind_eq_some_iff.mp H
       obtain ⟨t458, A480, H⟩ := H
       replace H : (some t458) = some r := H
       have A48 := Aside0.mk A480
       clear A480
       obtain rfl := Option.some.inj H
       go_wp2_with (first | ((with_reducible refine gate_dst (N := 88) rfl ?_); (try (refine gate_guard (by rfl) ?_; dsimp only)); refine Kd.R_lit (Kd.int .u64) _ 33 ?hg (N := 88) ?hd (xs := ([a2] : List Int)) (inner := [.int .u64 a2]) (ok := fun _ => True) (okp := fun _ => True) ?hr ?hp (fun _ hk => hk) trivial (Below.refl _ _) (Nat.le_refl _) (by simp) ?_; (case hd => rfl); (case hg => rfl); (case hr => first | (go_simp; done) | (go_simp; rfl)); (case hp => exact (Reps.one (show Kd.M (Kd.int .u64) _ _ _ a2 [.int .u64 a2] from rfl) (Reps.none _ _))); intro v445 w49 ho50 hb hg_ hnew_; clear hg_ hnew_; (first | rw [← Ny444.out] at ho50 | (simp only [Int.reduceToNat] at ho50; rw [← Ny444.out] at ho50)); have n0_ := Aside0.mk (Kd.R_elder' (by (with_reducible repeat (first | apply Kd.R_alloc | apply Kd.R_drewN | apply Kd.R_drew)); exact HO_7.out) (Kd.R_base ho50) hb); have n1_ := Aside0.mk (Kd.R_elder' (by (with_reducible repeat (first | apply Kd.R_alloc | apply Kd.R_drewN | apply Kd.R_drew)); exact HO_12.out) (Kd.R_base ho50) hb); have n2_ := Aside0.mk (Kd.R_lower (Kd.R_new' (Kd.R_new' ho50 (Kd.R_lt (by (with_reducible repeat (first | apply Kd.R_alloc | apply Kd.R_drewN | apply Kd.R_drew)); exact HO_7.out))) (Kd.R_lt (by (with_reducible repeat (first | apply Kd.R_alloc | apply Kd.R_drewN | apply Kd.R_drew)); exact HO_12.out))) (below_size (by repeat (first | (with_reducible first | exact HB.out | apply below_alloc | apply pw_below_drewN | apply below_drew1) | exact HB.out)))); have n3_ := Aside0.mk (below_step (by repeat (first | (with_reducible first | exact HB.out | apply below_alloc | apply pw_below_drewN | apply below_drew1) | exact HB.out)) hb); clear HO_7; clear HO_12; clear HB; have HO_7 := n0_; have HO_12 := n1_; have HO446 := n2_; have HB := n3_; clear n0_ n1_ n2_ n3_; clear hb ho50; obtain ⟨Ao51, co51, eo51⟩ := Kd.R_slice HO446.out; subst eo51) | ((with_reducible refine gate_callee (f := 19) rfl ?_); refine goesL_ (some 89) rfl rfl Try.func19 (by kernel_rfl) rfl #[.slice Ao12 t416.length co12, .slice Ao51 y444.length co51] rfl (by (try simp only [List.map_toArray, List.map_cons, List.map_nil]); first | done | rfl | (simp only [List.length_drop, List.length_take]; rfl)) ?_; (with_reducible refine (reckonerref02_DivMod.calls kj8 _ _ t416 _ _ y444 t447 t448 _ ?side1 ?side2 ?side3 ?side4 A42.out).mono ?_); (case side1 => repeat (first | exact (Kd.R_reads' HO_7.out).2.2 | (with_reducible refine Kd.C_alloc ?_ _) | (with_reducible refine Kd.C_drewN ?_ _) | (with_reducible refine Kd.C_drew ?_))); (case side2 => exact (Kd.R_reads' HO_7.out).2.1); (case side3 => repeat (first | exact (Kd.R_reads' HO446.out).2.2 | (with_reducible refine Kd.C_alloc ?_ _) | (with_reducible refine Kd.C_drewN ?_ _) | (with_reducible refine Kd.C_drew ?_))); (case side4 => exact (Kd.R_reads' HO446.out).2.1); rintro e w52 ⟨v449, v451, rfl, ho0, ho1, hb⟩; refine ⟨_, rfl, ?_⟩; have n0_ := Aside0.mk (Kd.R_mono (Kd.R_told (Kd.R_told (Kd.R_old (by (with_reducible repeat (first | apply Kd.R_alloc | apply Kd.R_drewN | apply Kd.R_drew)); exact HO_7.out) hb) (Kd.R_base ho0)) (Kd.R_base ho1)) (fun _ h_ => h_.1)); have n1_ := Aside0.mk (Kd.R_mono (Kd.R_told (Kd.R_told (Kd.R_old (by (with_reducible repeat (first | apply Kd.R_alloc | apply Kd.R_drewN | apply Kd.R_drew)); exact HO_12.out) hb) (Kd.R_base ho0)) (Kd.R_base ho1)) (fun _ h_ => h_.1)); have n2_ := Aside0.mk (Kd.R_mono (Kd.R_told (Kd.R_told (Kd.R_old (by (with_reducible repeat (first | apply Kd.R_alloc | apply Kd.R_drewN | apply Kd.R_drew)); exact HO446.out) hb) (Kd.R_base ho0)) (Kd.R_base ho1)) (fun _ h_ => h_.1)); have n3_ := Aside0.mk (Kd.R_lower (Kd.R_new' (Kd.R_new' (Kd.R_new' ho0 (Kd.R_lt (by (with_reducible repeat (first | apply Kd.R_alloc | apply Kd.R_drewN | apply Kd.R_drew)); exact HO_7.out))) (Kd.R_lt (by (with_reducible repeat (first | apply Kd.R_alloc | apply Kd.R_drewN | apply Kd.R_drew)); exact HO_12.out))) (Kd.R_lt (by (with_reducible repeat (first | apply Kd.R_alloc | apply Kd.R_drewN | apply Kd.R_drew)); exact HO446.out))) (below_size (by repeat (first | (with_reducible first | exact HB.out | apply below_alloc | apply pw_below_drewN | apply below_drew1) | exact HB.out)))); have n4_ := Aside0.mk (Kd.R_lower (Kd.R_new' (Kd.R_new' (Kd.R_new' ho1 (Kd.R_lt (by (with_reducible repeat (first | apply Kd.R_alloc | apply Kd.R_drewN | apply Kd.R_drew)); exact HO_7.out))) (Kd.R_lt (by (with_reducible repeat (first | apply Kd.R_alloc | apply Kd.R_drewN | apply Kd.R_drew)); exact HO_12.out))) (Kd.R_lt (by (with_reducible repeat (first | apply Kd.R_alloc | apply Kd.R_drewN | apply Kd.R_drew)); exact HO446.out))) (below_size (by repeat (first | (with_reducible first | exact HB.out | apply below_alloc | apply pw_below_drewN | apply below_drew1) | exact HB.out)))); have n5_ := Aside0.mk (below_step (by repeat (first | (with_reducible first | exact HB.out | apply below_alloc | apply pw_below_drewN | apply below_drew1) | exact HB.out)) hb); clear HO_7; clear HO_12; clear HO446; clear HB; have HO_7 := n0_; have HO_12 := n1_; have HO446 := n2_; have HO450 := n3_; have HO452 := n4_; have HB := n5_; clear n0_ n1_ n2_ n3_ n4_ n5_; (try clear hb); (try clear hb2); (try clear hk); (try clear hi); (try clear ho0); (try clear ho1); obtain ⟨Ao53, co53, eo53⟩ := Kd.R_slice HO_12.out; subst eo53; obtain ⟨Ao54, co54, eo54⟩ := Kd.R_slice HO450.out; subst eo54) | (go_at_call 13; (with_reducible refine (reckonerref02_Is.calls kj8 _ _ t429 _ _ t447 true _ ?side1 ?side2 ?side3 ?side4 A44.out).mono ?_); (case side1 => repeat (first | exact (Kd.R_reads' HO_12.out).2.2 | (with_reducible refine Kd.C_alloc ?_ _) | (with_reducible refine Kd.C_drewN ?_ _) | (with_reducible refine Kd.C_drew ?_))); (case side2 => exact (Kd.R_reads' HO_12.out).2.1); (case side3 => repeat (first | exact (Kd.R_reads' HO450.out).2.2 | (with_reducible refine Kd.C_alloc ?_ _) | (with_reducible refine Kd.C_drewN ?_ _) | (with_reducible refine Kd.C_drew ?_))); (case side4 => exact (Kd.R_reads' HO450.out).2.1); rintro e w55 ⟨rfl, hb⟩; have n0_ := Aside0.mk (Kd.R_below (by (with_reducible repeat (first | apply Kd.R_alloc | apply Kd.R_drewN | apply Kd.R_drew)); exact HO_7.out) hb); have n1_ := Aside0.mk (Kd.R_below (by (with_reducible repeat (first | apply Kd.R_alloc | apply Kd.R_drewN | apply Kd.R_drew)); exact HO_12.out) hb); have n2_ := Aside0.mk (Kd.R_below (by (with_reducible repeat (first | apply Kd.R_alloc | apply Kd.R_drewN | apply Kd.R_drew)); exact HO446.out) hb); have n3_ := Aside0.mk (Kd.R_below (by (with_reducible repeat (first | apply Kd.R_alloc | apply Kd.R_drewN | apply Kd.R_drew)); exact HO450.out) hb); have n4_ := Aside0.mk (Kd.R_below (by (with_reducible repeat (first | apply Kd.R_alloc | apply Kd.R_drewN | apply Kd.R_drew)); exact HO452.out) hb); have n5_ := Aside0.mk (below_step (by repeat (first | (with_reducible first | exact HB.out | apply below_alloc | apply pw_below_drewN | apply below_drew1) | exact HB.out)) hb); clear HO_7; clear HO_12; clear HO446; clear HO450; clear HO452; clear HB; have HO_7 := n0_; have HO_12 := n1_; have HO446 := n2_; have HO450 := n3_; have HO452 := n4_; have HB := n5_; clear n0_ n1_ n2_ n3_ n4_ n5_; (try clear hb); (try clear hb2); (try clear hk); (try clear hi)) | ((with_reducible refine gate_dst (N := 101) rfl ?_); (try (refine gate_guard (by rfl) ?_; dsimp only)); refine Kd.R_lit (Kd.int .u64) _ 33 ?hg (N := 101) ?hd (xs := ([t430] : List Int)) (inner := [.int .u64 t430]) (ok := fun _ => True) (okp := fun _ => True) ?hr ?hp (fun _ hk => hk) trivial (Below.refl _ _) (Nat.le_refl _) (by simp) ?_; (case hd => rfl); (case hg => rfl); (case hr => first | (go_simp; done) | (go_simp; rfl)); (case hp => exact (Reps.one (show Kd.M (Kd.int .u64) _ _ _ t430 [.int .u64 t430] from rfl) (Reps.none _ _))); intro v455 w56 ho57 hb hg_ hnew_; clear hg_ hnew_; (first | rw [← Ny454.out] at ho57 | (simp only [Int.reduceToNat] at ho57; rw [← Ny454.out] at ho57)); have n0_ := Aside0.mk (Kd.R_elder' (by (with_reducible repeat (first | apply Kd.R_alloc | apply Kd.R_drewN | apply Kd.R_drew)); exact HO_7.out) (Kd.R_base ho57) hb); have n1_ := Aside0.mk (Kd.R_elder' (by (with_reducible repeat (first | apply Kd.R_alloc | apply Kd.R_drewN | apply Kd.R_drew)); exact HO_12.out) (Kd.R_base ho57) hb); have n2_ := Aside0.mk (Kd.R_elder' (by (with_reducible repeat (first | apply Kd.R_alloc | apply Kd.R_drewN | apply Kd.R_drew)); exact HO446.out) (Kd.R_base ho57) hb); have n3_ := Aside0.mk (Kd.R_elder' (by (with_reducible repeat (first | apply Kd.R_alloc | apply Kd.R_drewN | apply Kd.R_drew)); exact HO450.out) (Kd.R_base ho57) hb); have n4_ := Aside0.mk (Kd.R_elder' (by (with_reducible repeat (first | apply Kd.R_alloc | apply Kd.R_drewN | apply Kd.R_drew)); exact HO452.out) (Kd.R_base ho57) hb); have n5_ := Aside0.mk (Kd.R_lower (Kd.R_new' (Kd.R_new' (Kd.R_new' (Kd.R_new' (Kd.R_new' ho57 (Kd.R_lt (by (with_reducible repeat (first | apply Kd.R_alloc | apply Kd.R_drewN | apply Kd.R_drew)); exact HO_7.out))) (Kd.R_lt (by (with_reducible repeat (first | apply Kd.R_alloc | apply Kd.R_drewN | apply Kd.R_drew)); exact HO_12.out))) (Kd.R_lt (by (with_reducible repeat (first | apply Kd.R_alloc | apply Kd.R_drewN | apply Kd.R_drew)); exact HO446.out))) (Kd.R_lt (by (with_reducible repeat (first | apply Kd.R_alloc | apply Kd.R_drewN | apply Kd.R_drew)); exact HO450.out))) (Kd.R_lt (by (with_reducible repeat (first | apply Kd.R_alloc | apply Kd.R_drewN | apply Kd.R_drew)); exact HO452.out))) (below_size (by repeat (first | (with_reducible first | exact HB.out | apply below_alloc | apply pw_below_drewN | apply below_drew1) | exact HB.out)))); have n6_ := Aside0.mk (below_step (by repeat (first | (with_reducible first | exact HB.out | apply below_alloc | apply pw_below_drewN | apply below_drew1) | exact HB.out)) hb); clear HO_7; clear HO_12; clear HO446; clear HO450; clear HO452; clear HB; have HO_7 := n0_; have HO_12 := n1_; have HO446 := n2_; have HO450 := n3_; have HO452 := n4_; have HO456 := n5_; have HB := n6_; clear n0_ n1_ n2_ n3_ n4_ n5_ n6_; clear hb ho57; obtain ⟨Ao58, co58, eo58⟩ := Kd.R_slice HO456.out; subst eo58; obtain ⟨Ao59, co59, eo59⟩ := Kd.R_slice HO452.out; subst eo59) | (go_at_call 20; (with_reducible refine (reckonerref02_Cmp.calls kj8 _ _ y454 _ _ t448 t457 _ ?side1 ?side2 ?side3 ?side4 A46.out).mono ?_); (case side1 => repeat (first | exact (Kd.R_reads' HO456.out).2.2 | (with_reducible refine Kd.C_alloc ?_ _) | (with_reducible refine Kd.C_drewN ?_ _) | (with_reducible refine Kd.C_drew ?_))); (case side2 => exact (Kd.R_reads' HO456.out).2.1); (case side3 => repeat (first | exact (Kd.R_reads' HO452.out).2.2 | (with_reducible refine Kd.C_alloc ?_ _) | (with_reducible refine Kd.C_drewN ?_ _) | (with_reducible refine Kd.C_drew ?_))); (case side4 => exact (Kd.R_reads' HO452.out).2.1); rintro e w60 ⟨rfl, hb⟩; have n0_ := Aside0.mk (Kd.R_below (by (with_reducible repeat (first | apply Kd.R_alloc | apply Kd.R_drewN | apply Kd.R_drew)); exact HO_7.out) hb); have n1_ := Aside0.mk (Kd.R_below (by (with_reducible repeat (first | apply Kd.R_alloc | apply Kd.R_drewN | apply Kd.R_drew)); exact HO_12.out) hb); have n2_ := Aside0.mk (Kd.R_below (by (with_reducible repeat (first | apply Kd.R_alloc | apply Kd.R_drewN | apply Kd.R_drew)); exact HO446.out) hb); have n3_ := Aside0.mk (Kd.R_below (by (with_reducible repeat (first | apply Kd.R_alloc | apply Kd.R_drewN | apply Kd.R_drew)); exact HO450.out) hb); have n4_ := Aside0.mk (Kd.R_below (by (with_reducible repeat (first | apply Kd.R_alloc | apply Kd.R_drewN | apply Kd.R_drew)); exact HO452.out) hb); have n5_ := Aside0.mk (Kd.R_below (by (with_reducible repeat (first | apply Kd.R_alloc | apply Kd.R_drewN | apply Kd.R_drew)); exact HO456.out) hb); have n6_ := Aside0.mk (below_step (by repeat (first | (with_reducible first | exact HB.out | apply below_alloc | apply pw_below_drewN | apply below_drew1) | exact HB.out)) hb); clear HO_7; clear HO_12; clear HO446; clear HO450; clear HO452; clear HO456; clear HB; have HO_7 := n0_; have HO_12 := n1_; have HO446 := n2_; have HO450 := n3_; have HO452 := n4_; have HO456 := n5_; have HB := n6_; clear n0_ n1_ n2_ n3_ n4_ n5_ n6_; (try clear hb); (try clear hb2); (try clear hk); (try clear hi)) | (go_at_call 15; (with_reducible refine (reckonerlaw02_awake.calls kj8  t458 _ A48.out).mono ?_); rintro e w61 ⟨rfl, hb⟩; have n0_ := Aside0.mk (Kd.R_below (by (with_reducible repeat (first | apply Kd.R_alloc | apply Kd.R_drewN | apply Kd.R_drew)); exact HO_7.out) hb); have n1_ := Aside0.mk (Kd.R_below (by (with_reducible repeat (first | apply Kd.R_alloc | apply Kd.R_drewN | apply Kd.R_drew)); exact HO_12.out) hb); have n2_ := Aside0.mk (Kd.R_below (by (with_reducible repeat (first | apply Kd.R_alloc | apply Kd.R_drewN | apply Kd.R_drew)); exact HO446.out) hb); have n3_ := Aside0.mk (Kd.R_below (by (with_reducible repeat (first | apply Kd.R_alloc | apply Kd.R_drewN | apply Kd.R_drew)); exact HO450.out) hb); have n4_ := Aside0.mk (Kd.R_below (by (with_reducible repeat (first | apply Kd.R_alloc | apply Kd.R_drewN | apply Kd.R_drew)); exact HO452.out) hb); have n5_ := Aside0.mk (Kd.R_below (by (with_reducible repeat (first | apply Kd.R_alloc | apply Kd.R_drewN | apply Kd.R_drew)); exact HO456.out) hb); have n6_ := Aside0.mk (below_step (by repeat (first | (with_reducible first | exact HB.out | apply below_alloc | apply pw_below_drewN | apply below_drew1) | exact HB.out)) hb); clear HO_7; clear HO_12; clear HO446; clear HO450; clear HO452; clear HO456; clear HB; have HO_7 := n0_; have HO_12 := n1_; have HO446 := n2_; have HO450 := n3_; have HO452 := n4_; have HO456 := n5_; have HB := n6_; clear n0_ n1_ n2_ n3_ n4_ n5_ n6_; (try clear hb); (try clear hb2); (try clear hk); (try clear hi)))
       go_ret
       exact ⟨by first | rfl | (simp [errW_none, errW_some] <;> rfl) | (simp [*, errW_none, errW_some] <;> rfl), by repeat (first | (with_reducible first | exact HB.out | apply below_alloc | apply pw_below_drewN | apply below_drew1) | exact HB.out)⟩
      ·rw [if_neg c47] at H
       exact absurd H (by simp)
     ·replace c45 := Bool.eq_false_iff.mpr c45
      subst c45
      have H1 : (none) = some r := by rw [if_neg (show ¬ (false = true) by decide)] at H; exact H
      clear H
      have H := H1
      clear H1
      exact absurd H (by simp)
    ·rw [if_neg c43] at H
     exact absurd H (by simp)
/-- THE ONE PURE STATEMENT of reckonerlaw02_NatDivides: yours. -/
def reckonerlaw02_NatDivides.Pure : Prop := ∀ (l0 : List Int) (l1 : List Int) (a2 : Int), l0.length ≤ maxLen → l0.length * 8 ≤ 140737488351232 → (∀ x ∈ l0, (Lit.int .u64 x).wf = true) → l1.length ≤ maxLen → l1.length * 8 ≤ 140737488351232 → (∀ x ∈ l1, (Lit.int .u64 x).wf = true) → (Lit.int .u64 a2).wf = true → ∃ k, reckonerlaw02_NatDivides.f k l0 l1 a2 = some true
theorem reckonerlaw02_NatDivides.walk (P : reckonerlaw02_NatDivides.Pure) (a0 : Option Addr) (len0 cap0 : Nat) (z0 : List Int) (a1 : Option Addr) (len1 cap1 : Nat) (z1 : List Int) (a2 : Int) (w : World) (w0 : (a0 = none ∧ len0 = 0 ∧ cap0 = 0 ∧ z0 = []) ∨ ∃ x, a0 = some x ∧ len0 ≤ cap0 ∧ cap0 ≤ maxLen ∧ z0.length = cap0 ∧ (∀ i, i < z0.length → w.cell? (x.add i) = some (.int .u64 (z0.getD i 0))) ∧ ∀ n ∈ z0, (Lit.int .u64 n).wf = true) (y0 : len0 * 8 ≤ 140737488351232) (w1 : (a1 = none ∧ len1 = 0 ∧ cap1 = 0 ∧ z1 = []) ∨ ∃ x, a1 = some x ∧ len1 ≤ cap1 ∧ cap1 ≤ maxLen ∧ z1.length = cap1 ∧ (∀ i, i < z1.length → w.cell? (x.add i) = some (.int .u64 (z1.getD i 0))) ∧ ∀ n ∈ z1, (Lit.int .u64 n).wf = true) (y1 : len1 * 8 ≤ 140737488351232) (w2 : (Lit.int .u64 a2).wf = true) :
    Calls Try.prog 4 #[.slice a0 len0 cap0, .slice a1 len1 cap1, .int .u64 a2] w fun e w' => e = .returned (.bool true) ∧ Below w.heap.size w w' := by
  obtain ⟨l0, rfl, hr0, hm0, hw0, hc0⟩ := ReadsInt.ofRowC w0
  obtain ⟨l1, rfl, hr1, hm1, hw1, hc1⟩ := ReadsInt.ofRowC w1
  obtain ⟨k, h⟩ := P l0 l1 a2 hm0 y0 hw0 hm1 y1 hw1 w2
  refine (reckonerlaw02_NatDivides.calls k _ _ l0 _ _ l1 a2 true w (Kd.C_of_reads (d := (0 : Int)) (h1 := fun _ => rfl) hr0) hc0 (Kd.C_of_reads (d := (0 : Int)) (h1 := fun _ => rfl) hr1) hc1 h).mono ?_
  rintro e w' ⟨rfl, hd⟩
  exact ⟨rfl, hd⟩
-- OURS: function 21 (nat_Mul)

/-! ### reckonerlaw02_NatProducts: function 5 -/
-- OURS: function 24 (nat_Add)

/-! ### reckonerref02_Sub: function 27 -/
end Go.Proofs.Ytkkkbalefnileaa.T
/- What the reference's functions on digits hand back (printed in Tx1, Tx2). -/
namespace Go.Proofs.Ytkkkbalefnileaa.Ex
open Go.RowKit Go.Proofs.YtkkkbalefnileaaW.PrintWords Go.Proofs.YtkkkbalefnileaaW.PrintLast Go.Proofs.YtkkkbalefnileaaW.PrintMore Go.Proofs.Ytkkkbalefnileaa.T
set_option linter.unusedVariables false
set_option linter.unusedSimpArgs false

/-- The base of the reference's digits. -/
def H32 : Int := 4294967296
theorem H32_eq : H32 = 4294967296 := rfl
theorem H32_pos : 0 < H32 := by decide
theorem H32_sq : H32 * H32 = W64 := by decide
theorem rd_nat (l : List Int) (i : Nat) : rd l (i : Int) = l.getD i 0 := by simp [rd]
theorem w64_nat (n : Nat) (h : n < 4611686018427387904) : wrap64 (n : Int) = (n : Int) := by unfold wrap64; omega
theorem w64_int (n : Int) (h0 : -4611686018427387904 ≤ n) (h : n < 4611686018427387904) : wrap64 n = n := by unfold wrap64; omega
theorem wrapW (q : Int) (h0 : 0 ≤ q) (h1 : q < 18446744073709551616) : IntKind.u64.wrap q = q := Int.emod_eq_of_lt h0 h1
theorem tmodH (q : Int) (h : 0 ≤ q) : Int.tmod q 4294967296 = q % H32 := Int.tmod_eq_emod_of_nonneg h
theorem tdivH (q : Int) (h : 0 ≤ q) : Int.tdiv q 4294967296 = q / H32 := Int.tdiv_eq_ediv_of_nonneg h
theorem Ev.now' {α : Type} {g : Nat → Option α} {r : α} (h : ∀ k, g (k + 1) = some r) : Ev g r := Ev.step h (Ev.now r)
/-! ### digits -/
def digitsL : List Int → List Int
  | [] => []
  | x :: l => x % H32 :: x / H32 :: digitsL l
theorem digitsL_length : ∀ l, (digitsL l).length = 2 * l.length
  | [] => rfl
  | x :: l => by simp [digitsL, digitsL_length l]; omega
theorem digitsL_in : ∀ {l}, inW l → inB H32 (digitsL l)
  | [], _ => inB_nil
  | x :: l, h => by
    have h1 := inW_cons.1 h
    have h2 := h1.1.1
    have h3 := h1.1.2
    rw [W64_eq] at h3
    exact inB_cons.2 ⟨by rw [H32_eq]; omega, inB_cons.2 ⟨by rw [H32_eq]; omega, digitsL_in h1.2⟩⟩
theorem digitsL_val : ∀ l, valB H32 (digitsL l) = valB W64 l
  | [] => rfl
  | x :: l => by
    show x % H32 + H32 * (x / H32 + H32 * valB H32 (digitsL l)) = x + W64 * valB W64 l
    rw [digitsL_val l, Int.mul_add, ← Int.mul_assoc, H32_sq, ← Int.add_assoc]
    have := Int.emod_add_mul_ediv x H32
    omega
theorem Digits_loop (l : List Int) (hl : inW l) (hn : l.length ≤ 1000000) : ∀ n i acc, i + n = l.length → acc.length = 2 * i → Ev (fun k => reckonerref01_Digits.l0 k l acc (i : Int)) (acc ++ digitsL (l.drop i))
  | 0, i, acc, h, _ => by
    rw [List.drop_of_length_le (by omega)]
    refine Ev.now' fun k => ?_
    rw [reckonerref01_Digits.l0, if_neg (by omega)]
    simp [digitsL]
  | n + 1, i, acc, h, ha => by
    have hi : i < l.length := by omega
    have ih := Digits_loop l hl hn n (i + 1) (acc ++ [l[i] % H32, l[i] / H32]) (by omega) (by simp [ha]; omega)
    have hx : isW l[i] := hl _ (List.getElem_mem _)
    have h1 := hx.1
    have h2 := hx.2
    rw [W64_eq] at h2
    rw [List.drop_eq_getElem_cons hi]
    have e : acc ++ digitsL (l[i] :: l.drop (i + 1)) = (acc ++ [l[i] % H32, l[i] / H32]) ++ digitsL (l.drop (i + 1)) := by simp [digitsL]
    rw [e]
    refine Ev.step (fun k => ?_) ih
    have hg : l.getD i 0 = l[i] := by simp [List.getD_eq_getElem?_getD, List.getElem?_eq_getElem hi]
    have e1 : wrap64 ((i : Int) + 1) = ((i + 1 : Nat) : Int) := by rw [← w64_nat (i + 1) (by omega)]; rfl
    rw [reckonerref01_Digits.l0, if_pos (by omega), if_pos (by omega), Option.bind_some, if_pos (by simp; omega), rd_nat, hg, e1, tmodH _ h1, tdivH _ h1, wrapW _ (by rw [H32_eq]; omega) (by rw [H32_eq]; omega)]
theorem Digits_ev (l : List Int) (hl : inW l) (hn : l.length ≤ 1000000) : Ev (fun k => reckonerref01_Digits.f k l) (digitsL l) := by
  have h := Digits_loop l hl hn l.length 0 [] (by omega) rfl
  rw [List.drop_zero, List.nil_append] at h
  exact h
/-! ### a row of digits -/
def rowL : List Int → List Int
  | a :: b :: l => (a + b * H32) :: rowL l
  | _ => []
theorem rowL_in : ∀ {d}, inB H32 d → inW (rowL d)
  | [], _ => inW_nil
  | [_], _ => inW_nil
  | a :: b :: l, h => by
    have h1 := inB_cons.1 h
    have h2 := inB_cons.1 h1.2
    have h3 := h1.1
    have h4 := h2.1
    rw [H32_eq] at h3 h4
    exact inW_cons.2 ⟨by unfold isW; rw [H32_eq, W64_eq]; omega, rowL_in h2.2⟩
theorem rowL_length : ∀ d, (rowL d).length = d.length / 2
  | [] => rfl
  | [_] => by simp [rowL]
  | a :: b :: l => by
    have h := rowL_length l
    show (rowL l).length + 1 = (l.length + 1 + 1) / 2
    omega
theorem rowL_val : ∀ d, d.length % 2 = 0 → valB W64 (rowL d) = valB H32 d
  | [], _ => rfl
  | [_], h => by simp at h
  | a :: b :: l, h => by
    show a + b * H32 + W64 * valB W64 (rowL l) = a + H32 * (b + H32 * valB H32 l)
    rw [rowL_val l (by simp at h; omega), Int.mul_add, ← Int.mul_assoc, H32_sq, Int.mul_comm b]
    omega
theorem Row_loop (d : List Int) (hd : inB H32 d) (hn : d.length ≤ 4000000) : ∀ n i acc, 2 * (i + n) = d.length ∨ 2 * (i + n) + 1 = d.length → acc.length = i → Ev (fun k => reckonerref01_Row.l0 k d acc ((2 * i : Nat) : Int)) (acc ++ rowL (d.drop (2 * i)))
  | 0, i, acc, h, _ => by
    have e : rowL (d.drop (2 * i)) = [] := by
      have h1 : (d.drop (2 * i)).length ≤ 1 := by rw [List.length_drop]; omega
      match hm : d.drop (2 * i), h1 with
      | [], _ => rfl
      | [_], _ => rfl
      | _ :: _ :: _, h1 => simp at h1
    rw [e, List.append_nil]
    refine Ev.now' fun k => ?_
    have e1 : wrap64 (((2 * i : Nat) : Int) + 1) = ((2 * i + 1 : Nat) : Int) := by rw [← w64_nat (2 * i + 1) (by omega)]; rfl
    rw [reckonerref01_Row.l0, e1, if_neg (by omega)]
  | n + 1, i, acc, h, ha => by
    have hi : 2 * i < d.length := by omega
    have hi1 : 2 * i + 1 < d.length := by omega
    have ih := Row_loop d hd hn n (i + 1) (acc ++ [d[2 * i] + d[2 * i + 1] * H32]) (by omega) (by simp [ha])
    have h1 := hd _ (List.getElem_mem hi)
    have h2 := hd _ (List.getElem_mem hi1)
    rw [H32_eq] at h1 h2
    rw [List.drop_eq_getElem_cons hi, List.drop_eq_getElem_cons hi1]
    have e : acc ++ rowL (d[2 * i] :: d[2 * i + 1] :: d.drop (2 * i + 1 + 1)) = (acc ++ [d[2 * i] + d[2 * i + 1] * H32]) ++ rowL (d.drop (2 * (i + 1))) := by simp [rowL, Nat.mul_add]
    rw [e]
    refine Ev.step (fun k => ?_) ih
    have hg : d.getD (2 * i) 0 = d[2 * i] := by simp [List.getD_eq_getElem?_getD, List.getElem?_eq_getElem hi]
    have hg1 : d.getD (2 * i + 1) 0 = d[2 * i + 1] := by simp [List.getD_eq_getElem?_getD, List.getElem?_eq_getElem hi1]
    have e1 : wrap64 (((2 * i : Nat) : Int) + 1) = ((2 * i + 1 : Nat) : Int) := by rw [← w64_nat (2 * i + 1) (by omega)]; rfl
    have e2 : wrap64 (((2 * i : Nat) : Int) + 2) = ((2 * (i + 1) : Nat) : Int) := by rw [← w64_nat (2 * (i + 1)) (by omega)]; rfl
    rw [reckonerref01_Row.l0, e1, if_pos (by omega), if_pos (by omega), if_pos (by omega), if_pos (by omega), if_pos (by omega), rd_nat, rd_nat, hg, hg1, e2, wrapW (d[2 * i + 1] * 4294967296) (by omega) (by omega), wrapW _ (by omega) (by omega)]
    rfl
theorem Row_ev (d : List Int) (hd : inB H32 d) (hn : d.length ≤ 4000000) : Ev (fun k => reckonerref01_Row.f k d) (rowL d) := by
  have h := Row_loop d hd hn (d.length / 2) 0 [] (by omega) rfl
  rw [List.drop_zero, List.nil_append] at h
  exact h
/-! ### a digit, 0 beyond the end -/
theorem digit_some (a : List Int) (i : Nat) : reckonerref01_digit.f a (i : Int) = some (a.getD i 0) := by
  unfold reckonerref01_digit.f
  by_cases h : i < a.length
  · rw [if_pos (by omega), if_pos (by omega), rd_nat]
  · rw [if_neg (by omega)]
    simp [List.getD_eq_getElem?_getD, List.getElem?_eq_none (by omega : a.length ≤ i)]
/-! ### sums -/
def plusS (a b : List Int) (i : Nat) (c : Int) : Int × Int := ((c + a.getD i 0 + b.getD i 0) % H32, (c + a.getD i 0 + b.getD i 0) / H32)
theorem plusS_ok {a b : List Int} (ha : inB H32 a) (hb : inB H32 b) (i : Nat) {c : Int} (hc : 0 ≤ c ∧ c ≤ 1) :
    (0 ≤ (plusS a b i c).2 ∧ (plusS a b i c).2 ≤ 1) ∧ (0 ≤ (plusS a b i c).1 ∧ (plusS a b i c).1 < H32) ∧ (plusS a b i c).1 + H32 * (1 * (plusS a b i c).2) = (a.getD i 0 + b.getD i 0) + 1 * c := by
  have h1 := inB_getD H32_pos ha i
  have h2 := inB_getD H32_pos hb i
  unfold plusS
  simp only [H32_eq] at *
  omega
theorem Plus_loop (a b : List Int) (ha : inB H32 a) (hb : inB H32 b) (hn : a.length ≤ 4000000) (hm : b.length ≤ 4000000) : ∀ n i c (acc : List Int), i + n = max a.length b.length → acc.length = i → 0 ≤ c ∧ c ≤ 1 →
    Ev (fun k => reckonerref01_Plus.l0 k a b acc c (i : Int)) (acc ++ (carryL (plusS a b) n i c).1 ++ [(carryL (plusS a b) n i c).2])
  | 0, i, c, acc, h, hacc, hc => by
    refine Ev.step (f := fun k => reckonerref01_Plus.j1 k a b acc c (i : Int) false) (fun k => ?_) (Ev.now' fun k => ?_)
    · rw [reckonerref01_Plus.l0, if_neg (by omega)]
      have e : decide ((i : Int) < (b.length : Int)) = false := decide_eq_false (by omega)
      rw [e]
    · rw [reckonerref01_Plus.j1, if_neg (by decide), if_pos (by omega)]
      simp [carryL]
  | n + 1, i, c, acc, h, hacc, hc => by
    have q1 : acc.length < 17592186044416 := by omega
    have q2 : ¬ (i : Int) < (a.length : Int) → (i : Int) < (b.length : Int) := by omega
    have h1 := inB_getD H32_pos ha i
    have h2 := inB_getD H32_pos hb i
    rw [H32_eq] at h1 h2
    have q3 : IntKind.u64.wrap (c + a.getD i 0) = c + a.getD i 0 := wrapW _ (by omega) (by omega)
    have q4 : 0 ≤ c + a.getD i 0 + b.getD i 0 ∧ c + a.getD i 0 + b.getD i 0 < 18446744073709551616 := by omega
    have q5 : 0 ≤ (c + a.getD i 0 + b.getD i 0) / H32 ∧ (c + a.getD i 0 + b.getD i 0) / H32 < 18446744073709551616 := by rw [H32_eq]; omega
    have e1 : wrap64 ((i : Int) + 1) = ((i + 1 : Nat) : Int) := by rw [← w64_nat (i + 1) (by omega)]; rfl
    obtain ⟨k1, k2, _⟩ := plusS_ok ha hb i hc
    have ih := Plus_loop a b ha hb hn hm n (i + 1) (plusS a b i c).2 (acc ++ [(plusS a b i c).1]) (by omega) (by simp [hacc]) k1
    have e : acc ++ (carryL (plusS a b) (n + 1) i c).1 ++ [(carryL (plusS a b) (n + 1) i c).2] = (acc ++ [(plusS a b i c).1]) ++ (carryL (plusS a b) n (i + 1) (plusS a b i c).2).1 ++ [(carryL (plusS a b) n (i + 1) (plusS a b i c).2).2] := by simp [carryL]
    rw [e]
    refine Ev.step (f := fun k => reckonerref01_Plus.j1 k a b acc c (i : Int) true) (fun k => ?_) (Ev.step (fun k => ?_) ih)
    · show reckonerref01_Plus.l0 (k + 1) a b acc c (i : Int) = reckonerref01_Plus.j1 k a b acc c (i : Int) true
      rw [reckonerref01_Plus.l0]
      by_cases hl : (i : Int) < (a.length : Int)
      · exact if_pos hl
      · have e : decide ((i : Int) < (b.length : Int)) = true := decide_eq_true (q2 hl)
        exact (if_neg hl).trans (by rw [e])
    · rw [reckonerref01_Plus.j1, if_pos rfl, digit_some, digit_some, Option.bind_some, Option.bind_some, if_pos q1, e1, q3, wrapW _ q4.1 q4.2, tmodH _ q4.1, tdivH _ q4.1, wrapW _ q5.1 q5.2]
      rfl
/-- A sum of digits. -/
theorem Plus_ev (a b : List Int) (ha : inB H32 a) (hb : inB H32 b) (hn : a.length ≤ 4000000) (hm : b.length ≤ 4000000) :
    ∃ r, Ev (fun k => reckonerref01_Plus.f k a b) r ∧ inB H32 r ∧ r.length = max a.length b.length + 1 ∧ valB H32 r = valB H32 a + valB H32 b := by
  have h := Plus_loop a b ha hb hn hm (max a.length b.length) 0 0 [] (by omega) rfl ⟨Int.le_refl 0, by decide⟩
  obtain ⟨k1, k2, k3⟩ := carryL_val H32 (plusS a b) (fun i => a.getD i 0 + b.getD i 0) 1 (fun c => 0 ≤ c ∧ c ≤ 1) (max a.length b.length) 0 0 ⟨Int.le_refl 0, by decide⟩ (fun j _ _ c hc => plusS_ok ha hb j hc)
  have kl := carryL_length (plusS a b) (max a.length b.length) 0 0
  rw [List.nil_append] at h
  refine ⟨_, h, inB_append.2 ⟨k2, inB_cons.2 ⟨⟨k1.1, by have := k1.2; rw [H32_eq]; omega⟩, inB_nil⟩⟩, by simp [kl], ?_⟩
  rw [valB_append, kl]
  rw [sumB_add, sumB_pad H32 a _ (Nat.le_max_left _ _), sumB_pad H32 b _ (Nat.le_max_right _ _)] at k3
  simp only [valB, Int.mul_zero, Int.add_zero, Int.one_mul] at k3 ⊢
  exact k3
/-! ### differences -/
def minusS (a b : List Int) (i : Nat) (c : Int) : Int × Int := ((a.getD i 0 + H32 - b.getD i 0 - c) % H32, 1 - (a.getD i 0 + H32 - b.getD i 0 - c) / H32)
theorem minusS_ok {a b : List Int} (ha : inB H32 a) (hb : inB H32 b) (i : Nat) {c : Int} (hc : 0 ≤ c ∧ c ≤ 1) :
    (0 ≤ (minusS a b i c).2 ∧ (minusS a b i c).2 ≤ 1) ∧ (0 ≤ (minusS a b i c).1 ∧ (minusS a b i c).1 < H32) ∧ (minusS a b i c).1 + H32 * (-1 * (minusS a b i c).2) = (a.getD i 0 + b.getD i 0 * (-1)) + -1 * c := by
  have h1 := inB_getD H32_pos ha i
  have h2 := inB_getD H32_pos hb i
  unfold minusS
  simp only [H32_eq] at *
  omega
theorem Minus_loop (a b : List Int) (ha : inB H32 a) (hb : inB H32 b) (hn : a.length ≤ 4000000) : ∀ n i c (acc : List Int), i + n = a.length → acc.length = i → 0 ≤ c ∧ c ≤ 1 →
    Ev (fun k => reckonerref01_Minus.l0 k a b acc c (i : Int)) (acc ++ (carryL (minusS a b) n i c).1, ((carryL (minusS a b) n i c).2 == 1))
  | 0, i, c, acc, h, hacc, hc => by
    refine Ev.now' fun k => ?_
    rw [reckonerref01_Minus.l0, if_neg (by omega)]
    simp [carryL]
  | n + 1, i, c, acc, h, hacc, hc => by
    have q1 : acc.length < 17592186044416 := by omega
    have q2 : (i : Int) < (a.length : Int) := by omega
    have q2' : (0 : Int) ≤ (i : Int) := by omega
    have h1 := inB_getD H32_pos ha i
    have h2 := inB_getD H32_pos hb i
    rw [H32_eq] at h1 h2
    have q3 : IntKind.u64.wrap (a.getD i 0 + 4294967296) = a.getD i 0 + 4294967296 := wrapW _ (by omega) (by omega)
    have q4 : IntKind.u64.wrap (a.getD i 0 + 4294967296 - b.getD i 0) = a.getD i 0 + 4294967296 - b.getD i 0 := wrapW _ (by omega) (by omega)
    have q5 : 0 ≤ a.getD i 0 + 4294967296 - b.getD i 0 - c ∧ a.getD i 0 + 4294967296 - b.getD i 0 - c < 18446744073709551616 := by omega
    have q6 : 0 ≤ (a.getD i 0 + 4294967296 - b.getD i 0 - c) / H32 ∧ (a.getD i 0 + 4294967296 - b.getD i 0 - c) / H32 ≤ 1 := by rw [H32_eq]; omega
    have q7 : (a.getD i 0 + 4294967296 - b.getD i 0 - c) / H32 < 18446744073709551616 := by omega
    have q8 : 0 ≤ 1 - (a.getD i 0 + 4294967296 - b.getD i 0 - c) / H32 ∧ 1 - (a.getD i 0 + 4294967296 - b.getD i 0 - c) / H32 < 18446744073709551616 := by omega
    have e1 : wrap64 ((i : Int) + 1) = ((i + 1 : Nat) : Int) := by rw [← w64_nat (i + 1) (by omega)]; rfl
    obtain ⟨k1, k2, _⟩ := minusS_ok ha hb i hc
    have ih := Minus_loop a b ha hb hn n (i + 1) (minusS a b i c).2 (acc ++ [(minusS a b i c).1]) (by omega) (by simp [hacc]) k1
    have e : acc ++ (carryL (minusS a b) (n + 1) i c).1 = (acc ++ [(minusS a b i c).1]) ++ (carryL (minusS a b) n (i + 1) (minusS a b i c).2).1 := by simp [carryL]
    have e0 : (carryL (minusS a b) (n + 1) i c).2 = (carryL (minusS a b) n (i + 1) (minusS a b i c).2).2 := by simp [carryL]
    rw [e, e0]
    refine Ev.step (fun k => ?_) ih
    rw [reckonerref01_Minus.l0, if_pos q2, if_pos q2', digit_some, Option.bind_some, if_pos q1, e1, rd_nat, q3, q4, wrapW _ q5.1 q5.2, tmodH _ q5.1, tdivH _ q5.1, wrapW _ q6.1 q7, wrapW _ q8.1 q8.2]
    rfl
/-- A difference of digits, where b is not longer than a, and what was borrowed. -/
theorem Minus_ev (a b : List Int) (ha : inB H32 a) (hb : inB H32 b) (hn : a.length ≤ 4000000) (hl : b.length ≤ a.length) :
    ∃ r c, Ev (fun k => reckonerref01_Minus.f k a b) (r, (c == 1)) ∧ (0 ≤ c ∧ c ≤ 1) ∧ inB H32 r ∧ r.length = a.length ∧ valB H32 r - H32 ^ a.length * c = valB H32 a - valB H32 b := by
  have h := Minus_loop a b ha hb hn a.length 0 0 [] (by omega) rfl ⟨Int.le_refl 0, by decide⟩
  obtain ⟨k1, k2, k3⟩ := carryL_val H32 (minusS a b) (fun i => a.getD i 0 + b.getD i 0 * (-1)) (-1) (fun c => 0 ≤ c ∧ c ≤ 1) a.length 0 0 ⟨Int.le_refl 0, by decide⟩ (fun j _ _ c hc => minusS_ok ha hb j hc)
  rw [List.nil_append] at h
  refine ⟨_, _, h, k1, k2, carryL_length _ _ _ _, ?_⟩
  rw [sumB_add, sumB_smul, sumB_all, sumB_pad H32 b _ hl] at k3
  rw [Int.neg_mul, Int.one_mul, Int.mul_neg] at k3
  omega
/-! ### two rows the same -/
theorem Same_loop (a b : List Int) (hl : a.length = b.length) (hn : a.length ≤ 1000000) : ∀ n i, i + n = a.length → a.take i = b.take i → Ev (fun k => reckonerref01_Same.l0 k a b (i : Int)) (decide (a = b))
  | 0, i, h, ht => by
    refine Ev.now' fun k => ?_
    rw [List.take_of_length_le (by omega), List.take_of_length_le (by omega)] at ht
    rw [reckonerref01_Same.l0, if_neg (by omega), decide_eq_true ht]
  | n + 1, i, h, ht => by
    have e1 : wrap64 ((i : Int) + 1) = ((i + 1 : Nat) : Int) := by rw [← w64_nat (i + 1) (by omega)]; rfl
    have hi : i < a.length := by omega
    have hi' : i < b.length := by omega
    have ga : a.getD i 0 = a[i] := by simp [List.getD_eq_getElem?_getD, List.getElem?_eq_getElem hi]
    have gb : b.getD i 0 = b[i] := by simp [List.getD_eq_getElem?_getD, List.getElem?_eq_getElem hi']
    by_cases hs : a[i] = b[i]
    · refine Ev.step (fun k => ?_) (Same_loop a b hl hn n (i + 1) (by omega) ?_)
      · rw [reckonerref01_Same.l0, if_pos (by omega), if_pos (by omega), if_pos (by omega), rd_nat, rd_nat, ga, gb, if_pos hs, e1]
      · rw [List.take_succ_eq_append_getElem hi, List.take_succ_eq_append_getElem hi', ht, hs]
    · refine Ev.now' fun k => ?_
      rw [reckonerref01_Same.l0, if_pos (by omega), if_pos (by omega), if_pos (by omega), rd_nat, rd_nat, ga, gb, if_neg hs]
      rw [decide_eq_false]
      rintro rfl
      exact hs rfl
theorem RSame_ev (a b : List Int) (hn : a.length ≤ 1000000) : Ev (fun k => reckonerref01_Same.f k a b) (decide (a = b)) := by
  by_cases hl : a.length = b.length
  · refine Ev.congr (fun k => ?_) (Same_loop a b hl hn a.length 0 (by omega) rfl)
    show reckonerref01_Same.f k a b = _
    unfold reckonerref01_Same.f
    rw [if_pos (by omega)]
    rfl
  · refine Ev.congr (f := fun _ => some (decide (a = b))) (fun k => ?_) (Ev.now _)
    show reckonerref01_Same.f k a b = _
    unfold reckonerref01_Same.f
    rw [if_neg (by omega), decide_eq_false (fun e => hl (by rw [e]))]
end Go.Proofs.Ytkkkbalefnileaa.Ex
/- The reference's Cut, Add, Sub (printed in Tx1, Tx2), and the row functions' results in values. -/
namespace Go.Proofs.Ytkkkbalefnileaa.Ex
open Go.RowKit Go.Proofs.YtkkkbalefnileaaW.PrintWords Go.Proofs.YtkkkbalefnileaaW.PrintLast Go.Proofs.YtkkkbalefnileaaW.PrintMore Go.Proofs.Ytkkkbalefnileaa.T
set_option linter.unusedVariables false
set_option linter.unusedSimpArgs false

theorem H32_pow (n : Nat) : H32 ^ (2 * n) = W64 ^ n := by
  rw [Int.pow_mul, show H32 ^ 2 = W64 by decide]
theorem Ev.ite_pos {α : Type} {c : Nat → Prop} [∀ k, Decidable (c k)] {a b : Nat → Option α} {r : α} (h : ∀ k, c k) (ha : Ev a r) : Ev (fun k => if c k then a k else b k) r := Ev.congr (fun k => if_pos (h k)) ha
/-- The value of a row's two highest digits. -/
theorem getD_two {d : List Int} (n : Nat) (h : n + 2 ≤ d.length) : d.drop n = d.getD n 0 :: d.getD (n + 1) 0 :: d.drop (n + 2) := by
  have h1 : n < d.length := by omega
  have h2 : n + 1 < d.length := by omega
  rw [List.drop_eq_getElem_cons h1, List.drop_eq_getElem_cons h2]
  simp [List.getD_eq_getElem?_getD, List.getElem?_eq_getElem h1, List.getElem?_eq_getElem h2]
/-- What Cut makes of digits that are enough. -/
theorem Cut_done (d : List Int) (hd : inB H32 d) (n : Nat) (hn : n ≤ 1000000) (hm : d.length ≤ 4000000) (hl : 2 * n + 2 ≤ d.length) :
    Ev (fun k => reckonerref01_Cut.l0 k (n : Int) d) (rowL (d.take (2 * n)), d.getD (2 * n) 0 + d.getD (2 * n + 1) 0 * H32) := by
  have e1 : wrap64 (2 * (n : Int)) = ((2 * n : Nat) : Int) := by rw [← w64_nat (2 * n) (by omega)]; rfl
  have e2 : wrap64 (((2 * n : Nat) : Int) + 2) = ((2 * n + 2 : Nat) : Int) := by rw [← w64_nat (2 * n + 2) (by omega)]; rfl
  have e3 : wrap64 (((2 * n : Nat) : Int) + 1) = ((2 * n + 1 : Nat) : Int) := by rw [← w64_nat (2 * n + 1) (by omega)]; rfl
  have h1 := inB_getD H32_pos hd (2 * n)
  have h2 := inB_getD H32_pos hd (2 * n + 1)
  rw [H32_eq] at h1 h2
  have q1 : ¬ (d.length : Int) < ((2 * n + 2 : Nat) : Int) := by omega
  have q2 : (0 : Int) ≤ ((2 * n : Nat) : Int) := by omega
  have q3 : ((2 * n : Nat) : Int) ≤ (d.length : Int) := by omega
  have q4 : ((2 * n : Nat) : Int) < (d.length : Int) := by omega
  have q5 : (0 : Int) ≤ ((2 * n + 1 : Nat) : Int) := by omega
  have q6 : ((2 * n + 1 : Nat) : Int) < (d.length : Int) := by omega
  have q7 : IntKind.u64.wrap (d.getD (2 * n + 1) 0 * 4294967296) = d.getD (2 * n + 1) 0 * 4294967296 := wrapW _ (by omega) (by omega)
  have q8 : IntKind.u64.wrap (d.getD (2 * n) 0 + d.getD (2 * n + 1) 0 * 4294967296) = d.getD (2 * n) 0 + d.getD (2 * n + 1) 0 * 4294967296 := wrapW _ (by omega) (by omega)
  have hR := Row_ev (d.take (2 * n)) (inB_take hd _) (by rw [List.length_take]; omega)
  refine Ev.step (f := fun k => (reckonerref01_Row.f k (d.take (2 * n))).bind fun t => some (t, d.getD (2 * n) 0 + d.getD (2 * n + 1) 0 * H32)) (fun k => ?_) (Ev.bind hR (Ev.now _))
  rw [reckonerref01_Cut.l0, e1, e2, e3, if_neg q1, if_pos q2, if_pos q3, Int.toNat_natCast]
  simp only [if_pos q4, if_pos q5, if_pos q6, rd_nat, q7, q8]
  rfl
/-- Cut: the row of n words, and the word above it; what digits there are beyond that is left out. -/
theorem Cut_loop (n : Nat) (hn : n ≤ 1000000) : ∀ m (d : List Int), inB H32 d → d.length ≤ 4000000 → 2 * n + 2 - d.length = m →
    ∃ r t, Ev (fun k => reckonerref01_Cut.l0 k (n : Int) d) (r, t) ∧ inW r ∧ r.length = n ∧ isW t ∧ valB W64 r + W64 ^ n * t = valB H32 d % (W64 ^ n * W64)
  | 0, d, hd, hm, hl => by
    have h1 := inB_getD H32_pos hd (2 * n)
    have h2 := inB_getD H32_pos hd (2 * n + 1)
    have hl2 : 2 * n + 2 ≤ d.length := by omega
    have hlt : (d.take (2 * n)).length = 2 * n := by rw [List.length_take]; omega
    refine ⟨_, _, Cut_done d hd n hn hm hl2, rowL_in (inB_take hd _), by rw [rowL_length, hlt]; omega, ?_, ?_⟩
    · rw [H32_eq] at h1 h2
      unfold isW
      rw [H32_eq, W64_eq]
      omega
    · rw [rowL_val _ (by rw [hlt]; omega)]
      have e1 : W64 ^ n * W64 = H32 ^ (2 * n + 2) := by rw [show 2 * n + 2 = 2 * (n + 1) by omega, H32_pow, Int.pow_succ]
      rw [e1, ← valB_take H32_pos hd (2 * n + 2) hl2, valB_split H32 (d.take (2 * n + 2)) (2 * n) (by rw [List.length_take]; omega), List.take_take, Nat.min_eq_left (by omega : 2 * n ≤ 2 * n + 2), H32_pow]
      congr 1
      have e2 : (d.take (2 * n + 2)).drop (2 * n) = [d.getD (2 * n) 0, d.getD (2 * n + 1) 0] := by
        rw [List.drop_take, getD_two (2 * n) hl2]
        simp
      rw [e2]
      congr 1
      simp [valB, Int.mul_comm]
  | m + 1, d, hd, hm, hl => by
    have e1 : wrap64 (2 * (n : Int)) = ((2 * n : Nat) : Int) := by rw [← w64_nat (2 * n) (by omega)]; rfl
    have e2 : wrap64 (((2 * n : Nat) : Int) + 2) = ((2 * n + 2 : Nat) : Int) := by rw [← w64_nat (2 * n + 2) (by omega)]; rfl
    have q1 : (d.length : Int) < ((2 * n + 2 : Nat) : Int) := by omega
    have q2 : d.length < 17592186044416 := by omega
    have ho : inB H32 (d ++ [0]) := inB_append.2 ⟨hd, inB_cons.2 ⟨⟨Int.le_refl 0, H32_pos⟩, inB_nil⟩⟩
    obtain ⟨r, t, h1, h2⟩ := Cut_loop n hn m (d ++ [0]) ho (by simp; omega) (by simp; omega)
    refine ⟨r, t, Ev.step (fun k => ?_) h1, ?_⟩
    · rw [reckonerref01_Cut.l0, e1, e2, if_pos q1, if_pos q2]
    · have e3 : valB H32 (d ++ [0]) = valB H32 d := by rw [valB_append]; simp [valB]
      rw [e3] at h2
      exact h2
theorem Cut_ev (n : Nat) (hn : n ≤ 1000000) (d : List Int) (hd : inB H32 d) (hm : d.length ≤ 4000000) :
    ∃ r t, Ev (fun k => reckonerref01_Cut.f k d (n : Int)) (r, t) ∧ inW r ∧ r.length = n ∧ isW t ∧ valB W64 r + W64 ^ n * t = valB H32 d % (W64 ^ n * W64) := by
  obtain ⟨r, t, h1, h2⟩ := Cut_loop n hn _ d hd hm rfl
  refine ⟨r, t, ?_, h2⟩
  have q : (([] : List Int).length + d.length < 17592186044416) := by simp; omega
  refine Ev.congr (fun k => ?_) h1
  show reckonerref01_Cut.f k d (n : Int) = _
  unfold reckonerref01_Cut.f
  rw [if_pos q, List.nil_append]
end Go.Proofs.Ytkkkbalefnileaa.Ex
/- The reference's Word and Times (printed in Tx4, Tx5). -/
namespace Go.Proofs.Ytkkkbalefnileaa.Ex
open Go.RowKit Go.Proofs.YtkkkbalefnileaaW.PrintWords Go.Proofs.YtkkkbalefnileaaW.PrintLast Go.Proofs.YtkkkbalefnileaaW.PrintMore Go.Proofs.Ytkkkbalefnileaa.T
set_option linter.unusedVariables false
set_option linter.unusedSimpArgs false

theorem w64_add (a b : Nat) (h : a + b < 4611686018427387904) : wrap64 ((a : Int) + (b : Int)) = ((a + b : Nat) : Int) := by rw [← Int.natCast_add]; exact w64_nat (a + b) h
theorem w64_sub1 (n : Nat) (h : n < 4611686018427387904) : wrap64 (((n + 1 : Nat) : Int) - 1) = (n : Int) := by rw [← w64_nat n h]; congr 1; omega
theorem w64_suc (n : Nat) (h : n + 1 < 4611686018427387904) : wrap64 ((n : Int) + 1) = ((n + 1 : Nat) : Int) := by rw [← w64_nat (n + 1) h]; rfl
theorem lin5 (u v o c p : Int) (h : u + v = c + o + p) : (u - o) + v = c + p := by omega
theorem Word_some (w : Int) (hw : isW w) : reckonerref01_Word.f w = some [w % H32, w / H32] := by
  have h0 := hw.1
  have h1 := hw.2
  rw [W64_eq] at h1
  have q : 0 ≤ w / H32 ∧ w / H32 < 18446744073709551616 := by rw [H32_eq]; omega
  unfold reckonerref01_Word.f
  rw [tmodH _ h0, tdivH _ h0, wrapW _ q.1 q.2]
theorem word_in (w : Int) (hw : isW w) : inB H32 [w % H32, w / H32] := digitsL_in (inW_cons.2 ⟨hw, inW_nil⟩)
theorem word_val (w : Int) : valB H32 [w % H32, w / H32] = w := by
  have h := digitsL_val [w]
  simpa [digitsL, valB] using h
/-- What holds of a product's digits between two rounds. -/
structure Prod (a b out : List Int) (i : Nat) : Prop where
  len : out.length = a.length + b.length
  dig : inB H32 out
  zero : ∀ j, i + b.length ≤ j → out.getD j 0 = 0
theorem getD_set (l : List Int) (i j : Nat) (x : Int) : (l.set i x).getD j 0 = if i = j ∧ i < l.length then x else l.getD j 0 := by
  simp only [List.getD_eq_getElem?_getD, List.getElem?_set]
  by_cases h : i = j
  · subst h
    by_cases h1 : i < l.length
    · simp [h1]
    · simp [h1]
  · simp [h]
def Good (a b r : List Int) : Prop := inB H32 r ∧ r.length = a.length + b.length ∧ valB H32 r = valB H32 a * valB H32 b
theorem Times_inner (a b : List Int) (ha : inB H32 a) (hb : inB H32 b) (hn : a.length ≤ 1000000) (hm : b.length ≤ 1000000) (i : Nat) (hi : i < a.length)
    (hO : ∀ out, Prod a b out (i + 1) → valB H32 out = valB H32 (a.take (i + 1)) * valB H32 b → ∃ r, Ev (fun k => reckonerref01_Times.l0 k a b out ((i + 1 : Nat) : Int)) r ∧ Good a b r) :
    ∀ (n kk : Nat) (out : List Int) (c : Int), kk + n = b.length → Prod a b out i → (0 ≤ c ∧ c < H32) → valB H32 out + H32 ^ (i + kk) * c = valB H32 (a.take i) * valB H32 b + H32 ^ i * (a.getD i 0 * valB H32 (b.take kk)) →
      ∃ r, Ev (fun k => reckonerref01_Times.l1 k a b out (i : Int) c (kk : Int)) r ∧ Good a b r
  | 0, kk, out, c, hk, hP, hc, hv => by
    have HV := Aside0.mk hv
    clear hv
    obtain rfl : kk = b.length := by omega
    have hlen := hP.len
    have q1 : i + b.length < out.length := by omega
    have q2 : ¬ (b.length : Int) < (b.length : Int) := by omega
    have q3 : (0 : Int) ≤ ((i + b.length : Nat) : Int) := by omega
    have q4 : ((i + b.length : Nat) : Int) < (out.length : Int) := by omega
    have e1 : wrap64 ((i : Int) + (b.length : Int)) = ((i + b.length : Nat) : Int) := w64_add i b.length (by omega)
    have e2 : wrap64 ((i : Int) + 1) = ((i + 1 : Nat) : Int) := by rw [← w64_nat (i + 1) (by omega)]; rfl
    have hz := hP.zero (i + b.length) (Nat.le_refl _)
    obtain ⟨r, h1, h2⟩ := hO (out.set (i + b.length) c) ⟨by rw [List.length_set]; exact hlen, inB_set hP.dig _ hc, fun j hj => by
        rw [getD_set, if_neg (by omega)]
        exact hP.zero j (by omega)⟩ (by
        rw [valB_set H32 out _ c q1, hz, Int.sub_zero, HV.out, valB_take_succ H32 a i hi, List.take_of_length_le (Nat.le_refl _), Int.add_mul, Int.mul_assoc])
    refine ⟨r, Ev.step (fun k => ?_) h1, h2⟩
    rw [reckonerref01_Times.l1, if_neg q2, e1, if_pos q3, if_pos q4, Int.toNat_natCast, e2]
  | n + 1, kk, out, c, hk, hP, hc, hv => by
    have HV := Aside0.mk hv
    clear hv
    have hlen := hP.len
    have hk' : kk + 1 + n = b.length := by omega
    have hjj : ∀ j, i + b.length ≤ j → ¬ (i + kk = j ∧ i + kk < out.length) := by omega
    have hkb : kk < b.length := by omega
    have e1 : wrap64 ((i : Int) + (kk : Int)) = ((i + kk : Nat) : Int) := w64_add i kk (by omega)
    have e2 : wrap64 ((kk : Int) + 1) = ((kk + 1 : Nat) : Int) := by rw [← w64_nat (kk + 1) (by omega)]; rfl
    have q1 : (kk : Int) < (b.length : Int) := by omega
    have q2 : (0 : Int) ≤ ((i + kk : Nat) : Int) := by omega
    have q3 : ((i + kk : Nat) : Int) < (out.length : Int) := by omega
    have q4 : (0 : Int) ≤ (i : Int) := by omega
    have q5 : (i : Int) < (a.length : Int) := by omega
    have q6 : (0 : Int) ≤ (kk : Int) := by omega
    have q7 : i + kk < out.length := by omega
    have h1 := inB_getD H32_pos ha i
    have h2 := inB_getD H32_pos hb kk
    have h3 := inB_getD H32_pos hP.dig (i + kk)
    rw [H32_eq] at h1 h2 h3 hc
    have hmul : a.getD i 0 * b.getD kk 0 ≤ 18446744065119617025 := Int.le_trans (Int.mul_le_mul (show a.getD i 0 ≤ 4294967295 by omega) (show b.getD kk 0 ≤ 4294967295 by omega) h2.1 (by decide)) (by decide)
    have hmul0 : 0 ≤ a.getD i 0 * b.getD kk 0 := Int.mul_nonneg h1.1 h2.1
    obtain ⟨p, hp⟩ : ∃ p, p = a.getD i 0 * b.getD kk 0 := ⟨_, rfl⟩
    rw [← hp] at hmul hmul0
    have HPP := Aside0.mk hp
    clear hp
    have w1 : IntKind.u64.wrap (c + out.getD (i + kk) 0) = c + out.getD (i + kk) 0 := wrapW _ (by omega) (by omega)
    have w2 : IntKind.u64.wrap p = p := wrapW _ (by omega) (by omega)
    have w3 : 0 ≤ c + out.getD (i + kk) 0 + p ∧ c + out.getD (i + kk) 0 + p < 18446744073709551616 := by omega
    have w4 : 0 ≤ (c + out.getD (i + kk) 0 + p) / H32 ∧ (c + out.getD (i + kk) 0 + p) / H32 < 4294967296 := by rw [H32_eq]; omega
    have w5 : (c + out.getD (i + kk) 0 + p) / H32 < 18446744073709551616 := by omega
    have w6 : 0 ≤ (c + out.getD (i + kk) 0 + p) % H32 ∧ (c + out.getD (i + kk) 0 + p) % H32 < H32 := by rw [H32_eq]; omega
    have hdm := Int.emod_add_mul_ediv (c + out.getD (i + kk) 0 + p) H32
    obtain ⟨r, k1, k2⟩ := Times_inner a b ha hb hn hm i hi hO n (kk + 1) (out.set (i + kk) ((c + out.getD (i + kk) 0 + p) % H32)) ((c + out.getD (i + kk) 0 + p) / H32) hk'
      ⟨by rw [List.length_set]; exact hlen, inB_set hP.dig _ w6, fun j hj => by rw [getD_set, if_neg (hjj j hj)]; exact hP.zero j hj⟩ w4 (by
        rw [valB_set H32 out _ _ q7, valB_take_succ H32 b kk hkb, Int.mul_add (a.getD i 0), Int.mul_add (H32 ^ i), ← Int.add_assoc, ← HV.out]
        have e4 : H32 ^ i * (a.getD i 0 * (H32 ^ kk * b.getD kk 0)) = H32 ^ (i + kk) * p := by
          rw [HPP.out, Int.pow_add, Int.mul_left_comm (a.getD i 0), ← Int.mul_assoc]
        have e5 : H32 ^ (i + (kk + 1)) = H32 ^ (i + kk) * H32 := by rw [← Nat.add_assoc, Int.pow_succ]
        have e6 : H32 ^ (i + kk) * ((c + out.getD (i + kk) 0 + p) % H32 - out.getD (i + kk) 0) + H32 ^ (i + kk) * H32 * ((c + out.getD (i + kk) 0 + p) / H32) = H32 ^ (i + kk) * c + H32 ^ (i + kk) * p := by
          rw [Int.mul_assoc, ← Int.mul_add, ← Int.mul_add, lin5 _ _ _ _ _ hdm]
        rw [e4, e5, Int.add_assoc (valB H32 out), e6, ← Int.add_assoc])
    refine ⟨r, Ev.step (fun k => ?_) k1, k2⟩
    rw [reckonerref01_Times.l1, if_pos q1, e1, if_pos q2, if_pos q3, if_pos q4, if_pos q5, if_pos q6, rd_nat, rd_nat, rd_nat, ← HPP.out, w1, w2, wrapW _ w3.1 w3.2, tmodH _ w3.1, tdivH _ w3.1, wrapW _ w4.1 w5, e2, Int.toNat_natCast]
theorem Times_outer (a b : List Int) (ha : inB H32 a) (hb : inB H32 b) (hn : a.length ≤ 1000000) (hm : b.length ≤ 1000000) : ∀ (m i : Nat) (out : List Int), i + m = a.length → Prod a b out i → valB H32 out = valB H32 (a.take i) * valB H32 b →
      ∃ r, Ev (fun k => reckonerref01_Times.l0 k a b out (i : Int)) r ∧ Good a b r
  | 0, i, out, hi, hP, hv => by
    have q0 : a.length ≤ i := by clear hv; omega
    have q1 : ¬ (i : Int) < (a.length : Int) := by clear hv; omega
    rw [List.take_of_length_le q0] at hv
    exact ⟨out, Ev.now' fun k => by rw [reckonerref01_Times.l0, if_neg q1], hP.dig, hP.len, hv⟩
  | m + 1, i, out, hi, hP, hv => by
    have q1 : (i : Int) < (a.length : Int) := by clear hv; omega
    have q2 : i < a.length := by clear hv; omega
    have q3 : i + 1 + m = a.length := by clear hv; omega
    obtain ⟨r, h1, h2⟩ := Times_inner a b ha hb hn hm i q2 (fun out hP hv => Times_outer a b ha hb hn hm m (i + 1) out q3 hP hv) b.length 0 out 0 (Nat.zero_add _) hP ⟨Int.le_refl 0, H32_pos⟩ (by
      rw [List.take_zero]
      simp [valB, hv])
    exact ⟨r, Ev.step (fun k => by rw [reckonerref01_Times.l0, if_pos q1]; rfl) h1, h2⟩
/-- A product of digits. -/
theorem Times_ev (a b : List Int) (ha : inB H32 a) (hb : inB H32 b) (hn : a.length ≤ 1000000) (hm : b.length ≤ 1000000) : ∃ r, Ev (fun k => reckonerref01_Times.f k a b) r ∧ Good a b r := by
  obtain ⟨r, h1, h2⟩ := Times_outer a b ha hb hn hm a.length 0 (List.replicate (a.length + b.length) 0) (by omega)
    ⟨by simp, inB_zeros H32_pos _, fun j _ => by
        simp only [List.getD_eq_getElem?_getD, List.getElem?_replicate]
        split <;> rfl⟩ (by rw [valB_zeros, List.take_zero]; simp [valB])
  have e1 : wrap64 ((a.length : Int) + (b.length : Int)) = ((a.length + b.length : Nat) : Int) := w64_add a.length b.length (by omega)
  have q1 : (0 : Int) ≤ ((a.length + b.length : Nat) : Int) := by omega
  have q2 : a.length + b.length ≤ 35184372088832 := by omega
  refine ⟨r, Ev.congr (fun k => ?_) h1, h2⟩
  show reckonerref01_Times.f k a b = _
  unfold reckonerref01_Times.f
  rw [e1, if_pos q1, Int.toNat_natCast, if_pos q2]
  rfl
end Go.Proofs.Ytkkkbalefnileaa.Ex
/- The reference's Short, one and Divide (printed in Tx6). -/
namespace Go.Proofs.Ytkkkbalefnileaa.Ex
open Go.RowKit Go.Proofs.YtkkkbalefnileaaW.PrintWords Go.Proofs.YtkkkbalefnileaaW.PrintLast Go.Proofs.YtkkkbalefnileaaW.PrintMore Go.Proofs.Ytkkkbalefnileaa.T
set_option linter.unusedVariables false
set_option linter.unusedSimpArgs false


/-! ### Short -/
theorem Short_stop (a : List Int) (n : Nat) (hn : n ≤ a.length) : (if 0 ≤ (n : Int) then (if (n : Int) ≤ (a.length : Int) then (some (a.take ((n : Int) : Int).toNat)) else (none)) else (none)) = some (a.take n) := by
  rw [if_pos (by omega), if_pos (by omega), Int.toNat_natCast]
theorem Short_loop (a : List Int) (hn : a.length ≤ 4000000) : ∀ n, n ≤ a.length → valB H32 (a.take n) = valB H32 a →
    ∃ m, m ≤ a.length ∧ Ev (fun k => reckonerref01_Short.l0 k a (n : Int)) (a.take m) ∧ valB H32 (a.take m) = valB H32 a ∧ (m = 0 ∨ a.getD (m - 1) 0 ≠ 0)
  | 0, h, hv => ⟨0, h, Ev.now' fun k => by
      have q : ¬ (((0 : Nat) : Int) > 0) := by decide
      rw [reckonerref01_Short.l0, if_neg q]
      exact Short_stop a 0 h, hv, Or.inl rfl⟩
  | n + 1, h, hv => by
    have q1 : (((n + 1 : Nat) : Int) > 0) := by omega
    have q2 : (0 : Int) ≤ (n : Int) := by omega
    have q3 : (n : Int) < (a.length : Int) := by omega
    have e1 := w64_sub1 n (by omega)
    by_cases hz : a.getD n 0 = 0
    · obtain ⟨m, m1, m2, m3⟩ := Short_loop a hn n (by omega) (by rw [← hv, valB_take_succ H32 a n (by omega), hz, Int.mul_zero, Int.add_zero])
      refine ⟨m, m1, Ev.step (fun k => ?_) m2, m3⟩
      rw [reckonerref01_Short.l0, if_pos q1, e1, if_pos q2, if_pos q3, rd_nat, if_pos hz]
    · refine ⟨n + 1, h, Ev.now' fun k => ?_, hv, Or.inr hz⟩
      rw [reckonerref01_Short.l0, if_pos q1, e1, if_pos q2, if_pos q3, rd_nat, if_neg hz]
      exact Short_stop a (n + 1) h
theorem Short_ev (a : List Int) (hn : a.length ≤ 4000000) : ∃ m, m ≤ a.length ∧ Ev (fun k => reckonerref01_Short.f k a) (a.take m) ∧ valB H32 (a.take m) = valB H32 a ∧ (m = 0 ∨ a.getD (m - 1) 0 ≠ 0) :=
  Short_loop a hn a.length (Nat.le_refl _) (by rw [List.take_of_length_le (Nat.le_refl _)])
/-! ### by one digit -/
def oneL (a : List Int) (b : Int) : Nat → List Int → Int → List Int × Int
  | 0, q, r => (q, r)
  | m + 1, q, r => oneL a b m (q.set m ((r * H32 + a.getD m 0) / b)) ((r * H32 + a.getD m 0) % b)
theorem oneL_val (a : List Int) (b : Int) (ha : inB H32 a) (hb0 : 0 < b) (hb1 : b < H32) : ∀ m q r, m ≤ q.length → m ≤ a.length → inB H32 q → (∀ j, j < m → q.getD j 0 = 0) → 0 ≤ r → r < b →
    inB H32 (oneL a b m q r).1 ∧ (oneL a b m q r).1.length = q.length ∧ 0 ≤ (oneL a b m q r).2 ∧ (oneL a b m q r).2 < b ∧ valB H32 (oneL a b m q r).1 * b + (oneL a b m q r).2 = valB H32 q * b + H32 ^ m * r + valB H32 (a.take m)
  | 0, q, r, _, _, hq, _, h0, h1 => ⟨hq, rfl, h0, h1, by simp [oneL, valB]⟩
  | m + 1, q, r, hm, hn, hq, hz, h0, h1 => by
    have hx := inB_getD H32_pos ha m
    have hx0 := hx.1
    have hx1 := hx.2
    have hd := Int.emod_add_mul_ediv (r * H32 + a.getD m 0) b
    have hr0 := Int.emod_nonneg (r * H32 + a.getD m 0) (by omega : b ≠ 0)
    have hr1 := Int.emod_lt_of_pos (r * H32 + a.getD m 0) hb0
    have hn0 : 0 ≤ r * H32 + a.getD m 0 := Int.add_nonneg (Int.mul_nonneg h0 (by decide)) hx0
    have hq0 := Int.ediv_nonneg hn0 (by omega : 0 ≤ b)
    have hq1 : (r * H32 + a.getD m 0) / b < H32 := by
      rw [Int.ediv_lt_iff_lt_mul hb0]
      have h2 : (r + 1) * H32 ≤ b * H32 := Int.mul_le_mul_of_nonneg_right (by omega) (by decide)
      rw [Int.add_mul, Int.one_mul] at h2
      rw [Int.mul_comm H32]
      omega
    obtain ⟨k1, k2, k3, k4, k5⟩ := oneL_val a b ha hb0 hb1 m (q.set m ((r * H32 + a.getD m 0) / b)) ((r * H32 + a.getD m 0) % b) (by rw [List.length_set]; omega) (by omega) (inB_set hq m ⟨hq0, hq1⟩) (fun j hj => by
      rw [getD_set, if_neg (by omega)]
      exact hz j (by omega)) hr0 hr1
    rw [List.length_set] at k2
    refine ⟨k1, k2, k3, k4, ?_⟩
    show valB H32 (oneL a b m (q.set m ((r * H32 + a.getD m 0) / b)) ((r * H32 + a.getD m 0) % b)).1 * b + (oneL a b m (q.set m ((r * H32 + a.getD m 0) / b)) ((r * H32 + a.getD m 0) % b)).2 = _
    rw [k5, valB_set H32 q m _ (by omega), hz m (by omega), valB_take_succ H32 a m (by omega), Int.pow_succ, Int.sub_zero]
    generalize (r * H32 + a.getD m 0) / b = t at *
    generalize (r * H32 + a.getD m 0) % b = s at *
    generalize valB H32 q = V at *
    generalize valB H32 (a.take m) = L at *
    generalize a.getD m 0 = x at *
    generalize H32 ^ m = P at *
    clear k1 k2 k3 k4 k5 hx hx0 hx1 hr0 hr1 hn0 hq0 hq1 hz h0 h1 hq hm hn ha hb0 hb1
    have e : P * (s + b * t) = P * (r * H32 + x) := by rw [hd]
    grind
/-- What one step of such a division calculates. -/
theorem one_step (a : List Int) (b : Int) (ha : inB H32 a) (hb0 : 0 < b) (hb1 : b < H32) (m : Nat) (r : Int) (h0 : 0 ≤ r) (h1 : r < b) :
    IntKind.u64.wrap (Int.tdiv (IntKind.u64.wrap ((IntKind.u64.wrap (r * 4294967296)) + (a.getD m 0))) b) = (r * H32 + a.getD m 0) / b ∧
    Int.tmod (IntKind.u64.wrap ((IntKind.u64.wrap (r * 4294967296)) + (a.getD m 0))) b = (r * H32 + a.getD m 0) % b := by
  have hx := inB_getD H32_pos ha m
  rw [H32_eq] at hx hb1 ⊢
  have w1 : IntKind.u64.wrap (r * 4294967296) = r * 4294967296 := wrapW _ (by omega) (by omega)
  have w2 : IntKind.u64.wrap (r * 4294967296 + a.getD m 0) = r * 4294967296 + a.getD m 0 := wrapW _ (by omega) (by omega)
  have hn0 : 0 ≤ r * 4294967296 + a.getD m 0 := by omega
  have hn1 : r * 4294967296 + a.getD m 0 < 18446744073709551616 := by omega
  rw [w1, w2, Int.tdiv_eq_ediv_of_nonneg hn0, Int.tmod_eq_emod_of_nonneg hn0]
  have hq0 := Int.ediv_nonneg hn0 (by omega : 0 ≤ b)
  have hq1 := Int.ediv_le_self b hn0
  exact ⟨wrapW _ hq0 (by omega), rfl⟩
theorem one_loop (a : List Int) (b : Int) (ha : inB H32 a) (hb0 : 0 < b) (hb1 : b < H32) (hn : a.length ≤ 4000000) : ∀ m q r, m ≤ q.length → m ≤ a.length → 0 ≤ r → r < b →
    Ev (fun k => reckonerref01_one.l0 k a b q r ((m : Int) - 1)) ((oneL a b m q r).1, [(oneL a b m q r).2])
  | 0, q, r, _, _, _, _ => Ev.now' fun k => by
      have q1 : ¬ ((((0 : Nat) : Int) - 1) ≥ 0) := by decide
      rw [reckonerref01_one.l0, if_neg q1]
      rfl
  | m + 1, q, r, hm, hl, h0, h1 => by
    have e0 : (((m + 1 : Nat) : Int) - 1) = (m : Int) := by omega
    have q1 : ((m : Int) ≥ 0) := by omega
    have q2 : (0 : Int) ≤ (m : Int) := by omega
    have q3 : (m : Int) < (a.length : Int) := by omega
    have q4 : ¬ b = 0 := by omega
    have q5 : (m : Int) < (q.length : Int) := by omega
    have e1 : wrap64 ((m : Int) - 1) = (m : Int) - 1 := w64_int _ (by omega) (by omega)
    obtain ⟨s1, s2⟩ := one_step a b ha hb0 hb1 m r h0 h1
    have ih := one_loop a b ha hb0 hb1 hn m (q.set m ((r * H32 + a.getD m 0) / b)) ((r * H32 + a.getD m 0) % b) (by rw [List.length_set]; omega) (by omega) (Int.emod_nonneg _ q4) (Int.emod_lt_of_pos _ hb0)
    refine Ev.step (fun k => ?_) ih
    rw [e0, reckonerref01_one.l0, if_pos q1, if_pos q2, if_pos q3, if_neg q4, if_pos q5, rd_nat, s1, s2, e1, Int.toNat_natCast]
theorem getD_zeros (n j : Nat) : (List.replicate n (0 : Int)).getD j 0 = 0 := by
  simp only [List.getD_eq_getElem?_getD, List.getElem?_replicate]
  split <;> rfl
theorem one_ev (a : List Int) (b : Int) (ha : inB H32 a) (hb0 : 0 < b) (hb1 : b < H32) (hn : a.length ≤ 4000000) :
    ∃ q r, Ev (fun k => reckonerref01_one.f k a b) (q, [r]) ∧ inB H32 q ∧ q.length = a.length ∧ 0 ≤ r ∧ r < b ∧ valB H32 q * b + r = valB H32 a := by
  have hl : a.length ≤ (List.replicate a.length (0 : Int)).length := by simp
  have h := one_loop a b ha hb0 hb1 hn a.length (List.replicate a.length 0) 0 hl (Nat.le_refl _) (Int.le_refl 0) hb0
  obtain ⟨k1, k2, k3, k4, k5⟩ := oneL_val a b ha hb0 hb1 a.length (List.replicate a.length 0) 0 hl (Nat.le_refl _) (inB_zeros H32_pos _) (fun j _ => getD_zeros _ j) (Int.le_refl 0) hb0
  rw [valB_zeros, Int.zero_mul, Int.mul_zero, List.take_of_length_le (Nat.le_refl _)] at k5
  refine ⟨_, _, Ev.congr (fun k => ?_) h, k1, by rw [k2]; simp, k3, k4, by omega⟩
  have q1 : (0 : Int) ≤ (a.length : Int) := by omega
  have q2 : a.length ≤ 35184372088832 := by omega
  have e1 : wrap64 ((a.length : Int) - 1) = (a.length : Int) - 1 := w64_int _ (by omega) (by omega)
  show reckonerref01_one.f k a b = _
  unfold reckonerref01_one.f
  rw [if_pos q1, Int.toNat_natCast, if_pos q2, e1]
/-! ### Divide -/
def DivGood (A B : Int) (la : Nat) (R : List Int × List Int) : Prop := inB H32 R.1 ∧ inB H32 R.2 ∧ R.1.length ≤ la + 2 ∧ R.2.length ≤ la + 2 ∧ A = valB H32 R.1 * B + valB H32 R.2 ∧ valB H32 R.2 < B
/-- The remainder is divided by the scale again. -/
theorem down_loop (r : List Int) (s : Int) (Q : List Int) (ha : inB H32 r) (hb0 : 0 < s) (hb1 : s < H32) (hn : r.length ≤ 4000000) : ∀ m q t, m ≤ q.length → m ≤ r.length → 0 ≤ t → t < s →
    Ev (fun k => reckonerref01_Divide.l4 k s Q r q t ((m : Int) - 1)) (Q, (oneL r s m q t).1)
  | 0, q, t, _, _, _, _ => Ev.now' fun k => by
      have q1 : ¬ ((((0 : Nat) : Int) - 1) ≥ 0) := by decide
      rw [reckonerref01_Divide.l4, if_neg q1]
      rfl
  | m + 1, q, t, hm, hl, h0, h1 => by
    have e0 : (((m + 1 : Nat) : Int) - 1) = (m : Int) := by omega
    have q1 : ((m : Int) ≥ 0) := by omega
    have q2 : (0 : Int) ≤ (m : Int) := by omega
    have q3 : (m : Int) < (r.length : Int) := by omega
    have q4 : ¬ s = 0 := by omega
    have q5 : (m : Int) < (q.length : Int) := by omega
    have e1 : wrap64 ((m : Int) - 1) = (m : Int) - 1 := w64_int _ (by omega) (by omega)
    obtain ⟨s1, s2⟩ := one_step r s ha hb0 hb1 m t h0 h1
    have ih := down_loop r s Q ha hb0 hb1 hn m (q.set m ((t * H32 + r.getD m 0) / s)) ((t * H32 + r.getD m 0) % s) (by rw [List.length_set]; omega) (by omega) (Int.emod_nonneg _ q4) (Int.emod_lt_of_pos _ hb0)
    refine Ev.step (fun k => ?_) ih
    rw [e0, reckonerref01_Divide.l4, if_pos q1, if_pos q2, if_pos q3, if_neg q4, if_pos q5, rd_nat, s1, s2, e1, Int.toNat_natCast]
/-- The end: what is left of the scaled number is the scaled remainder. -/
theorem Div_end (x0 b q : List Int) (s A B : Int) (n : Int) (la : Nat) (i : Int) (hi : i < 0) (hx : inB H32 x0) (hq : inB H32 q) (hs0 : 0 < s) (hs1 : s < H32) (hl : x0.length ≤ la + 2) (hla : la ≤ 1000000) (hlq : q.length ≤ la + 2)
    (hv : A * s = valB H32 q * (B * s) + valB H32 x0) (hlt : valB H32 x0 < B * s) : ∃ R, Ev (fun k => reckonerref01_Divide.l1 k x0 b s n q i) R ∧ DivGood A B la R := by
  obtain ⟨m, m1, m2, m3, _⟩ := Short_ev x0 (by omega)
  have hr := inB_take hx m
  have hrl : (x0.take m).length = m := by rw [List.length_take]; omega
  have hz : (x0.take m).length ≤ (List.replicate (x0.take m).length (0 : Int)).length := by simp
  have h := down_loop (x0.take m) s q hr hs0 hs1 (by omega) (x0.take m).length (List.replicate (x0.take m).length 0) 0 hz (Nat.le_refl _) (Int.le_refl 0) hs0
  obtain ⟨k1, k2, k3, k4, k5⟩ := oneL_val (x0.take m) s hr hs0 hs1 (x0.take m).length (List.replicate (x0.take m).length 0) 0 hz (Nat.le_refl _) (inB_zeros H32_pos _) (fun j _ => getD_zeros _ j) (Int.le_refl 0) hs0
  rw [valB_zeros, Int.zero_mul, Int.mul_zero, List.take_of_length_le (Nat.le_refl _), m3] at k5
  rw [List.length_replicate] at k2
  refine ⟨_, Ev.step (f := fun k => (reckonerref01_Short.f k x0).bind fun t421 => (if 0 ≤ (t421.length : Int) then (if ((t421.length : Int) : Int).toNat ≤ 35184372088832 then (reckonerref01_Divide.l4 k s q t421 (List.replicate ((t421.length : Int) : Int).toNat 0) 0 (wrap64 ((t421.length : Int) - 1))) else (none)) else (none))) (fun k => ?_) (Ev.bind m2 (Ev.congr (fun k => ?_) h)), ?_⟩
  · have q1 : ¬ (i ≥ 0) := by omega
    rw [reckonerref01_Divide.l1, if_neg q1]
  · have q1 : (0 : Int) ≤ ((x0.take m).length : Int) := by omega
    have q2 : (x0.take m).length ≤ 35184372088832 := by omega
    have e1 : wrap64 (((x0.take m).length : Int) - 1) = ((x0.take m).length : Int) - 1 := w64_int _ (by omega) (by omega)
    rw [if_pos q1, Int.toNat_natCast, if_pos q2, e1]
  · generalize (oneL (x0.take m) s (x0.take m).length (List.replicate (x0.take m).length 0) 0).1 = D at *
    generalize (oneL (x0.take m) s (x0.take m).length (List.replicate (x0.take m).length 0) 0).2 = E at *
    have hDl : D.length ≤ la + 2 := by omega
    -- what the scale leaves is 0
    have e0 : s * (valB H32 D) + E = s * (A - valB H32 q * B) + 0 := by clear h m2 m3 hr hrl hz k1 k2; grind
    obtain ⟨e1, e2⟩ := div_unique (M := s) (a := E) (b := valB H32 D) (a' := 0) (b' := A - valB H32 q * B) k3 k4 (Int.le_refl 0) hs0 (by omega)
    refine ⟨hq, k1, hlq, hDl, by show A = valB H32 q * B + valB H32 D; omega, ?_⟩
    have e3 : valB H32 D * s < B * s := by omega
    exact Int.lt_of_mul_lt_mul_right e3 (by omega)
end Go.Proofs.Ytkkkbalefnileaa.Ex
/- The reference's Divide: the loops. -/
namespace Go.Proofs.Ytkkkbalefnileaa.Ex
open Go.RowKit Go.Proofs.YtkkkbalefnileaaW.PrintWords Go.Proofs.YtkkkbalefnileaaW.PrintLast Go.Proofs.YtkkkbalefnileaaW.PrintMore Go.Proofs.Ytkkkbalefnileaa.T
set_option linter.unusedVariables false
set_option linter.unusedSimpArgs false

/-- A row with a window written anew. -/
def putL (x : List Int) (i : Nat) (r : List Int) : List Int := x.take i ++ r ++ x.drop (i + r.length)
theorem putL_length (x : List Int) (i : Nat) (r : List Int) (h : i + r.length ≤ x.length) : (putL x i r).length = x.length := by
  unfold putL
  simp only [List.length_append, List.length_take, List.length_drop]
  omega
theorem putL_in {x : List Int} {i : Nat} {r : List Int} (hx : inB H32 x) (hr : inB H32 r) : inB H32 (putL x i r) := inB_append.2 ⟨inB_append.2 ⟨inB_take hx i, hr⟩, inB_drop hx _⟩
theorem putL_take (x : List Int) (i : Nat) (r : List Int) (h : i ≤ x.length) : (putL x i r).take i = x.take i := by
  unfold putL
  rw [List.append_assoc, List.take_append_of_le_length (by rw [List.length_take]; omega), List.take_take, Nat.min_self]
theorem putL_drop (x : List Int) (i : Nat) (r : List Int) (h : i ≤ x.length) : (putL x i r).drop i = r ++ x.drop (i + r.length) := by
  unfold putL
  rw [List.append_assoc, List.drop_append_of_le_length (by rw [List.length_take]; omega), List.drop_take]
  simp
theorem putL_set (x r : List Int) (i kk : Nat) (hk : kk < r.length) (h : i + r.length ≤ x.length) : (putL x i (r.take kk)).set (i + kk) (r.getD kk 0) = putL x i (r.take (kk + 1)) := by
  unfold putL
  have e1 : (r.take kk).length = kk := by rw [List.length_take]; omega
  have e2 : (r.take (kk + 1)).length = kk + 1 := by rw [List.length_take]; omega
  have e3 : (x.take i ++ r.take kk).length = i + kk := by simp only [List.length_append, List.length_take]; omega
  have e4 : i + kk < x.length := by omega
  have e5 : r.take (kk + 1) = r.take kk ++ [r.getD kk 0] := by
    rw [List.take_succ_eq_append_getElem hk]
    simp only [List.getD_eq_getElem?_getD, List.getElem?_eq_getElem hk, Option.getD_some]
  rw [e1, e2, List.set_append_right _ _ (by omega), e3, Nat.sub_self, List.drop_eq_getElem_cons e4, e5, List.set_cons_zero]
  simp only [List.append_assoc, List.cons_append, List.nil_append]
  rfl
theorem putL_zero (x : List Int) (i : Nat) : putL x i [] = x := by simp [putL]
/-- The window is written. -/
theorem Div_put (x b q : List Int) (s g : Int) (i n : Nat) (r : List Int) (hr : r.length = n + 1) (hi : i + n < x.length) (hq : i < q.length) (hx : x.length ≤ 2000000) {P : List Int × List Int → Prop}
    (hO : ∃ R, Ev (fun k => reckonerref01_Divide.l1 k (putL x i r) b s (n : Int) (q.set i g) ((i : Int) - 1)) R ∧ P R) : ∀ m kk, kk + m = n + 1 → ∃ R, Ev (fun k => reckonerref01_Divide.l3 k (putL x i (r.take kk)) b s (n : Int) q (i : Int) g r (kk : Int)) R ∧ P R
  | 0, kk, hk => by
    obtain rfl : kk = n + 1 := by omega
    obtain ⟨R, h1, h2⟩ := hO
    rw [List.take_of_length_le (by omega)]
    have q1 : ¬ (((n + 1 : Nat) : Int) ≤ (n : Int)) := by omega
    have q2 : (0 : Int) ≤ (i : Int) := by omega
    have q3 : (i : Int) < (q.length : Int) := by omega
    have e1 : wrap64 ((i : Int) - 1) = (i : Int) - 1 := w64_int _ (by omega) (by omega)
    refine ⟨R, Ev.step (fun k => ?_) h1, h2⟩
    rw [reckonerref01_Divide.l3, if_neg q1, if_pos q2, if_pos q3, e1, Int.toNat_natCast]
  | m + 1, kk, hk => by
    obtain ⟨R, h1, h2⟩ := Div_put x b q s g i n r hr hi hq hx hO m (kk + 1) (by omega)
    have hlen : (putL x i (r.take kk)).length = x.length := putL_length x i _ (by rw [List.length_take]; omega)
    have q1 : ((kk : Int) ≤ (n : Int)) := by omega
    have q2 : (0 : Int) ≤ (kk : Int) := by omega
    have q3 : (kk : Int) < (r.length : Int) := by omega
    have e1 : wrap64 ((i : Int) + (kk : Int)) = ((i + kk : Nat) : Int) := w64_add i kk (by omega)
    have q4 : (0 : Int) ≤ ((i + kk : Nat) : Int) := by omega
    have q5 : ((i + kk : Nat) : Int) < ((putL x i (r.take kk)).length : Int) := by omega
    have e2 := w64_suc kk (by omega)
    refine ⟨R, Ev.step (fun k => ?_) h1, h2⟩
    rw [reckonerref01_Divide.l3, if_pos q1, if_pos q2, if_pos q3, e1, if_pos q4, if_pos q5, rd_nat, Int.toNat_natCast, putL_set x r i kk (by omega) (by omega), e2]
theorem fit_zero {W t B R P : Int} (h : R - P * 1 = W - B * t) (h1 : t * B ≤ W) (hr : R < P) : False := by
  rw [Int.mul_one, Int.mul_comm B t] at h
  omega
theorem fit_more {W t B R : Int} {d : Int} (h : R = W - B * (t + d)) (hd : 1 ≤ d) (h1 : W < (t + 1) * B) (hB : 0 ≤ B) (hr : 0 ≤ R) : False := by
  have h3 : (t + 1) * B ≤ (t + d) * B := Int.mul_le_mul_of_nonneg_right (by omega) hB
  rw [Int.mul_comm B] at h
  omega
theorem bit_zero {c : Int} (h : 0 ≤ c ∧ c ≤ 1) (h1 : c ≠ 1) : c = 0 := by omega
theorem bit_one {c : Int} (h : 0 ≤ c ∧ c ≤ 1) (h1 : c ≠ 0) : c = 1 := by omega
theorem add_nat_nonneg {t : Int} (h : 0 ≤ t) (d : Nat) : 0 ≤ t + (d : Int) := by omega
theorem suc_ge (d : Nat) : 1 ≤ ((d + 1 : Nat) : Int) := by omega
theorem suc_lt {t M : Int} {d : Nat} (h : t + ((d + 1 : Nat) : Int) < M) : t + (d : Int) < M := by omega
theorem suc_pred {t : Int} {d : Nat} (h0 : 0 ≤ t) (h : t + ((d + 1 : Nat) : Int) < H32) : IntKind.u64.wrap (t + ((d + 1 : Nat) : Int) - 1) = t + (d : Int) := by
  rw [H32_eq] at h
  rw [wrapW _ (by omega) (by omega)]
  omega
/-- One round: the product is taken from the window. -/
theorem Div_round (x b : List Int) (i n : Nat) (g : Int) (hx : inB H32 x) (hb : inB H32 b) (hbn : b.length = n) (hi : i + n < x.length) (hxl : x.length ≤ 1000000) (hg0 : 0 ≤ g) (hg1 : g < H32) :
    ∃ r c, Ev (fun k => (reckonerref01_Times.f k b [g]).bind fun t407 => reckonerref01_Minus.f k ((x.take (i + n + 1)).drop i) t407) (r, (c == 1)) ∧ (0 ≤ c ∧ c ≤ 1) ∧ inB H32 r ∧ r.length = n + 1 ∧ valB H32 r - H32 ^ (n + 1) * c = valB H32 ((x.take (i + n + 1)).drop i) - valB H32 b * g := by
  have hwin : inB H32 ((x.take (i + n + 1)).drop i) := inB_drop (inB_take hx _) _
  have hwl : ((x.take (i + n + 1)).drop i).length = n + 1 := by rw [List.length_drop, List.length_take]; omega
  have hg : inB H32 [g] := inB_cons.2 ⟨⟨hg0, hg1⟩, inB_nil⟩
  obtain ⟨p, p1, p2, p3, p4⟩ := Times_ev b [g] hb hg (by omega) (by simp)
  have hpl : p.length = n + 1 := by rw [p3, hbn]; rfl
  obtain ⟨r, c, r1, r2, r3, r4, r5⟩ := Minus_ev ((x.take (i + n + 1)).drop i) p hwin p2 (by clear p4; omega) (by clear p4; omega)
  rw [hwl] at r4 r5
  have hv : valB H32 [g] = g := by simp [valB]
  rw [p4, hv] at r5
  exact ⟨r, c, Ev.bind p1 r1, r2, r3, r4, r5⟩
theorem Div_l2 (x b q : List Int) (s g : Int) (i n : Nat) (hi : i + n < x.length) (hxl : x.length ≤ 1000000) (k : Nat) : reckonerref01_Divide.l2 (k + 1) x b s (n : Int) q (i : Int) g = ((reckonerref01_Times.f k b [g]).bind fun t407 => reckonerref01_Minus.f k ((x.take (i + n + 1)).drop i) t407).bind fun bt414 => (if bt414.2 = true then (reckonerref01_Divide.l2 k x b s (n : Int) q (i : Int) (IntKind.u64.wrap (g - 1))) else (reckonerref01_Divide.l3 k x b s (n : Int) q (i : Int) g bt414.1 0)) := by
  have e1 : wrap64 ((i : Int) + (n : Int)) = ((i + n : Nat) : Int) := w64_add i n (by omega)
  have e2 := w64_suc (i + n) (by omega)
  have q1 : (0 : Int) ≤ (i : Int) := by omega
  have q2 : (i : Int) ≤ ((i + n + 1 : Nat) : Int) := by omega
  have q3 : ((i + n + 1 : Nat) : Int) ≤ (x.length : Int) := by omega
  rw [reckonerref01_Divide.l2, Option.bind_assoc]
  congr 1
  funext t407
  rw [e1, e2, if_pos q1, if_pos q2, if_pos q3, Int.toNat_natCast, Int.toNat_natCast]
/-- The guess is made less until it fits. -/
theorem Div_guess (x b q : List Int) (s : Int) (i n : Nat) (hx : inB H32 x) (hb : inB H32 b) (hbn : b.length = n) (hi : i + n < x.length) (hxl : x.length ≤ 1000000) (hb0 : 0 < valB H32 b) (W t : Int) (hW : W = valB H32 ((x.take (i + n + 1)).drop i)) (ht0 : 0 ≤ t) (ht1 : t * valB H32 b ≤ W) (ht2 : W < (t + 1) * valB H32 b) {P : List Int × List Int → Prop}
    (hO : ∀ r, inB H32 r → r.length = n + 1 → valB H32 r = W - t * valB H32 b → ∃ R, Ev (fun k => reckonerref01_Divide.l3 k x b s (n : Int) q (i : Int) t r 0) R ∧ P R) :
    ∀ d : Nat, t + d < H32 → ∃ R, Ev (fun k => reckonerref01_Divide.l2 k x b s (n : Int) q (i : Int) (t + d)) R ∧ P R
  | 0, hd => by
    have e5 : t + ((0 : Nat) : Int) = t := Int.add_zero t
    rw [e5] at hd ⊢
    obtain ⟨r, c, r1, r2, r3, r4, r5⟩ := Div_round x b i n t hx hb hbn hi hxl ht0 hd
    rw [← hW] at r5
    have hr1 := valB_lt H32_pos r3
    rw [r4] at hr1
    have hc1 : c ≠ 1 := fun hc => fit_zero (by rw [hc] at r5; exact r5) ht1 hr1
    have hc0 : c = 0 := bit_zero r2 hc1
    rw [hc0, Int.mul_zero, Int.sub_zero, Int.mul_comm (valB H32 b)] at r5
    obtain ⟨R, h1, h2⟩ := hO r r3 r4 r5
    refine ⟨R, Ev.step (Div_l2 x b q s t i n hi hxl) (Ev.bind r1 ?_), h2⟩
    have e4 : (c == 1) = false := by rw [hc0]; rfl
    simp only [e4, Bool.false_eq_true, if_false]
    exact h1
  | d + 1, hd => by
    have hg0 : 0 ≤ t + ((d + 1 : Nat) : Int) := add_nat_nonneg ht0 _
    obtain ⟨r, c, r1, r2, r3, r4, r5⟩ := Div_round x b i n (t + ((d + 1 : Nat) : Int)) hx hb hbn hi hxl hg0 hd
    rw [← hW] at r5
    have hr0 := valB_nonneg H32_pos r3
    have hc0 : c ≠ 0 := fun hc => fit_more (d := ((d + 1 : Nat) : Int)) (by rw [hc, Int.mul_zero, Int.sub_zero] at r5; exact r5) (suc_ge d) ht2 (Int.le_of_lt hb0) hr0
    have hc1 : c = 1 := bit_one r2 hc0
    have hd' : t + (d : Int) < H32 := suc_lt hd
    obtain ⟨R, h1, h2⟩ := Div_guess x b q s i n hx hb hbn hi hxl hb0 W t hW ht0 ht1 ht2 hO d hd'
    refine ⟨R, Ev.step (Div_l2 x b q s (t + ((d + 1 : Nat) : Int)) i n hi hxl) (Ev.bind r1 ?_), h2⟩
    have e3 := suc_pred ht0 hd
    have e4 : (c == 1) = true := by rw [hc1]; rfl
    simp only [e3, e4, if_true]
    exact h1
end Go.Proofs.Ytkkkbalefnileaa.Ex
/- The reference's Divide: the digits from above, the scale, the whole. -/
namespace Go.Proofs.Ytkkkbalefnileaa.Ex
open Go.RowKit Go.Proofs.YtkkkbalefnileaaW.PrintWords Go.Proofs.YtkkkbalefnileaaW.PrintLast Go.Proofs.YtkkkbalefnileaaW.PrintMore Go.Proofs.Ytkkkbalefnileaa.T
set_option linter.unusedVariables false
set_option linter.unusedSimpArgs false

theorem valB_drop_succ (B : Int) (x : List Int) (i : Nat) (h : i < x.length) : valB B (x.drop i) = x.getD i 0 + B * valB B (x.drop (i + 1)) := by
  rw [List.drop_eq_getElem_cons h]
  simp [valB, List.getD_eq_getElem?_getD, List.getElem?_eq_getElem h]
theorem mn_eq (a b : Int) : mn a b = min a b := by first | rfl | (unfold mn; omega) | (unfold mn; split <;> omega)
theorem mx_eq (a b : Int) : mx a b = max a b := by first | rfl | (unfold mx; omega) | (unfold mx; split <;> omega)
/-- The guess of a round: not less than the true digit, and a digit. -/
theorem round_guess (x b : List Int) (i n : Nat) (hx : inB H32 x) (hb : inB H32 b) (hbn : b.length = n + 1) (hi : i + (n + 1) < x.length) (hbt : b.getD n 0 ≠ 0) (W : Int) (hW : W = valB H32 ((x.take (i + (n + 1) + 1)).drop i)) (hlt : W < H32 * valB H32 b) :
    ∃ d : Nat, mn (IntKind.u64.wrap (Int.tdiv (IntKind.u64.wrap ((IntKind.u64.wrap ((x.getD (i + (n + 1)) 0) * 4294967296)) + (x.getD (i + n) 0))) (b.getD n 0))) 4294967295 = W / valB H32 b + (d : Int) ∧ W / valB H32 b + (d : Int) < H32 ∧ 0 ≤ W / valB H32 b := by
  have hwin : inB H32 ((x.take (i + (n + 1) + 1)).drop i) := inB_drop (inB_take hx _) _
  have hwl : ((x.take (i + (n + 1) + 1)).drop i).length = n + 2 := by rw [List.length_drop, List.length_take]; omega
  have g1 : ((x.take (i + (n + 1) + 1)).drop i).getD n 0 = x.getD (i + n) 0 := by
    simp only [List.getD_eq_getElem?_getD, List.getElem?_drop, List.getElem?_take]
    rw [if_pos (by omega)]
  have g2 : ((x.take (i + (n + 1) + 1)).drop i).getD (n + 1) 0 = x.getD (i + (n + 1)) 0 := by
    simp only [List.getD_eq_getElem?_getD, List.getElem?_drop, List.getElem?_take]
    rw [if_pos (by omega)]
  have hW0 : 0 ≤ W := by rw [hW]; exact valB_nonneg H32_pos hwin
  have hb1 := inB_getD H32_pos hb n
  have hbv := valB_last H32 b n hbn
  have hbl := valB_nonneg H32_pos (inB_take hb n)
  have hp := pow_posB H32_pos n
  -- the window: low digits and the two highest
  have w1 := valB_last H32 ((x.take (i + (n + 1) + 1)).drop i) (n + 1) hwl
  have w2 := valB_take_succ H32 ((x.take (i + (n + 1) + 1)).drop i) n (by omega)
  rw [g2] at w1
  rw [g1] at w2
  have wl := valB_lt H32_pos (inB_take hwin n)
  rw [List.length_take, Nat.min_eq_left (by omega)] at wl
  generalize valB H32 (((x.take (i + (n + 1) + 1)).drop i).take n) = low at *
  have hWt : W = low + H32 ^ n * (x.getD (i + (n + 1)) 0 * H32 + x.getD (i + n) 0) := by
    rw [hW, w1, w2, Int.pow_succ]
    grind
  have hge := guess_ge hp hWt wl hbv hbl (by omega) hW0
  have hb0 : 0 < valB H32 b := by
    have := Int.mul_pos hp (by omega : 0 < b.getD n 0)
    omega
  have ht0 : 0 ≤ W / valB H32 b := Int.ediv_nonneg hW0 (by omega)
  have ht1 : W / valB H32 b < H32 := (Int.ediv_lt_iff_lt_mul hb0).2 hlt
  have hx1 := inB_getD H32_pos hx (i + (n + 1))
  have hx2 := inB_getD H32_pos hx (i + n)
  clear hW w1 w2 wl hWt g1 g2 hwin hwl hbv hlt hW0
  rw [H32_eq] at hx1 hx2
  have k1 : IntKind.u64.wrap (x.getD (i + (n + 1)) 0 * 4294967296) = x.getD (i + (n + 1)) 0 * 4294967296 := wrapW _ (by omega) (by omega)
  have k2 : IntKind.u64.wrap (x.getD (i + (n + 1)) 0 * 4294967296 + x.getD (i + n) 0) = x.getD (i + (n + 1)) 0 * 4294967296 + x.getD (i + n) 0 := wrapW _ (by omega) (by omega)
  have k3 : 0 ≤ x.getD (i + (n + 1)) 0 * 4294967296 + x.getD (i + n) 0 := by omega
  have k4 : x.getD (i + (n + 1)) 0 * 4294967296 + x.getD (i + n) 0 < 18446744073709551616 := by omega
  have hge' : W / valB H32 b ≤ (x.getD (i + (n + 1)) 0 * 4294967296 + x.getD (i + n) 0) / b.getD n 0 := hge
  clear hge
  rw [k1, k2, Int.tdiv_eq_ediv_of_nonneg k3]
  generalize x.getD (i + (n + 1)) 0 * 4294967296 + x.getD (i + n) 0 = top at *
  have k5 := Int.ediv_nonneg k3 (by omega : 0 ≤ b.getD n 0)
  have k6 := Int.ediv_le_self (b.getD n 0) k3
  rw [wrapW _ k5 (by omega), mn_eq]
  generalize W / valB H32 b = t at *
  generalize top / b.getD n 0 = g at *
  rw [H32_eq] at ht1 ⊢
  exact ⟨(min g 4294967295 - t).toNat, by omega, by omega, ht0⟩
theorem div_sum (D Bv t Q P L : Int) : Q * Bv + (L + P * D) = (Q + P * t) * Bv + (L + P * (D - t * Bv)) := by grind
theorem pow_leB {n m : Nat} (h : n ≤ m) : H32 ^ n ≤ H32 ^ m := by
  obtain ⟨d, rfl⟩ : ∃ d, m = n + d := ⟨m - n, by omega⟩
  rw [Int.pow_add]
  have h1 := pow_posB H32_pos n
  have h2 := pow_posB H32_pos d
  have h3 : H32 ^ n * 1 ≤ H32 ^ n * H32 ^ d := Int.mul_le_mul_of_nonneg_left (by omega) (by omega)
  omega
theorem next_lt {x D B : Int} (hx : 0 ≤ x ∧ x < H32) (hD : D < B) : x + H32 * D < H32 * B := by
  have h1 : H32 * (D + 1) ≤ H32 * B := Int.mul_le_mul_of_nonneg_left (by omega) (by decide)
  rw [Int.mul_add, Int.mul_one] at h1
  omega
theorem next_pow {D B P : Int} (h : D < H32 * B) (hB : B < P) : D < H32 * P := by
  have h1 : H32 * B ≤ H32 * P := Int.mul_le_mul_of_nonneg_left (by omega) (by decide)
  omega
theorem pos_of_lt {D B : Int} (h0 : 0 ≤ D) (h : D < B) : 0 < B := by omega
theorem rest_lt {D B : Int} (h0 : 0 < B) : D - D / B * B < B := by
  have h1 := Int.emod_add_mul_ediv D B
  have h2 := Int.emod_lt_of_pos D h0
  rw [Int.mul_comm B] at h1
  omega
/-- What the window is, and what is above it. -/
theorem window (x b : List Int) (i n : Nat) (hx : inB H32 x) (hb : inB H32 b) (hbn : b.length = n + 1) (hi : i + (n + 1) < x.length) (hlt : valB H32 (x.drop (i + 1)) < valB H32 b) :
    0 < valB H32 b ∧ valB H32 (x.drop i) < H32 * valB H32 b ∧ valB H32 (x.drop i) = valB H32 ((x.take (i + (n + 1) + 1)).drop i) ∧ valB H32 (x.drop (i + (n + 1 + 1))) = 0 := by
  have hlB := valB_lt H32_pos hb
  rw [hbn] at hlB
  have hd0 := valB_nonneg H32_pos (inB_drop hx (i + 1))
  have hxi := inB_getD H32_pos hx i
  have hDlt : valB H32 (x.drop i) < H32 * valB H32 b := by
    rw [valB_drop_succ H32 x i (by clear hlt hlB; omega)]
    exact next_lt hxi hlt
  have hD0 := valB_nonneg H32_pos (inB_drop hx i)
  have hpow : H32 ^ (n + 1 + 1) = H32 * H32 ^ (n + 1) := by rw [Int.pow_succ, Int.mul_comm]
  have hDp : valB H32 (x.drop i) < H32 ^ (n + 1 + 1) := by
    rw [hpow]
    exact next_pow hDlt hlB
  have hdl : n + 1 + 1 ≤ (x.drop i).length := by rw [List.length_drop]; clear hDp hDlt hlB hlt hd0; omega
  have hwe : (x.take (i + (n + 1) + 1)).drop i = (x.drop i).take (n + 1 + 1) := by
    rw [List.drop_take]
    congr 1
    clear hDp hDlt hlB hlt hd0
    omega
  refine ⟨pos_of_lt hd0 hlt, hDlt, ?_, ?_⟩
  · rw [hwe, valB_take H32_pos (inB_drop hx i) _ hdl]
    exact (Int.emod_eq_of_lt hD0 hDp).symm
  · rw [← List.drop_drop, valB_drop H32_pos (inB_drop hx i) _ hdl]
    exact Int.ediv_eq_zero_of_lt hD0 hDp
theorem Div_main (A B s : Int) (b : List Int) (n la : Nat) (hb : inB H32 b) (hbn : b.length = n + 1) (hbt : b.getD n 0 ≠ 0) (hB : valB H32 b = B * s) (hs0 : 0 < s) (hs1 : s < H32) (hla : la ≤ 900000) :
    ∀ (m : Nat) (x q : List Int), inB H32 x → x.length = la + 2 → inB H32 q → q.length ≤ la + 2 → m ≤ q.length → m + (n + 1) ≤ x.length → (∀ j, j < m → q.getD j 0 = 0) → valB H32 (x.drop m) < valB H32 b → A * s = valB H32 q * (B * s) + valB H32 x →
      ∃ R, Ev (fun k => reckonerref01_Divide.l1 k x b s ((n + 1 : Nat) : Int) q ((m : Int) - 1)) R ∧ DivGood A B la R
  | 0, x, q, hx, hxl, hq, hql, _, _, _, hlt, hv => Div_end x b q s A B _ la _ (by decide) hx hq hs0 hs1 (by omega) (by omega) hql hv (by rw [← hB]; rw [List.drop_zero] at hlt; exact hlt)
  | i + 1, x, q, hx, hxl, hq, hql, hmq, hmx, hz, hlt, hv => by
    have hV := Aside0.mk hv
    clear hv
    have hi2 : i + (n + 1) < x.length := (by omega : ∀ a b c : Nat, a + 1 + (b + 1) ≤ c → a + (b + 1) < c) i n _ hmx
    obtain ⟨hbp, hDlt, hW, hup⟩ := window x b i n hx hb hbn hi2 hlt
    have hlen : x.length ≤ 1000000 := (by omega : ∀ a b : Nat, a = b + 2 → b ≤ 900000 → a ≤ 1000000) _ _ hxl hla
    have hqi' : i < q.length := hmq
    have hix : i ≤ x.length := (by omega : ∀ a b c : Nat, a + b < c → a ≤ c) i (n + 1) _ hi2
    obtain ⟨d, d1, d2, d3⟩ := round_guess x b i n hx hb hbn hi2 hbt (valB H32 (x.drop i)) hW hDlt
    have hsp := valB_split H32 x i hix
    have hqi : q.getD i 0 = 0 := hz i (Nat.lt_succ_self i)
    have hrl := rest_lt (D := valB H32 (x.drop i)) hbp
    have hdig : 0 ≤ valB H32 (x.drop i) / valB H32 b ∧ valB H32 (x.drop i) / valB H32 b < H32 := ⟨d3, Int.lt_of_le_of_lt (Int.le_add_of_nonneg_right (Int.natCast_nonneg d)) d2⟩
    obtain ⟨R, h1, h2⟩ := Div_guess x b q s i (n + 1) hx hb hbn hi2 hlen hbp (valB H32 (x.drop i)) (valB H32 (x.drop i) / valB H32 b) hW d3 (Int.ediv_mul_le _ (Int.ne_of_gt hbp)) (Int.lt_ediv_add_one_mul_self _ hbp) (P := DivGood A B la) (fun r r1 r2 r3 => by
      have hir : i + r.length ≤ x.length := by rw [r2]; exact hi2
      have hpl : (putL x i r).length = x.length := putL_length x i r hir
      have hput := putL_drop x i r hix
      have hpt := putL_take x i r hix
      have hpv := valB_split H32 (putL x i r) i (by rw [hpl]; exact hix)
      have hpd : valB H32 ((putL x i r).drop i) = valB H32 r := by
        rw [hput, valB_append, r2, hup, Int.mul_zero, Int.add_zero]
      rw [hpt, hpd] at hpv
      obtain ⟨R, h1, h2⟩ := Div_main A B s b n la hb hbn hbt hB hs0 hs1 hla i (putL x i r) (q.set i (valB H32 (x.drop i) / valB H32 b)) (putL_in hx r1) (hpl.trans hxl) (inB_set hq i hdig) (by rw [List.length_set]; exact hql) (by rw [List.length_set]; exact Nat.le_of_lt hqi') (by rw [hpl]; exact Nat.le_of_lt hi2)
        (fun j hj => by
          rw [getD_set, if_neg (fun h => Nat.ne_of_gt hj h.1)]
          exact hz j (Nat.lt_succ_of_lt hj)) (by rw [hpd, r3]; exact hrl) (by
          rw [hV.out, valB_set H32 q i _ hqi', hqi, Int.sub_zero, hpv, r3, hsp, ← hB]
          exact div_sum _ _ _ _ _ _)
      have h3 := Div_put x b q s (valB H32 (x.drop i) / valB H32 b) i (n + 1) r r2 hi2 hqi' (Nat.le_trans hlen (by decide)) ⟨R, h1, h2⟩ (n + 2) 0 (by omega)
      rw [List.take_zero, putL_zero] at h3
      exact h3) d d2
    refine ⟨R, Ev.step (fun k => ?_) h1, h2⟩
    clear h1 h2 hW hup hDlt hlt hsp hrl hdig hbp
    have e0 : (((i + 1 : Nat) : Int) - 1) = (i : Int) := (by omega : ∀ a : Nat, (((a + 1 : Nat) : Int) - 1) = (a : Int)) i
    have e1 : wrap64 ((i : Int) + ((n + 1 : Nat) : Int)) = ((i + (n + 1) : Nat) : Int) := w64_add i (n + 1) (Nat.lt_of_lt_of_le hi2 (Nat.le_trans hlen (by decide)))
    have e2 : wrap64 (((i + (n + 1) : Nat) : Int) - 1) = ((i + n : Nat) : Int) := w64_sub1 (i + n) ((by omega : ∀ a b c : Nat, a + (b + 1) < c → c ≤ 1000000 → a + b < 4611686018427387904) i n _ hi2 hlen)
    have e3 : wrap64 (((n + 1 : Nat) : Int) - 1) = (n : Int) := w64_sub1 n ((by omega : ∀ a b c : Nat, a + (b + 1) < c → c ≤ 1000000 → b < 4611686018427387904) i n _ hi2 hlen)
    have q1 : ((i : Int) ≥ 0) := Int.natCast_nonneg _
    have q2 : (0 : Int) ≤ ((i + (n + 1) : Nat) : Int) := Int.natCast_nonneg _
    have q3 : ((i + (n + 1) : Nat) : Int) < (x.length : Int) := Int.ofNat_lt.2 hi2
    have q4 : (0 : Int) ≤ ((i + n : Nat) : Int) := Int.natCast_nonneg _
    have q5 : ((i + n : Nat) : Int) < (x.length : Int) := Int.ofNat_lt.2 (Nat.lt_trans (Nat.lt_succ_self (i + n)) hi2)
    have q6 : (0 : Int) ≤ (n : Int) := Int.natCast_nonneg _
    have q7 : (n : Int) < (b.length : Int) := Int.ofNat_lt.2 (by rw [hbn]; exact Nat.lt_succ_self n)
    rw [e0, reckonerref01_Divide.l1, if_pos q1, e1, if_pos q2, if_pos q3, e2, if_pos q4, if_pos q5, e3, if_pos q6, if_pos q7, rd_nat, rd_nat, rd_nat, if_neg hbt, d1]
/-- Both are multiplied by the scale, and the digits are made. -/
theorem Div_scaled (a b : List Int) (s : Int) (ha : inB H32 a) (hb : inB H32 b) (hla : a.length ≤ 400000) (hlb : b.length ≤ 400000) (hb0 : 0 < valB H32 b) (hs0 : 0 < s) (hs1 : s < H32) :
    ∃ R, Ev (fun k => (reckonerref01_Times.f k a (([s] : List Int))).bind fun t383 => (if t383.length < 17592186044416 then ((some (t383 ++ [0] : List Int)).bind fun y386 => ((reckonerref01_Times.f k b (([s] : List Int))).bind fun t392 => ((reckonerref01_Short.f k t392).bind fun t395 => (if 0 ≤ (mx 0 (wrap64 ((y386.length : Int) - (t395.length : Int)))) then (if (mx 0 (wrap64 ((y386.length : Int) - (t395.length : Int))) : Int).toNat ≤ 35184372088832 then (reckonerref01_Divide.l1 k y386 t395 s (t395.length : Int) (List.replicate (mx 0 (wrap64 ((y386.length : Int) - (t395.length : Int))) : Int).toNat 0) (wrap64 ((wrap64 ((y386.length : Int) - (t395.length : Int))) - 1))) else (none)) else (none))))) else (none))) R ∧ DivGood (valB H32 a) (valB H32 b) a.length R := by
  have hs : inB H32 [s] := inB_cons.2 ⟨⟨by omega, hs1⟩, inB_nil⟩
  obtain ⟨x, x1, x2, x3, x4⟩ := Times_ev a [s] ha hs (by omega) (by simp)
  obtain ⟨c, c1, c2, c3, c4⟩ := Times_ev b [s] hb hs (by omega) (by simp)
  have hxl : x.length = a.length + 1 := x3
  have hcl : c.length = b.length + 1 := c3
  have hx4 : valB H32 x = valB H32 a * s := by rw [x4]; simp [valB]
  have hc4 : valB H32 c = valB H32 b * s := by rw [c4]; simp [valB]
  obtain ⟨m, m1, m2, m3, m4⟩ := Short_ev c (by omega)
  have hcv : 0 < valB H32 c := by rw [hc4]; exact Int.mul_pos hb0 hs0
  have hm0 : m ≠ 0 := by
    rintro rfl
    rw [List.take_zero] at m3
    have : valB H32 [] = 0 := rfl
    omega
  obtain ⟨n, rfl⟩ : ∃ n, m = n + 1 := ⟨m - 1, by omega⟩
  have hbt : (c.take (n + 1)).getD n 0 ≠ 0 := by
    have h1 : (c.take (n + 1)).getD n 0 = c.getD n 0 := by
      simp only [List.getD_eq_getElem?_getD, List.getElem?_take]
      rw [if_pos (by omega)]
    rw [h1]
    exact m4.resolve_left hm0
  have hcl2 : (c.take (n + 1)).length = n + 1 := by rw [List.length_take]; omega
  have hyl : (x ++ [0]).length = a.length + 2 := by simp [hxl]
  have hyi : inB H32 (x ++ [0]) := inB_append.2 ⟨x2, inB_cons.2 ⟨⟨Int.le_refl 0, H32_pos⟩, inB_nil⟩⟩
  have hyv : valB H32 (x ++ [0]) = valB H32 a * s := by rw [valB_append, hx4]; simp [valB]
  have hBv : valB H32 (c.take (n + 1)) = valB H32 b * s := by rw [m3, hc4]
  have htop : H32 ^ n ≤ valB H32 (c.take (n + 1)) := by
    have h1 := valB_last H32 (c.take (n + 1)) n hcl2
    have h2 := valB_nonneg H32_pos (inB_take (inB_take c2 (n + 1)) n)
    have h3 := inB_getD H32_pos (inB_take c2 (n + 1)) n
    have h4 : H32 ^ n * 1 ≤ H32 ^ n * (c.take (n + 1)).getD n 0 := Int.mul_le_mul_of_nonneg_left (by omega) (Int.le_of_lt (pow_posB H32_pos n))
    omega
  have main : ∃ R, Ev (fun k => reckonerref01_Divide.l1 k (x ++ [0]) (c.take (n + 1)) s ((n + 1 : Nat) : Int) (List.replicate (a.length + 2 - (n + 1)) 0) (((a.length + 2 : Nat) : Int) - ((n + 1 : Nat) : Int) - 1)) R ∧ DivGood (valB H32 a) (valB H32 b) a.length R := by
    by_cases hle : n + 1 ≤ a.length + 2
    · have e1 : (((a.length + 2 : Nat) : Int) - ((n + 1 : Nat) : Int) - 1) = ((a.length + 2 - (n + 1) : Nat) : Int) - 1 := by omega
      rw [e1]
      refine Div_main (valB H32 a) (valB H32 b) s (c.take (n + 1)) n a.length (inB_take c2 _) hcl2 hbt hBv hs0 hs1 (by omega) (a.length + 2 - (n + 1)) (x ++ [0]) (List.replicate (a.length + 2 - (n + 1)) 0) hyi hyl (inB_zeros H32_pos _) (by rw [List.length_replicate]; omega) (by rw [List.length_replicate]; exact Nat.le_refl _) (by omega) (fun j _ => getD_zeros _ j) ?_ (by rw [valB_zeros, hyv]; omega)
      have h1 : valB H32 ((x ++ [0]).drop (a.length + 2 - (n + 1))) = valB H32 (x.drop (a.length + 2 - (n + 1))) := by
        rw [List.drop_append_of_le_length (by omega), valB_append]
        simp [valB]
      have h2 := valB_lt H32_pos (inB_drop x2 (a.length + 2 - (n + 1)))
      have h3 : (x.drop (a.length + 2 - (n + 1))).length = n := by rw [List.length_drop]; omega
      rw [h3] at h2
      rw [h1]
      omega
    · refine Div_end (x ++ [0]) (c.take (n + 1)) _ s (valB H32 a) (valB H32 b) _ a.length _ (by omega) hyi (inB_zeros H32_pos _) hs0 hs1 (by omega) (by omega) (by rw [List.length_replicate]; omega) (by rw [valB_zeros, hyv]; omega) ?_
      have h2 := valB_lt H32_pos hyi
      rw [hyl] at h2
      have h3 : H32 ^ (a.length + 2) ≤ H32 ^ n := pow_leB (by omega)
      rw [← hBv]
      omega
  obtain ⟨R, h1, h2⟩ := main
  refine ⟨R, Ev.bind x1 (Ev.ite_pos (fun _ => by omega) (Ev.bind (Ev.now _) (Ev.bind c1 (Ev.bind m2 (Ev.congr (fun k => ?_) h1))))), h2⟩
  have e0 : wrap64 (((x ++ [0]).length : Int) - ((c.take (n + 1)).length : Int)) = ((a.length + 2 : Nat) : Int) - ((n + 1 : Nat) : Int) := by
    rw [hyl, hcl2]
    exact w64_int _ (by omega) (by omega)
  have e2 : wrap64 (((a.length + 2 : Nat) : Int) - ((n + 1 : Nat) : Int) - 1) = ((a.length + 2 : Nat) : Int) - ((n + 1 : Nat) : Int) - 1 := w64_int _ (by omega) (by omega)
  have e3 : mx 0 (((a.length + 2 : Nat) : Int) - ((n + 1 : Nat) : Int)) = ((a.length + 2 - (n + 1) : Nat) : Int) := by rw [mx_eq]; omega
  have q1 : (0 : Int) ≤ ((a.length + 2 - (n + 1) : Nat) : Int) := by omega
  have q2 : a.length + 2 - (n + 1) ≤ 35184372088832 := by omega
  rw [e0, e2, e3, if_pos q1, Int.toNat_natCast, if_pos q2, hcl2]
/-- The scale is made. -/
theorem Div_scale (a b : List Int) (n : Nat) (ha : inB H32 a) (hb : inB H32 b) (hla : a.length ≤ 400000) (hlb : b.length ≤ 400000) (hbn : b.length = n + 1) (hbt : b.getD n 0 ≠ 0) (hb0 : 0 < valB H32 b) : ∀ (d : Nat) (s : Int), 0 < s → s < H32 → H32 - s ≤ d →
    ∃ R, Ev (fun k => reckonerref01_Divide.l0 k a b s) R ∧ DivGood (valB H32 a) (valB H32 b) a.length R
  | 0, s, h0, h1, hd => by omega
  | d + 1, s, h0, h1, hd => by
    have hx := inB_getD H32_pos hb n
    have e1 : wrap64 ((b.length : Int) - 1) = (n : Int) := by rw [hbn]; exact w64_sub1 n (by omega)
    have q1 : (0 : Int) ≤ (n : Int) := by omega
    have q2 : (n : Int) < (b.length : Int) := by omega
    have p0 : 1 * s ≤ b.getD n 0 * s := Int.mul_le_mul_of_nonneg_right (by omega) (by omega)
    have p1 : b.getD n 0 * s ≤ 4294967295 * 4294967295 := by
      rw [H32_eq] at hx h1
      exact Int.mul_le_mul (by omega) (by omega) (by omega) (by decide)
    have w1 : IntKind.u64.wrap (b.getD n 0 * s) = b.getD n 0 * s := wrapW _ (by omega) (by omega)
    by_cases hc : b.getD n 0 * s < 2147483648
    · have hs2 : 2 * s < H32 := by rw [H32_eq]; omega
      have w2 : IntKind.u64.wrap (2 * s) = 2 * s := wrapW _ (by omega) (by rw [H32_eq] at hs2; omega)
      obtain ⟨R, k1, k2⟩ := Div_scale a b n ha hb hla hlb hbn hbt hb0 d (2 * s) (by omega) hs2 (by omega)
      refine ⟨R, Ev.step (fun k => ?_) k1, k2⟩
      rw [reckonerref01_Divide.l0, e1, if_pos q1, if_pos q2, rd_nat, w1, if_pos hc, w2]
    · obtain ⟨R, k1, k2⟩ := Div_scaled a b s ha hb hla hlb hb0 h0 h1
      refine ⟨R, Ev.step (fun k => ?_) k1, k2⟩
      rw [reckonerref01_Divide.l0, e1, if_pos q1, if_pos q2, rd_nat, w1, if_neg hc]
/-- A quotient and a remainder of digits. -/
theorem Divide_ev (a b : List Int) (ha : inB H32 a) (hb : inB H32 b) (hla : a.length ≤ 400000) (hlb : b.length ≤ 400000) (hb0 : 0 < valB H32 b) :
    ∃ R, Ev (fun k => reckonerref01_Divide.f k a b) R ∧ DivGood (valB H32 a) (valB H32 b) a.length R := by
  obtain ⟨m, m1, m2, m3, m4⟩ := Short_ev b (by omega)
  have hm0 : m ≠ 0 := by
    rintro rfl
    rw [List.take_zero] at m3
    have : valB H32 [] = 0 := rfl
    omega
  obtain ⟨n, rfl⟩ : ∃ n, m = n + 1 := ⟨m - 1, by omega⟩
  have hbt : (b.take (n + 1)).getD n 0 ≠ 0 := by
    have h1 : (b.take (n + 1)).getD n 0 = b.getD n 0 := by
      simp only [List.getD_eq_getElem?_getD, List.getElem?_take]
      rw [if_pos (by omega)]
    rw [h1]
    exact m4.resolve_left hm0
  have hbl : (b.take (n + 1)).length = n + 1 := by rw [List.length_take]; omega
  have hbi := inB_take hb (n + 1)
  rw [← m3]
  by_cases hn : n = 0
  · subst hn
    have hx := inB_getD H32_pos hbi 0
    obtain ⟨q, r, r1, r2, r3, r4, r5, r6⟩ := one_ev a ((b.take (0 + 1)).getD 0 0) ha (by omega) hx.2 (by omega)
    have hv : valB H32 (b.take (0 + 1)) = (b.take (0 + 1)).getD 0 0 := by
      have h1 := valB_last H32 (b.take (0 + 1)) 0 hbl
      rw [List.take_zero] at h1
      simpa [valB] using h1
    refine ⟨(q, [r]), Ev.bind m2 (Ev.congr (f := fun k => (reckonerref01_one.f k a ((b.take (0 + 1)).getD 0 0)).bind fun bt373 => (some (bt373.1, bt373.2))) (fun k => ?_) (Ev.bind r1 (Ev.now _))), r2, inB_cons.2 ⟨⟨r4, by omega⟩, inB_nil⟩, by show q.length ≤ _; omega, by show ([r] : List Int).length ≤ _; simp, ?_, ?_⟩
    · have q1 : (((b.take (0 + 1)).length : Int) = 1) := by omega
      have q2 : (0 : Int) < ((b.take (0 + 1)).length : Int) := by omega
      have e1 : rd (b.take (0 + 1)) 0 = (b.take (0 + 1)).getD 0 0 := rd_nat _ 0
      rw [if_pos q1, if_pos q2, e1]
    · show valB H32 a = valB H32 q * valB H32 (b.take (0 + 1)) + valB H32 [r]
      rw [hv, show valB H32 [r] = r by simp [valB]]
      exact r6.symm
    · show valB H32 [r] < _
      rw [hv, show valB H32 [r] = r by simp [valB]]
      exact r5
  · obtain ⟨R, h1, h2⟩ := Div_scale a (b.take (n + 1)) n ha hbi hla (by omega) hbl hbt (by rw [m3]; exact hb0) 4294967296 1 (by decide) (by decide) (by rw [H32_eq]; omega)
    refine ⟨R, Ev.bind m2 (Ev.congr (fun k => ?_) h1), h2⟩
    have q1 : ¬ (((b.take (n + 1)).length : Int) = 1) := by omega
    rw [if_neg q1]
end Go.Proofs.Ytkkkbalefnileaa.Ex
/- The reference's functions on numbers. -/
namespace Go.Proofs.Ytkkkbalefnileaa.Ex
open Go.RowKit Go.Proofs.YtkkkbalefnileaaW.PrintWords Go.Proofs.YtkkkbalefnileaaW.PrintLast Go.Proofs.YtkkkbalefnileaaW.PrintMore Go.Proofs.Ytkkkbalefnileaa.T
set_option linter.unusedVariables false
set_option linter.unusedSimpArgs false

theorem isW_of_wf {x : Int} (h : (Lit.int .u64 x).wf = true) : isW x := by
  have h1 : 0 ≤ x ∧ x ≤ 18446744073709551615 := by
    simp [Lit.wf, IntKind.min, IntKind.max, IntKind.signed, IntKind.bits] at h
    omega
  unfold isW
  rw [W64_eq]
  omega
theorem inW_of_wf {l : List Int} (h : ∀ x ∈ l, (Lit.int .u64 x).wf = true) : inW l := fun x hx => isW_of_wf (h x hx)
theorem inW_take {l : List Int} (h : inW l) (n : Nat) : inW (l.take n) := fun x hx => h x (List.mem_of_mem_take hx)
theorem few_some (l : List Int) (n : Nat) (h : l.length ≤ 17592186044415) : reckonerlaw02_few.f l (n : Int) = some (l.take n) := by
  unfold reckonerlaw02_few.f
  rw [if_pos ⟨by omega, h⟩, Int.toNat_natCast]
/-- A row of n words whose value has n words is the value's. -/
theorem can_of_len {r : List Int} (hr : inW r) (h : r = [] ∨ W64 ^ (r.length - 1) ≤ valB W64 r) : r = can (valB W64 r) := by
  have h0 := valW_nonneg hr
  rcases h with h | h
  · rw [h]; rfl
  · have h1 := can_high h0 h
    have h2 := can_le hr
    exact valB_inj W64_pos hr (can_in h0) (by omega) (can_val h0).symm
theorem RNat_ev (d : List Int) (hd : inB H32 d) (hm : d.length ≤ 1000000) : Ev (fun k => reckonerref02_nat.f k d) (can (valB H32 d)) := by
  obtain ⟨m, hm1, hs, hv, hnz⟩ := Short_ev d (by omega)
  have hdm : inB H32 (d.take m) := inB_take hd m
  have hlm : (d.take m).length = m := by rw [List.length_take]; omega
  obtain ⟨r, t, hc, hr1, hr2, hr3, hr4⟩ := Cut_ev ((m + 1) / 2) (by omega) (d.take m) hdm (by omega)
  have hlt := valB_lt H32_pos hdm
  have h0 := valB_nonneg H32_pos hdm
  rw [hlm] at hlt
  have hp : H32 ^ m ≤ W64 ^ ((m + 1) / 2) := by rw [← H32_pow]; exact pow_leB (by omega)
  have hpp := pow_posB W64_pos ((m + 1) / 2)
  have hmod : valB H32 (d.take m) % (W64 ^ ((m + 1) / 2) * W64) = valB H32 (d.take m) := by
    refine Int.emod_eq_of_lt h0 ?_
    have h1 : W64 ^ ((m + 1) / 2) * 1 ≤ W64 ^ ((m + 1) / 2) * W64 := Int.mul_le_mul_of_nonneg_left (by decide) (Int.le_of_lt hpp)
    rw [Int.mul_one] at h1
    omega
  rw [hmod, hv] at hr4
  rw [hv] at hlt h0
  have hrl := valB_lt W64_pos hr1
  have hr0 := valB_nonneg W64_pos hr1
  rw [hr2] at hrl
  have ht : t = 0 := by
    by_cases ht : t ≤ 0
    · have := hr3.1; omega
    · have h1 : W64 ^ ((m + 1) / 2) * 1 ≤ W64 ^ ((m + 1) / 2) * t := Int.mul_le_mul_of_nonneg_left (by omega) (Int.le_of_lt hpp)
      rw [Int.mul_one] at h1
      omega
  rw [ht, Int.mul_zero, Int.add_zero] at hr4
  have hcan : r = can (valB H32 d) := by
    have h1 := can_of_len hr1 (by
      rw [hr2]
      by_cases hm0 : m = 0
      · left; rw [hm0] at hr2; exact List.eq_nil_of_length_eq_zero hr2
      · right
        rw [hr4, ← hv]
        have h2 := valB_take_succ H32 d (m - 1) (by omega)
        rw [show m - 1 + 1 = m by omega] at h2
        rw [h2]
        have h3 := valB_nonneg H32_pos (inB_take hd (m - 1))
        have h4 : 1 ≤ d.getD (m - 1) 0 := by
          have h5 := (inB_getD H32_pos hd (m - 1)).1
          rcases hnz with h | h
          · exact (hm0 h).elim
          · omega
        have h6 : H32 ^ (m - 1) * 1 ≤ H32 ^ (m - 1) * d.getD (m - 1) 0 := Int.mul_le_mul_of_nonneg_left h4 (Int.le_of_lt (pow_posB H32_pos _))
        rw [Int.mul_one] at h6
        have h7 : W64 ^ ((m + 1) / 2 - 1) ≤ H32 ^ (m - 1) := by rw [← H32_pow]; exact pow_leB (by omega)
        omega)
    rw [hr4] at h1
    exact h1
  have e : wrap64 (Int.tdiv (wrap64 (((d.take m).length : Int) + 1)) 2) = (((m + 1) / 2 : Nat) : Int) := by
    rw [hlm, show ((m : Int) + 1) = ((m + 1 : Nat) : Int) by omega, w64_nat (m + 1) (by omega)]
    exact w64_nat ((m + 1) / 2) (by omega)
  refine Ev.bind hs ?_
  simp only [e]
  refine Ev.bind hc ?_
  rw [← hcan]
  exact Ev.now _
theorem RTrim_ev (x : List Int) (hx : inW x) (hn : x.length ≤ 400000) : Ev (fun k => reckonerref02_Trim.f k x) (can (valB W64 x)) := by
  have h := RNat_ev (digitsL x) (digitsL_in hx) (by rw [digitsL_length]; omega)
  rw [digitsL_val] at h
  exact Ev.bind (Digits_ev x hx (by omega)) (Ev.bind h (Ev.now _))
theorem RCan_some {x : List Int} (h : canL x) (hn : x.length ≤ 400000) : reckonerref02_Canonical.f x = some true := by
  unfold reckonerref02_Canonical.f
  by_cases h0 : x = []
  · subst h0; rfl
  · have hp : 0 < x.length := List.length_pos_iff.2 h0
    have e : wrap64 ((x.length : Int) - 1) = ((x.length - 1 : Nat) : Int) := by rw [← w64_nat (x.length - 1) (by omega)]; congr 1; omega
    have hl : x.getD (x.length - 1) 0 ≠ 0 := by
      intro e
      have h1 := canL_low h h0
      have h2 := valB_take_succ W64 x (x.length - 1) (by omega)
      rw [List.take_of_length_le (by omega), e, Int.mul_zero, Int.add_zero] at h2
      have h3 := valB_lt W64_pos (inB_take (canL_in h) (x.length - 1))
      rw [List.length_take, Nat.min_eq_left (by omega)] at h3
      omega
    rw [if_neg (by omega), e, if_pos (by omega), if_pos (by omega), rd_nat, bne_iff_ne.2 hl]
theorem RIs_ev {v : Int} (y : List Int) (hy : inW y) (hn : y.length ≤ 400000) (h : valB W64 y = v) : Ev (fun k => reckonerref02_Is.f k (can v) y) true := by
  have hv : 0 ≤ v := by rw [← h]; exact valW_nonneg hy
  have hl := can_le hy
  rw [h] at hl
  have ht := RTrim_ev y hy hn
  rw [h] at ht
  have hs := RSame_ev (can v) (can v) (by omega)
  rw [decide_eq_true rfl] at hs
  refine Ev.congr (f := fun k => (reckonerref02_Trim.f k y).bind fun t => (reckonerref01_Same.f k (can v) t).bind fun t => some t) (fun k => ?_) (Ev.bind ht (Ev.bind hs (Ev.now true)))
  show reckonerref02_Is.f k (can v) y = _
  unfold reckonerref02_Is.f
  rw [RCan_some (can_canL hv) (by omega), Option.bind_some, if_pos rfl]
theorem RWord_ev (w : Int) (hw : isW w) : Ev (fun k => reckonerref02_FromWord.f k w) (can w) := by
  have h := RNat_ev [w % H32, w / H32] (word_in w hw) (by simp)
  rw [word_val] at h
  refine Ev.congr (f := fun k => (reckonerref02_nat.f k [w % H32, w / H32]).bind fun t => some t) (fun k => ?_) (Ev.bind h (Ev.now _))
  show reckonerref02_FromWord.f k w = _
  unfold reckonerref02_FromWord.f
  rw [Word_some w hw, Option.bind_some]
theorem RAdd_ev (x y : List Int) (hx : inW x) (hy : inW y) (hn : x.length ≤ 400000) (hm : y.length ≤ 400000) : Ev (fun k => reckonerref02_Add.f k x y) (can (valB W64 x + valB W64 y)) := by
  obtain ⟨p, hp1, hp2, hp3, hp4⟩ := Plus_ev (digitsL x) (digitsL y) (digitsL_in hx) (digitsL_in hy) (by rw [digitsL_length]; omega) (by rw [digitsL_length]; omega)
  rw [digitsL_length, digitsL_length] at hp3
  rw [digitsL_val, digitsL_val] at hp4
  have h := RNat_ev p hp2 (by omega)
  rw [hp4] at h
  exact Ev.bind (Digits_ev x hx (by omega)) (Ev.bind (Digits_ev y hy (by omega)) (Ev.bind hp1 (Ev.bind h (Ev.now _))))
theorem RMul_ev (x y : List Int) (hx : inW x) (hy : inW y) (hn : x.length ≤ 200000) (hm : y.length ≤ 200000) : Ev (fun k => reckonerref02_Mul.f k x y) (can (valB W64 x * valB W64 y)) := by
  obtain ⟨p, hp1, hp2, hp3, hp4⟩ := Times_ev (digitsL x) (digitsL y) (digitsL_in hx) (digitsL_in hy) (by rw [digitsL_length]; omega) (by rw [digitsL_length]; omega)
  rw [digitsL_length, digitsL_length] at hp3
  rw [digitsL_val, digitsL_val] at hp4
  have h := RNat_ev p hp2 (by omega)
  rw [hp4] at h
  exact Ev.bind (Digits_ev x hx (by omega)) (Ev.bind (Digits_ev y hy (by omega)) (Ev.bind hp1 (Ev.bind h (Ev.now _))))
end Go.Proofs.Ytkkkbalefnileaa.Ex
/- The reference's Parse; what every law asks beside: awake. -/
namespace Go.Proofs.Ytkkkbalefnileaa.Ex
open Go.RowKit Go.Proofs.YtkkkbalefnileaaW.PrintWords Go.Proofs.YtkkkbalefnileaaW.PrintLast Go.Proofs.YtkkkbalefnileaaW.PrintMore Go.Proofs.Ytkkkbalefnileaa.T
set_option linter.unusedVariables false
set_option linter.unusedSimpArgs false

/-- The number of the digits from place i on, behind v. -/
def pv (s : ByteArray) : Nat → Nat → Int → Int
  | _, 0, v => v
  | i, n + 1, v => pv s (i + 1) n (v * 10 + (bt s (i : Int) - 48) % 256)
theorem Parse_loop (s : ByteArray) (hs : s.size ≤ 1000) (n : Nat) : ∀ (i : Nat) (v : Int), i + n = s.size → 0 ≤ v → v < W64 ^ (i + 1) → Ev (fun k => reckonerref02_Parse.l0 k s (can v) (i : Int)) (can (pv s i n v)) := by
  induction n with
  | zero =>
    intro i v hi h0 h1
    refine Ev.now' fun k => ?_
    rw [reckonerref02_Parse.l0, if_neg (by omega)]
    rfl
  | succ n IH =>
    intro i v hi h0 h1
    have e1 : wrap64 ((i : Int) + 1) = ((i + 1 : Nat) : Int) := by rw [← w64_nat (i + 1) (by omega)]; rfl
    have hd0 : 0 ≤ (bt s (i : Int) - 48) % 256 := Int.emod_nonneg _ (by decide)
    have hd1 : (bt s (i : Int) - 48) % 256 < 256 := Int.emod_lt_of_pos _ (by decide)
    have hdw : isW ((bt s (i : Int) - 48) % 256) := by unfold isW; rw [W64_eq]; omega
    have htw : isW 10 := by decide
    have hl := can_short h0 h1
    have r1 := RWord_ev 10 htw
    have r2 := RMul_ev (can v) (can 10) (can_in h0) (can_in (by decide)) (by omega) (by decide)
    rw [can_val h0, can_val (by decide)] at r2
    have r3 := RWord_ev _ hdw
    have hp := pow_posB W64_pos (i + 1)
    have hb : v * 10 + (bt s (i : Int) - 48) % 256 < W64 ^ (i + 1 + 1) := by
      rw [Int.pow_succ _ (i + 1)]
      have h2 : W64 ^ (i + 1) * 1000 ≤ W64 ^ (i + 1) * W64 := Int.mul_le_mul_of_nonneg_left (by decide) (Int.le_of_lt hp)
      omega
    have hm0 : 0 ≤ v * 10 := by omega
    have hm1 : v * 10 < W64 ^ (i + 1 + 1) := by omega
    have hml := can_short hm0 hm1
    have hwl : (can ((bt s (i : Int) - 48) % 256)).length ≤ 1 := can_short hd0 (by rw [Int.pow_succ, Int.pow_zero, Int.one_mul]; exact hdw.2)
    have r4 := RAdd_ev (can (v * 10)) (can ((bt s (i : Int) - 48) % 256)) (can_in hm0) (can_in hd0) (by omega) (by omega)
    rw [can_val hm0, can_val hd0] at r4
    have ih := IH (i + 1) (v * 10 + (bt s (i : Int) - 48) % 256) (by omega) (by omega) hb
    refine Ev.step (f := fun k => (reckonerref02_FromWord.f k 10).bind fun t => (reckonerref02_Mul.f k (can v) t).bind fun t2 => (reckonerref02_FromWord.f k ((bt s (i : Int) - 48) % 256)).bind fun t3 => (reckonerref02_Add.f k t2 t3).bind fun t4 => reckonerref02_Parse.l0 k s t4 ((i + 1 : Nat) : Int)) (fun k => ?_) (Ev.bind r1 (Ev.bind r2 (Ev.bind r3 (Ev.bind r4 ih))))
    show reckonerref02_Parse.l0 (k + 1) s (can v) (i : Int) = _
    rw [reckonerref02_Parse.l0, if_pos (by omega)]
    simp only [if_pos (show (0 : Int) ≤ (i : Int) by omega), e1]
theorem Parse_ev (s : ByteArray) (hs : s.size ≤ 1000) (v : Int) (h : pv s 0 s.size 0 = v) : Ev (fun k => reckonerref02_Parse.f k s) (can v) := by
  have h1 := Parse_loop s hs s.size 0 0 (by omega) (Int.le_refl 0) (by decide)
  rw [h] at h1
  exact h1
theorem aw1 : nat_Pow.f [10] 20 = some (can 100000000000000000000, 0) := by
  have e : valB W64 [10] ^ (20 : Int).toNat = 100000000000000000000 := by decide
  have hl : (can 100000000000000000000).length ≤ 4096 := Nat.le_trans (can_short (n := 2) (by decide) (by decide)) (by decide)
  unfold nat_Pow.f
  rw [if_pos (by decide), if_pos (by decide), if_neg (by decide), e]
  unfold fitV
  rw [if_pos hl]
theorem aw2 : nat_Square.f [18446744073709551615] = some (can 340282366920938463426481119284349108225, 0) := by
  have e : valB W64 [18446744073709551615] * valB W64 [18446744073709551615] = 340282366920938463426481119284349108225 := by decide
  have hl : (can 340282366920938463426481119284349108225).length ≤ 4096 := Nat.le_trans (can_short (n := 2) (by decide) (by decide)) (by decide)
  unfold nat_Square.f
  rw [if_pos (by decide), if_pos (by decide), e]
  unfold fitV
  rw [if_pos hl]
theorem aw3 : nat_DivMod.f [7766279631452241920, 5] [3] = some (can 33333333333333333333, can 1, 0) := by
  have e1 : valB W64 [7766279631452241920, 5] / valB W64 [3] = 33333333333333333333 := by decide
  have e2 : valB W64 [7766279631452241920, 5] % valB W64 [3] = 1 := by decide
  unfold nat_DivMod.f
  rw [if_pos (by decide), if_pos (by decide), if_neg (by decide), e1, e2]
theorem aw4 : nat_Sub.f [1] [2] = some ([], 8) := by
  unfold nat_Sub.f
  rw [if_pos (by decide), if_pos (by decide), if_pos (by decide)]
theorem awake_ev : Ev (fun k => reckonerlaw02_awake.f k) true := by
  have p1 := Parse_ev ⟨#[49, 48, 48, 48, 48, 48, 48, 48, 48, 48, 48, 48, 48, 48, 48, 48, 48, 48, 48, 48, 48]⟩ (by decide) 100000000000000000000 (by decide +kernel)
  have p2 := Parse_ev ⟨#[51, 51, 51, 51, 51, 51, 51, 51, 51, 51, 51, 51, 51, 51, 51, 51, 51, 51, 51, 51]⟩ (by decide) 33333333333333333333 (by decide +kernel)
  have l1 : (can 100000000000000000000).length ≤ 2 := can_short (by decide) (by decide)
  have l2 : (can 33333333333333333333).length ≤ 2 := can_short (by decide) (by decide)
  have i1 := RIs_ev (can 100000000000000000000) (can_in (by decide)) (by omega) (can_val (by decide))
  have i2 := RIs_ev (v := 340282366920938463426481119284349108225) [1, 18446744073709551614] (by decide) (by decide) (by decide)
  have i3 := RIs_ev (can 33333333333333333333) (can_in (by decide)) (by omega) (can_val (by decide))
  have i4 := RIs_ev (v := 1) [1] (by decide) (by decide) (by decide)
  refine Ev.congr (f := fun k => (reckonerref02_Parse.f k (⟨#[49, 48, 48, 48, 48, 48, 48, 48, 48, 48, 48, 48, 48, 48, 48, 48, 48, 48, 48, 48, 48]⟩ : ByteArray)).bind fun t280 => ((reckonerref02_Is.f k (can 100000000000000000000) t280).bind fun t283 => (if t283 = true then ((reckonerref02_Is.f k (can 340282366920938463426481119284349108225) (([1, 18446744073709551614] : List Int))).bind fun t287 => (if t287 = true then ((reckonerref02_Parse.f k (⟨#[51, 51, 51, 51, 51, 51, 51, 51, 51, 51, 51, 51, 51, 51, 51, 51, 51, 51, 51, 51]⟩ : ByteArray)).bind fun t288 => ((reckonerref02_Is.f k (can 33333333333333333333) t288).bind fun t291 => (if t291 = true then ((reckonerref02_Is.f k (can 1) (([1] : List Int))).bind fun t295 => (if t295 = true then (some ((8 : Int) == 8)) else (none))) else (none)))) else (none))) else (none)))) (fun k => ?_) (Ev.bind p1 (Ev.bind i1 ?_))
  · show reckonerlaw02_awake.f k = _
    unfold reckonerlaw02_awake.f
    rw [aw1, aw2, aw3, aw4]
    rfl
  · simp only [if_true]
    refine Ev.bind i2 ?_
    simp only [if_true]
    refine Ev.bind p2 (Ev.bind i3 ?_)
    simp only [if_true]
    refine Ev.bind i4 ?_
    simp only [if_true]
    exact Ev.now true
end Go.Proofs.Ytkkkbalefnileaa.Ex
/- The reference's difference, quotient and order of numbers. -/
namespace Go.Proofs.Ytkkkbalefnileaa.Ex
open Go.RowKit Go.Proofs.YtkkkbalefnileaaW.PrintWords Go.Proofs.YtkkkbalefnileaaW.PrintLast Go.Proofs.YtkkkbalefnileaaW.PrintMore Go.Proofs.Ytkkkbalefnileaa.T
set_option linter.unusedVariables false
set_option linter.unusedSimpArgs false

theorem RDivMod_ev (x y : List Int) (hx : inW x) (hy : inW y) (hn : x.length ≤ 100000) (hm : y.length ≤ 100000) (h : valB W64 y ≠ 0) : Ev (fun k => reckonerref02_DivMod.f k x y) (can (valB W64 x / valB W64 y), can (valB W64 x % valB W64 y)) := by
  have hy0 := valW_nonneg hy
  obtain ⟨R, hR, g1, g2, g3, g4, g5, g6⟩ := Divide_ev (digitsL x) (digitsL y) (digitsL_in hx) (digitsL_in hy) (by rw [digitsL_length]; omega) (by rw [digitsL_length]; omega) (by rw [digitsL_val]; omega)
  rw [digitsL_length] at g3 g4
  rw [digitsL_val, digitsL_val] at g5
  rw [digitsL_val] at g6
  have e1 := Int.emod_add_mul_ediv (valB W64 x) (valB W64 y)
  have e2 := Int.emod_nonneg (valB W64 x) h
  have e3 := Int.emod_lt_of_pos (valB W64 x) (show 0 < valB W64 y by omega)
  obtain ⟨a, b⟩ := div_unique (M := valB W64 y) (valB_nonneg H32_pos g2) g6 e2 e3 (show valB H32 R.2 + valB W64 y * valB H32 R.1 = valB W64 x % valB W64 y + valB W64 y * (valB W64 x / valB W64 y) by rw [e1, g5, Int.mul_comm (valB W64 y)]; omega)
  have q1 := RNat_ev R.1 g1 (by omega)
  have q2 := RNat_ev R.2 g2 (by omega)
  rw [b] at q1
  rw [a] at q2
  exact Ev.bind (Digits_ev x hx (by omega)) (Ev.bind (Digits_ev y hy (by omega)) (Ev.bind hR (Ev.bind q1 (Ev.bind q2 (Ev.now _)))))
/-- -1, 0 or 1 by the digits below n. -/
def cmpD (a b : List Int) : Nat → Int
  | 0 => 0
  | n + 1 => if a.getD n 0 < b.getD n 0 then -1 else if b.getD n 0 < a.getD n 0 then 1 else cmpD a b n
theorem cmp_step {P u v x y : Int} (hP : 0 < P) (hu : 0 ≤ u ∧ u < P) (hv : 0 ≤ v ∧ v < P) : cmpI (u + P * x) (v + P * y) = if x < y then -1 else if y < x then 1 else cmpI u v := by
  unfold cmpI
  by_cases h1 : x < y
  · have h2 : P * (x + 1) ≤ P * y := Int.mul_le_mul_of_nonneg_left h1 (Int.le_of_lt hP)
    rw [Int.mul_add, Int.mul_one] at h2
    rw [if_pos h1, if_pos (by omega)]
  · rw [if_neg h1]
    by_cases h3 : y < x
    · have h2 : P * (y + 1) ≤ P * x := Int.mul_le_mul_of_nonneg_left h3 (Int.le_of_lt hP)
      rw [Int.mul_add, Int.mul_one] at h2
      rw [if_pos h3, if_neg (by omega), if_pos (by omega)]
    · obtain rfl : x = y := by omega
      rw [if_neg h3]
      by_cases h4 : u < v
      · rw [if_pos h4, if_pos (by omega)]
      · rw [if_neg h4, if_neg (by omega)]
        by_cases h5 : v < u
        · rw [if_pos h5, if_pos (by omega)]
        · rw [if_neg h5, if_neg (by omega)]
theorem sumB_lt {B : Int} (hB : 0 < B) (a : List Int) (ha : inB B a) : ∀ n, 0 ≤ sumB B (fun j => a.getD j 0) 0 n ∧ sumB B (fun j => a.getD j 0) 0 n < B ^ n
  | 0 => by simp [sumB]
  | n + 1 => by
    obtain ⟨h1, h2⟩ := sumB_lt hB a ha n
    obtain ⟨h3, h4⟩ := inB_getD hB ha n
    rw [sumB_snoc, Nat.zero_add, Int.pow_succ]
    have h5 := pow_posB hB n
    have h6 : B ^ n * (a.getD n 0 + 1) ≤ B ^ n * B := Int.mul_le_mul_of_nonneg_left h4 (Int.le_of_lt h5)
    rw [Int.mul_add, Int.mul_one] at h6
    have h7 := Int.mul_nonneg (Int.le_of_lt h5) h3
    omega
theorem cmpD_sum {B : Int} (hB : 0 < B) (a b : List Int) (ha : inB B a) (hb : inB B b) : ∀ n, cmpD a b n = cmpI (sumB B (fun j => a.getD j 0) 0 n) (sumB B (fun j => b.getD j 0) 0 n)
  | 0 => by simp [cmpD, sumB, cmpI]
  | n + 1 => by
    rw [sumB_snoc, sumB_snoc, Nat.zero_add, cmp_step (pow_posB hB n) (sumB_lt hB a ha n) (sumB_lt hB b hb n), ← cmpD_sum hB a b ha hb n]
    rfl
theorem RCompare_loop (x y : List Int) : ∀ n : Nat, n ≤ 1000000 → Ev (fun k => reckonerref01_Compare.l0 k x y ((n : Int) - 1)) (cmpD x y n)
  | 0, _ => by
    refine Ev.now' fun k => ?_
    rw [reckonerref01_Compare.l0, if_neg (by omega)]
    rfl
  | n + 1, hn => by
    have e1 : (((n + 1 : Nat) : Int) - 1) = (n : Int) := by omega
    have e2 : wrap64 ((n : Int) - 1) = (n : Int) - 1 := w64_int _ (by omega) (by omega)
    have ih := RCompare_loop x y n (by omega)
    rw [e1]
    by_cases h1 : x.getD n 0 < y.getD n 0
    · refine Ev.now' fun k => ?_
      rw [reckonerref01_Compare.l0, if_pos (by omega), digit_some, digit_some, Option.bind_some, Option.bind_some, if_pos h1, cmpD, if_pos h1]
    · by_cases h2 : y.getD n 0 < x.getD n 0
      · refine Ev.now' fun k => ?_
        rw [reckonerref01_Compare.l0, if_pos (by omega), digit_some, digit_some, Option.bind_some, Option.bind_some, if_neg h1, if_pos h2, cmpD, if_neg h1, if_pos h2]
      · rw [cmpD, if_neg h1, if_neg h2]
        refine Ev.step (fun k => ?_) ih
        rw [reckonerref01_Compare.l0, if_pos (by omega), digit_some, digit_some, Option.bind_some, Option.bind_some, if_neg h1, if_neg h2, e2]
theorem RCmp_ev (x y : List Int) (hx : inW x) (hy : inW y) (hn : x.length ≤ 400000) (hm : y.length ≤ 400000) : Ev (fun k => reckonerref02_Cmp.f k x y) (cmpI (valB W64 x) (valB W64 y)) := by
  have dx := digitsL_in hx
  have dy := digitsL_in hy
  have lx := digitsL_length x
  have ly := digitsL_length y
  have hc : Ev (fun k => reckonerref01_Compare.f k (digitsL x) (digitsL y)) (cmpI (valB W64 x) (valB W64 y)) := by
    by_cases hl : (digitsL x).length < (digitsL y).length
    · have h := RCompare_loop (digitsL x) (digitsL y) (digitsL y).length (by omega)
      rw [cmpD_sum H32_pos _ _ dx dy, sumB_all, sumB_pad _ _ _ (by omega), digitsL_val, digitsL_val] at h
      refine Ev.congr (fun k => ?_) h
      show reckonerref01_Compare.f k _ _ = _
      unfold reckonerref01_Compare.f
      rw [if_pos (by omega), w64_int _ (by omega) (by omega)]
    · have h := RCompare_loop (digitsL x) (digitsL y) (digitsL x).length (by omega)
      rw [cmpD_sum H32_pos _ _ dx dy, sumB_all, sumB_pad _ _ _ (by omega), digitsL_val, digitsL_val] at h
      refine Ev.congr (fun k => ?_) h
      show reckonerref01_Compare.f k _ _ = _
      unfold reckonerref01_Compare.f
      rw [if_neg (by omega), w64_int _ (by omega) (by omega)]
  exact Ev.bind (Digits_ev x hx (by omega)) (Ev.bind (Digits_ev y hy (by omega)) (Ev.bind hc (Ev.now _)))
end Go.Proofs.Ytkkkbalefnileaa.Ex
/- The bits of a word: what the library's OnesCount64 calculates; what is counted bit by bit. No program here. -/
namespace Go.Proofs.Ytkkkbalefnileaa.Ex
open Go Go.Lib
set_option linter.unusedVariables false

def f1 (b : Nat) : Nat := (b / 2 &&& 85) + (b &&& 85)
def f2 (b : Nat) : Nat := (b / 4 &&& 51) + (b &&& 51)
def f4 (b : Nat) : Nat := b / 16 + b % 16
theorem popAux_add : ∀ (m n x : Nat), popAux (m + n) x = popAux m (x % 2 ^ m) + popAux n (x / 2 ^ m)
  | 0, n, x => by simp [popAux]
  | m + 1, n, x => by
    have h1 : x % 2 ^ (m + 1) % 2 = x % 2 := Nat.mod_mod_of_dvd x ⟨2 ^ m, by rw [Nat.pow_succ, Nat.mul_comm]⟩
    have h2 : x % 2 ^ (m + 1) / 2 = x / 2 % 2 ^ m := by rw [Nat.pow_succ, Nat.mul_comm, Nat.mod_mul_right_div_self]
    have h3 : x / 2 / 2 ^ m = x / 2 ^ (m + 1) := by rw [Nat.div_div_eq_div_mul, Nat.pow_succ, Nat.mul_comm]
    rw [show m + 1 + n = (m + n) + 1 by omega]
    show x % 2 + popAux (m + n) (x / 2) = (x % 2 ^ (m + 1) % 2 + popAux m (x % 2 ^ (m + 1) / 2)) + popAux n (x / 2 ^ (m + 1))
    rw [h1, h2, popAux_add m n (x / 2), h3]
    omega
end Go.Proofs.Ytkkkbalefnileaa.Ex
/- The bits of a word, one by one: what the reference counts. -/
namespace Go.Proofs.Ytkkkbalefnileaa.Ex
open Go.RowKit Go.Proofs.YtkkkbalefnileaaW.PrintWords Go.Proofs.YtkkkbalefnileaaW.PrintLast Go.Proofs.YtkkkbalefnileaaW.PrintMore Go.Proofs.Ytkkkbalefnileaa.T
set_option linter.unusedVariables false
set_option linter.unusedSimpArgs false

/-! ### bit by bit -/
theorem two_adic {k c m n : Nat} (h : 2 ^ k * (2 * m + 1) = 2 ^ c * (2 * n + 1)) : k = c := by
  rcases Nat.lt_trichotomy k c with h1 | h1 | h1
  · exfalso
    obtain ⟨d, rfl⟩ : ∃ d, c = k + 1 + d := ⟨c - k - 1, by omega⟩
    have h2 : 2 ^ (k + 1 + d) = 2 ^ k * (2 * 2 ^ d) := by rw [Nat.pow_add, Nat.pow_succ, Nat.mul_assoc]
    rw [h2, Nat.mul_assoc] at h
    have h3 := Nat.eq_of_mul_eq_mul_left (Nat.pow_pos (by decide)) h
    rw [Nat.mul_assoc] at h3
    generalize 2 ^ d * (2 * n + 1) = z at h3
    omega
  · exact h1
  · exfalso
    obtain ⟨d, rfl⟩ : ∃ d, k = c + 1 + d := ⟨k - c - 1, by omega⟩
    have h2 : 2 ^ (c + 1 + d) = 2 ^ c * (2 * 2 ^ d) := by rw [Nat.pow_add, Nat.pow_succ, Nat.mul_assoc]
    rw [h2, Nat.mul_assoc] at h
    have h3 := Nat.eq_of_mul_eq_mul_left (Nat.pow_pos (by decide)) h
    rw [Nat.mul_assoc] at h3
    generalize 2 ^ d * (2 * m + 1) = z at h3
    omega
theorem ctz_spec {x : Nat} (h0 : x ≠ 0) (h : x < 2 ^ 64) : ∃ m, x = 2 ^ Lib.ctz 64 x * (2 * m + 1) := by
  obtain ⟨m, h1, _⟩ := Lib.ctzFrom_spec 64 x (by omega) h
  refine ⟨m, ?_⟩
  unfold Lib.ctz
  rw [if_neg h0]
  exact h1
theorem ctz_unique {x k m : Nat} (h : x < 2 ^ 64) (he : x = 2 ^ k * (2 * m + 1)) : Lib.ctz 64 x = k := by
  have h0 : x ≠ 0 := by
    rw [he]
    exact Nat.ne_of_gt (Nat.mul_pos (Nat.pow_pos (by decide)) (by omega))
  obtain ⟨n, hn⟩ := ctz_spec h0 h
  rw [hn] at he
  exact two_adic he
theorem ctz_lt {y i : Nat} (h0 : y ≠ 0) (hi : i ≤ 64) (h : y < 2 ^ i) : Lib.ctz 64 y < i := by
  have h64 : y < 2 ^ 64 := Nat.lt_of_lt_of_le h (Nat.pow_le_pow_right (by decide) hi)
  obtain ⟨m, hm⟩ := ctz_spec h0 h64
  rcases Nat.lt_or_ge (Lib.ctz 64 y) i with h1 | h1
  · exact h1
  · exfalso
    have h2 : 2 ^ i ≤ 2 ^ Lib.ctz 64 y := Nat.pow_le_pow_right (by decide) h1
    have h3 : 2 ^ Lib.ctz 64 y * 1 ≤ 2 ^ Lib.ctz 64 y * (2 * m + 1) := Nat.mul_le_mul_left _ (by omega)
    omega
theorem ctz_more {y i : Nat} (hi : i < 64) (h : y < 2 ^ i) : Lib.ctz 64 (y + 2 ^ i) = min (Lib.ctz 64 y) i := by
  have hp : 2 ^ (i + 1) ≤ 2 ^ 64 := Nat.pow_le_pow_right (by decide) (by omega)
  rw [Nat.pow_succ] at hp
  have h64 : y + 2 ^ i < 2 ^ 64 := by omega
  by_cases h0 : y = 0
  · subst h0
    have h1 : Lib.ctz 64 0 = 64 := rfl
    rw [h1, Nat.min_eq_right (by omega)]
    exact ctz_unique (m := 0) h64 (by omega)
  · have hl := ctz_lt h0 (by omega) h
    obtain ⟨m, hm⟩ := ctz_spec h0 (by omega)
    rw [Nat.min_eq_left (by omega)]
    generalize Lib.ctz 64 y = c at *
    obtain ⟨d, rfl⟩ : ∃ d, i = c + 1 + d := ⟨i - c - 1, by omega⟩
    refine ctz_unique (m := m + 2 ^ d) h64 ?_
    have h2 : 2 ^ (c + 1 + d) = 2 ^ c * (2 * 2 ^ d) := by rw [Nat.pow_add, Nat.pow_succ, Nat.mul_assoc]
    rw [h2, hm, ← Nat.mul_add]
    congr 1
    omega
theorem len_more {y i : Nat} (hi : i < 64) (h : y < 2 ^ i) : Lib.bitLen (y + 2 ^ i) = i + 1 := by
  have hp : 2 ^ (i + 1) ≤ 2 ^ 64 := Nat.pow_le_pow_right (by decide) (by omega)
  rw [Nat.pow_succ] at hp
  rw [Lib.bitLen_shift i (y + 2 ^ i) (by omega) (by omega)]
  have h1 : (y + 2 ^ i) / 2 ^ i = 1 := by
    rw [Nat.add_div_right _ (Nat.pow_pos (by decide)), Nat.div_eq_of_lt h]
  rw [h1]
  rfl
theorem popAux_zero : ∀ n, Lib.popAux n 0 = 0
  | 0 => rfl
  | n + 1 => by show 0 % 2 + Lib.popAux n (0 / 2) = 0; rw [Nat.zero_div, popAux_zero n]
theorem pop_more {y i : Nat} (hi : i < 64) (h : y < 2 ^ i) : Lib.onesCount (y + 2 ^ i) = Lib.onesCount y + 1 := by
  obtain ⟨n, hn⟩ : ∃ n, 64 = i + (n + 1) := ⟨63 - i, by omega⟩
  unfold Lib.onesCount
  rw [hn, popAux_add, popAux_add i (n + 1) y]
  have h1 : (y + 2 ^ i) / 2 ^ i = 1 := by
    rw [Nat.add_div_right _ (Nat.pow_pos (by decide)), Nat.div_eq_of_lt h]
  have h2 : (y + 2 ^ i) % 2 ^ i = y % 2 ^ i := Nat.add_mod_right _ _
  rw [h1, h2, Nat.div_eq_of_lt h, popAux_zero]
  show _ + (1 % 2 + Lib.popAux n (1 / 2)) = _
  rw [show 1 / 2 = 0 by decide, popAux_zero]
theorem Count_loop (x : Nat) (hx : x < 2 ^ 64) : ∀ (m i : Nat), i + m = 64 →
    Ev (fun k => reckonerref01_Count.l0 k (x : Int) (64 - (Lib.bitLen (x % 2 ^ i) : Int)) (Lib.ctz 64 (x % 2 ^ i) : Int) (Lib.onesCount (x % 2 ^ i) : Int) (i : Int)) (64 - (Lib.bitLen x : Int), (Lib.ctz 64 x : Int), (Lib.onesCount x : Int))
  | 0, i, hi => by
    obtain rfl : i = 64 := by omega
    rw [Nat.mod_eq_of_lt hx]
    refine Ev.now' fun k => ?_
    rw [reckonerref01_Count.l0, if_neg (by decide)]
  | m + 1, i, hi => by
    have q1 : ((i : Int) < 64) := by omega
    have q2 : (0 : Int) ≤ (i : Int) := by omega
    have e1 := w64_suc i (by omega)
    have hs : shr .u64 (x : Int) (i : Int) = ((x / 2 ^ i : Nat) : Int) := by
      rw [← shr_small (rfl : shr .u64 (x : Int) (i : Int) = _) (show (i : Int) ≤ ((64 : Nat) : Int) by omega)]
      show (x : Int) / 2 ^ i = _
      simp
    have ht : Int.tmod ((x / 2 ^ i : Nat) : Int) 2 = ((x / 2 ^ i % 2 : Nat) : Int) := by rw [Int.tmod_eq_emod_of_nonneg (Int.natCast_nonneg _)]; rfl
    have hy : x % 2 ^ i < 2 ^ i := Nat.mod_lt _ (Nat.pow_pos (by decide))
    have hmod : x % 2 ^ (i + 1) = x % 2 ^ i + 2 ^ i * (x / 2 ^ i % 2) := Nat.mod_pow_succ
    have ih := Count_loop x hx m (i + 1) (by omega)
    by_cases hb : x / 2 ^ i % 2 = 1
    · rw [hb, Nat.mul_one] at hmod
      have hl := len_more (by omega) hy
      have hc := ctz_more (by omega) hy
      have hp := pop_more (by omega) hy
      have hpl : Lib.onesCount (x % 2 ^ i) ≤ 1000 := by
        have h1 : ∀ n z, Lib.popAux n z ≤ n := by
          intro n
          induction n with
          | zero => intro z; exact Nat.le_refl 0
          | succ n ih => intro z; show z % 2 + Lib.popAux n (z / 2) ≤ n + 1; have := ih (z / 2); omega
        have h2 := h1 64 (x % 2 ^ i)
        unfold Lib.onesCount
        omega
      rw [hmod, hl, hc, hp] at ih
      refine Ev.step (fun k => ?_) ih
      have f1 : wrap64 (63 - (i : Int)) = 64 - ((i + 1 : Nat) : Int) := by rw [w64_int _ (by omega) (by omega)]; omega
      have f2 : mn (Lib.ctz 64 (x % 2 ^ i) : Int) (i : Int) = ((min (Lib.ctz 64 (x % 2 ^ i)) i : Nat) : Int) := by rw [mn_eq]; omega
      have f3 : wrap64 ((Lib.onesCount (x % 2 ^ i) : Int) + 1) = ((Lib.onesCount (x % 2 ^ i) + 1 : Nat) : Int) := w64_suc _ (by omega)
      rw [reckonerref01_Count.l0, if_pos q1, if_pos q2, hs, ht, hb, if_pos (by rfl), f1, f2, f3, e1]
    · have hb0 : x / 2 ^ i % 2 = 0 := by omega
      simp only [hb0, Nat.mul_zero, Nat.add_zero] at hmod
      rw [hmod] at ih
      refine Ev.step (fun k => ?_) ih
      have n1 : ¬ (((0 : Nat) : Int) = 1) := by decide
      rw [reckonerref01_Count.l0, if_pos q1, if_pos q2, hs, ht, hb0, if_neg n1, e1]
theorem RCount_ev (x : Nat) (hx : x < 2 ^ 64) : Ev (fun k => reckonerref01_Count.f k (x : Int)) (64 - (Lib.bitLen x : Int), (Lib.ctz 64 x : Int), (Lib.onesCount x : Int)) := by
  have h := Count_loop x hx 64 0 (by omega)
  rw [Nat.pow_zero, Nat.mod_one] at h
  exact h
end Go.Proofs.Ytkkkbalefnileaa.Ex
/- The reference's length and powers of numbers. -/
namespace Go.Proofs.Ytkkkbalefnileaa.Ex
open Go.RowKit Go.Proofs.YtkkkbalefnileaaW.PrintWords Go.Proofs.YtkkkbalefnileaaW.PrintLast Go.Proofs.YtkkkbalefnileaaW.PrintMore Go.Proofs.Ytkkkbalefnileaa.T
set_option linter.unusedVariables false
set_option linter.unusedSimpArgs false

theorem RLen_loop (x : List Int) (hx : inW x) (hn : x.length ≤ 400000) (n : Nat) : n ≤ x.length → Ev (fun k => reckonerref02_Len.l0 k x ((n : Int) - 1)) (lenL (can (valB W64 (x.take n)))) := by
  induction n with
  | zero =>
    intro _
    refine Ev.now' fun k => ?_
    rw [reckonerref02_Len.l0, if_neg (by omega)]
    rfl
  | succ n ih =>
    intro h
    have e1 : (((n + 1 : Nat) : Int) - 1) = (n : Int) := by omega
    have e2 : wrap64 ((n : Int) - 1) = (n : Int) - 1 := w64_int _ (by omega) (by omega)
    have hv := valB_take_succ W64 x n (by omega)
    have hxw := isW_get hx n
    rw [e1]
    by_cases h0 : x.getD n 0 = 0
    · rw [h0, Int.mul_zero, Int.add_zero] at hv
      rw [hv]
      refine Ev.step (fun k => ?_) (ih (by omega))
      rw [reckonerref02_Len.l0, if_pos (by omega), if_pos (by omega), if_pos (by omega), rd_nat, if_pos h0, e2]
    · have hc : canL (x.take (n + 1)) := canL_of (inB_take hx _) (.inr (by
        rw [List.length_take, Nat.min_eq_left (by omega), Nat.add_sub_cancel]
        have : (x.take (n + 1)).getD n 0 = x.getD n 0 := by simp [List.getD_eq_getElem?_getD, List.getElem?_take]
        rw [this]; exact h0))
      rw [can_can hc]
      obtain ⟨X, hX⟩ := Int.eq_ofNat_of_zero_le hxw.1
      have hX2 := hxw.2
      rw [hX] at hX2 h0
      rw [W64_eq] at hX2
      have hb := bitLen_bounds 64 X (Nat.le_refl _) (by omega)
      have rc := RCount_ev X (by omega)
      have e : lenL (x.take (n + 1)) = wrap64 ((wrap64 ((wrap64 (64 * (n : Int))) + 64)) - (64 - (Lib.bitLen X : Int))) := by
        unfold lenL
        have hl : (x.take (n + 1)).length = n + 1 := by rw [List.length_take]; omega
        have hg : (x.take (n + 1)).getD n 0 = x.getD n 0 := by simp [List.getD_eq_getElem?_getD, List.getElem?_take]
        rw [hl, if_neg (by omega), Nat.add_sub_cancel, hg, hX, Int.toNat_natCast]
        rw [w64_int (64 * (n : Int)) (by omega) (by omega), w64_int (64 * (n : Int) + 64) (by omega) (by omega), w64_int (64 * (n : Int) + 64 - (64 - (Lib.bitLen X : Int))) (by omega) (by omega)]
        omega
      rw [e]
      refine Ev.step (f := fun k => (reckonerref01_Count.f k (X : Int)).bind fun bt => some (wrap64 ((wrap64 ((wrap64 (64 * (n : Int))) + 64)) - bt.1))) (fun k => ?_) (Ev.bind rc (Ev.now _))
      rw [reckonerref02_Len.l0, if_pos (by omega), if_pos (by omega), if_pos (by omega), rd_nat, hX, if_neg h0]
theorem RLen_ev (x : List Int) (hx : inW x) (hn : x.length ≤ 400000) : Ev (fun k => reckonerref02_Len.f k x) (lenL (can (valB W64 x))) := by
  have h := RLen_loop x hx hn x.length (Nat.le_refl _)
  rw [List.take_length] at h
  refine Ev.congr (fun k => ?_) h
  show reckonerref02_Len.f k x = _
  unfold reckonerref02_Len.f
  rw [w64_int _ (by omega) (by omega)]
end Go.Proofs.Ytkkkbalefnileaa.Ex
/- NatDivides: the plain law. -/
namespace Go.Proofs.Ytkkkbalefnileaa.Ex
open Go.RowKit Go.Proofs.YtkkkbalefnileaaW.PrintWords Go.Proofs.YtkkkbalefnileaaW.PrintLast Go.Proofs.YtkkkbalefnileaaW.PrintMore Go.Proofs.Ytkkkbalefnileaa.T
set_option linter.unusedVariables false
set_option linter.unusedSimpArgs false

theorem lenL_zero {v : Int} (h : 0 ≤ v) : lenL (can v) = 0 ↔ v = 0 := by
  constructor
  · intro e
    by_cases h0 : can v = []
    · exact (can_nil_iff h).1 h0
    · have := (lenL_bounds (can_canL h) h0).1; omega
  · rintro rfl; rfl
theorem RIsZero_ev (x : List Int) (hx : inW x) (hn : x.length ≤ 400000) : Ev (fun k => reckonerref02_IsZero.f k x) (decide (valB W64 x = 0)) := by
  have h := RLen_ev x hx hn
  have e : (lenL (can (valB W64 x)) == 0) = decide (valB W64 x = 0) := by
    rw [Bool.eq_iff_iff, beq_iff_eq, decide_eq_true_iff]
    exact lenL_zero (valW_nonneg hx)
  exact Ev.congr (fun k => rfl) (Ev.bind h (Ev.congr (fun k => congrArg some e) (Ev.now _)))
theorem Divides_j0 (a : List Int) (w : Int) (ha : inW a) (hw : isW w) (hl : a.length ≤ 40) (p : List Int) (s f : Int) (hd : nat_DivWord.f a w = some (p, s, f)) : Ev (fun k => reckonerlaw02_NatDivides.j0 k w a p s f) true := by
  unfold nat_DivWord.f at hd
  rw [if_pos ⟨ha, hw⟩, if_pos (by omega)] at hd
  have hv := valW_nonneg ha
  by_cases h0 : w = 0
  · rw [if_pos h0] at hd
    cases hd
    refine Ev.step (f := fun k => (reckonerlaw02_awake.f k).bind fun t => some t) (fun k => ?_) (Ev.bind awake_ev (Ev.now true))
    rw [reckonerlaw02_NatDivides.j0, if_pos h0, if_pos rfl, if_pos (by rfl), if_pos rfl]
  · rw [if_neg h0] at hd
    cases hd
    have hw0 : 0 < w := by have := hw.1; omega
    have vw : valB W64 [w] = w := by simp [valB]
    have rd := RDivMod_ev a [w] ha (inB_cons.2 ⟨hw, inB_nil⟩) (by omega) (by simp) (by rw [vw]; exact h0)
    rw [vw] at rd
    have hq : 0 ≤ valB W64 a / w := Int.ediv_nonneg hv (by omega)
    have hr0 := Int.emod_nonneg (valB W64 a) h0
    have hr1 := Int.emod_lt_of_pos (valB W64 a) hw0
    have hrw : isW (valB W64 a % w) := ⟨hr0, Int.lt_trans hr1 hw.2⟩
    have hql : (can (valB W64 a / w)).length ≤ 40 := can_short hq (by
      have h1 := valB_lt W64_pos ha
      have h2 := pow_mono (B := W64) (by decide) hl
      have h3 : valB W64 a / w ≤ valB W64 a := Int.ediv_le_self _ hv
      omega)
    have ri := RIs_ev (can (valB W64 a / w)) (can_in hq) (by omega) (can_val hq)
    have hrl : (can (valB W64 a % w)).length ≤ 1 := can_short hr0 (by rw [Int.pow_succ, Int.pow_zero, Int.one_mul]; exact hrw.2)
    have rc := RCmp_ev [valB W64 a % w] (can (valB W64 a % w)) (inB_cons.2 ⟨hrw, inB_nil⟩) (can_in hr0) (by simp) (by omega)
    rw [can_val hr0, show valB W64 [valB W64 a % w] = valB W64 a % w by simp [valB], cmpI_eq] at rc
    refine Ev.step (f := fun k => (reckonerref02_DivMod.f k a ([w] : List Int)).bind fun bt447 => ((reckonerref02_Is.f k (can (valB W64 a / w)) bt447.1).bind fun t453 => (if t453 = true then ((reckonerref02_Cmp.f k (([valB W64 a % w] : List Int)) bt447.2).bind fun t457 => (if t457 = 0 then ((reckonerlaw02_awake.f k).bind fun t458 => (some t458)) else (none))) else (none)))) (fun k => ?_) (Ev.bind rd (Ev.bind ri (Ev.congr (fun k => if_pos rfl) (Ev.bind rc (Ev.congr (fun k => if_pos rfl) (Ev.bind awake_ev (Ev.now true)))))))
    rw [reckonerlaw02_NatDivides.j0, if_neg h0]
    rfl
theorem pureNatDivides : reckonerlaw02_NatDivides.Pure := by
  intro l0 l1 a2 _ h0 hw0 _ h1 hw1 hw2
  have f0 := few_some l0 40 (by omega)
  have f1 := few_some l1 40 (by omega)
  have ha := inW_take (inW_of_wf hw0) 40
  have hb := inW_take (inW_of_wf hw1) 40
  have hw := isW_of_wf hw2
  have hla : (l0.take 40).length ≤ 40 := by rw [List.length_take]; omega
  have hlb : (l1.take 40).length ≤ 40 := by rw [List.length_take]; omega
  generalize l0.take 40 = a at *
  generalize l1.take 40 = b at *
  have va := valW_nonneg ha
  have vb := valW_nonneg hb
  have e40 : ((40 : Nat) : Int) = 40 := rfl
  rw [e40] at f0 f1
  obtain ⟨p, s, f, hd⟩ : ∃ p s f, nat_DivWord.f a a2 = some (p, s, f) := by
    unfold nat_DivWord.f
    rw [if_pos ⟨ha, hw⟩, if_pos (by omega)]
    by_cases h0 : a2 = 0
    · rw [if_pos h0]; exact ⟨_, _, _, rfl⟩
    · rw [if_neg h0]; exact ⟨_, _, _, rfl⟩
  have hj := Divides_j0 a a2 ha hw hla p s f hd
  have rz := RIsZero_ev b hb (by omega)
  have main : ∀ q r e, nat_DivMod.f a b = some (q, r, e) → Ev (fun k => (if decide (valB W64 b = 0) = true then (if e = 5 then (if (wrap64 ((q.length : Int) + (r.length : Int))) = 0 then (reckonerlaw02_NatDivides.j0 k a2 a p s f) else (none)) else (none)) else ((reckonerref02_DivMod.f k a b).bind fun bt435 => (if e = 0 then ((reckonerref02_Is.f k q bt435.1).bind fun t441 => (if t441 = true then ((reckonerref02_Is.f k r bt435.2).bind fun t442 => (if t442 = true then (reckonerlaw02_NatDivides.j0 k a2 a p s f) else (none))) else (none))) else (none))))) true → Ev (fun k => reckonerlaw02_NatDivides.f k l0 l1 a2) true := by
    intro q r e hdm h
    refine Ev.congr (f := fun k => (reckonerref02_IsZero.f k b).bind fun t434 => (if t434 = true then (if e = 5 then (if (wrap64 ((q.length : Int) + (r.length : Int))) = 0 then (reckonerlaw02_NatDivides.j0 k a2 a p s f) else (none)) else (none)) else ((reckonerref02_DivMod.f k a b).bind fun bt435 => (if e = 0 then ((reckonerref02_Is.f k q bt435.1).bind fun t441 => (if t441 = true then ((reckonerref02_Is.f k r bt435.2).bind fun t442 => (if t442 = true then (reckonerlaw02_NatDivides.j0 k a2 a p s f) else (none))) else (none))) else (none))))) (fun k => ?_) (Ev.bind rz h)
    show reckonerlaw02_NatDivides.f k l0 l1 a2 = _
    unfold reckonerlaw02_NatDivides.f
    rw [f0, f1, Option.bind_some, Option.bind_some, hdm, hd, Option.bind_some, Option.bind_some]
  refine Ev.rounds ?_
  by_cases hz : valB W64 b = 0
  · have hdm : nat_DivMod.f a b = some ([], [], 5) := by
      unfold nat_DivMod.f
      rw [if_pos ⟨ha, hb⟩, if_pos ⟨by omega, by omega⟩, if_pos hz]
    refine main _ _ _ hdm (Ev.congr (fun k => ?_) hj)
    rw [if_pos (decide_eq_true hz), if_pos rfl, if_pos (show wrap64 ((([] : List Int).length : Int) + (([] : List Int).length : Int)) = 0 from w64_nat 0 (by decide))]
  · have hdm : nat_DivMod.f a b = some (can (valB W64 a / valB W64 b), can (valB W64 a % valB W64 b), 0) := by
      unfold nat_DivMod.f
      rw [if_pos ⟨ha, hb⟩, if_pos ⟨by omega, by omega⟩, if_neg hz]
    have rd := RDivMod_ev a b ha hb (by omega) (by omega) hz
    have hq : 0 ≤ valB W64 a / valB W64 b := Int.ediv_nonneg va vb
    have hr0 := Int.emod_nonneg (valB W64 a) hz
    have hr1 := Int.emod_lt_of_pos (valB W64 a) (show 0 < valB W64 b by omega)
    have hql : (can (valB W64 a / valB W64 b)).length ≤ 40 := can_short hq (by
      have h1 := valB_lt W64_pos ha
      have h2 := pow_mono (B := W64) (by decide) hla
      have h3 : valB W64 a / valB W64 b ≤ valB W64 a := Int.ediv_le_self _ va
      omega)
    have hrl : (can (valB W64 a % valB W64 b)).length ≤ 40 := can_short hr0 (by
      have h1 := valB_lt W64_pos hb
      have h2 := pow_mono (B := W64) (by decide) hlb
      omega)
    have r1 := RIs_ev (can (valB W64 a / valB W64 b)) (can_in hq) (by omega) (can_val hq)
    have r2 := RIs_ev (can (valB W64 a % valB W64 b)) (can_in hr0) (by omega) (can_val hr0)
    have hn : ¬ decide (valB W64 b = 0) = true := by rw [decide_eq_false hz]; decide
    refine main _ _ _ hdm (Ev.congr (fun k => if_neg hn) (Ev.bind rd (Ev.congr (fun k => if_pos rfl) (Ev.bind r1 (Ev.congr (fun k => if_pos rfl) (Ev.bind r2 (Ev.congr (fun k => if_pos rfl) hj)))))))
end Go.Proofs.Ytkkkbalefnileaa.Ex
/- The plain law. -/
namespace Go.Proofs.Ytkkkbalefnileaa.Pure
theorem NatDivides : Go.Proofs.Ytkkkbalefnileaa.T.reckonerlaw02_NatDivides.Pure := Go.Proofs.Ytkkkbalefnileaa.Ex.pureNatDivides
end Go.Proofs.Ytkkkbalefnileaa.Pure
-- PRINTED BY print.sh 35421559b90ae4d0a3588c463048766b98c2df88dd9212a6774a882060cdf62d: not written by this session
-- PRINTED WORDS (module Derived/Print/Sized.lean): go-gate-2's, for the rows of laws over slices: an AI agent of Go's test side, Tue Nov 17 2026; no person has read it. Lean checks it.
namespace Go.Proofs.YtkkkbalefnileaaW.PrintWords
open Go.ChangeShapes Go.WideShapes
/-- A row's slice of whole numbers is no longer than its weight allows. -/
theorem sized_ints {H : Type} {enc : TypeId × Value → H} {P : Program} {W : World} {base : Nat} {spare : Nat → Bool} {held : Bool} {t e : TypeId} {k : IntKind} {a : Option Addr} {len cap : Nat} {d : DataW H} {ps : List MemPlace} {ts : List TypeId} {ds : List (DataW H)} {j : Nat}
    (hsz : (DataW.weightsEach P ts ds).all (· ≤ reachBytes) = true) (ht : ts[j]? = some t) (hd : ds[j]? = some d) (hu : P.underlying t = some (.slice e)) (he : P.underlying e = some (.int k)) (hc : P.cellsOf e = 1) {B : Nat} (hB : P.bytesOf e = B)
    (h : DataW.Trod enc P W base spare held t (.slice a len cap) d ps) : len * B ≤ 140737488351232 := by
  obtain ⟨fuel, hf⟩ := h
  rcases open_ints hu he hc hf with ⟨hcs, _⟩ | ⟨x, l, c, zs, hcs, _, hl, _, hz, hx, _, _⟩
  · simp [Value.cells] at hcs
    obtain ⟨rfl, rfl, rfl⟩ := hcs
    simp
  · simp [Value.cells] at hcs
    obtain ⟨rfl, rfl, rfl⟩ := hcs
    obtain ⟨hx, _⟩ := Prod.mk.inj hx
    subst hx
    have z := sized_slice hsz ht hd hu
    rw [hB] at z
    have hl2 : len ≤ zs.length := by
      rw [hz]
      split
      · exact hl
      · exact Nat.le_refl _
    have h1 : (lits (H := H) k (zs.take len)).length + (lits (H := H) k (zs.drop len)).length = zs.length := by
      simp [lits]
      omega
    rw [h1] at z
    exact Nat.le_trans (Nat.mul_le_mul_right _ hl2) z
end Go.Proofs.YtkkkbalefnileaaW.PrintWords
-- PRINTED by print.py: the row of the law reckonerlaw02_NatDivides, out of its Pure (the session's) and the printed walk. Not trusted: Lean checks it.
namespace Go.Proofs.Ytkkkbalefnileaa.natDivides
open Go.ChangeShapes Go.WideShapes Go.ChangeAt Go.RowKit
open Go.ChangeMaps (open_string shut_string)
set_option linter.unusedVariables false
theorem own : ownKnob Try.prog.godebug = none := by kernel_rfl
theorem laidOut : laidOutB Try.prog = true := by kernel_rfl
def IsRow (k : IntKind) (w : World) (a : Option Addr) (len cap : Nat) (zs : List Int) : Prop :=
  (a = none ∧ len = 0 ∧ cap = 0 ∧ zs = []) ∨
  ∃ x, a = some x ∧ len ≤ cap ∧ cap ≤ maxLen ∧ zs.length = cap ∧ (∀ i, i < zs.length → w.cell? (x.add i) = some (.int k (zs.getD i 0))) ∧ ∀ n ∈ zs, (Lit.int k n).wf = true
set_option maxRecDepth 100000 in
theorem lifted (os : Os) (started : os.Started) (H : Type) (enc : TypeId × Value → H) :
    ReturnsInHanded {} Try.checked os 4 .any (Rows.natDividesSpec.pre6 enc Try.prog Try.f4 Rows.natDividesRow.domain false) (Rows.natDividesSpec.post enc Try.prog Try.f4 false true false false) := by
  refine returnsInHanded_of_change_sized (C := Try.checked) own started (by kernel_rfl) Try.func4
    (ChangeSpec.witness6 (enc := enc) (C := Try.checked) false ⟨#[], #[.slice none 0 0, .slice none 0 0, .int .u64 0], []⟩ 8 (by kernel_rfl) (by kernel_rfl) (by kernel_rfl) (by kernel_rfl)) ?_
  intro W base args ds gs before hval0 hW hcnd hsz0 _
  have hsz : (DataW.weightsEach Try.prog (Try.f4.params.toList ++ Rows.natDividesSpec.plain.varTypes Try.prog) (ds ++ gs)).all (· ≤ reachBytes) = true := hsz0
  have hval : ∀ (j : Nat) t v, Try.f4.params[j]? = some t → args[j]? = some v → Value.okWide Try.prog W .any base t v := hval0
  have hW' := hW
  obtain ⟨p, q, hA0, hV, rfl, hfz, hnd⟩ := hW
  have hA : DataW.TrodAll enc Try.prog W 0 (fun _ => true) true Try.f4.params.toList args.toList ds p := hA0
  rw [Try.params4] at hA hval hsz
  obtain ⟨v0, vs0, d0, ds0, p0, q0, hargs, rfl, rfl, h0, r0⟩ := trodAll_cons hA
  obtain ⟨v1, vs1, d1, ds1, p1, q1, rfl, rfl, rfl, h1, r1⟩ := trodAll_cons r0
  obtain ⟨v2, vs2, d2, ds2, p2, q2, rfl, rfl, rfl, h2, r2⟩ := trodAll_cons r1
  obtain ⟨rfl, rfl, rfl⟩ := trodAll_nil r2
  obtain rfl : args = #[v0, v1, v2] := by cases args; simp_all
  obtain ⟨rfl, rfl⟩ := trodVars_none hV
  obtain ⟨a0, len0, cap0, rfl⟩ := okWide_slice Try.underlying23 (hval 0 23 v0 rfl rfl)
  have k0 := h0
  have lt0 : ∀ x ∈ p0, x.block < W.heap.size := by obtain ⟨m, hm⟩ := k0; exact DataW.trod_lt m _ _ _ hm
  obtain ⟨z0, w0⟩ : ∃ zs, IsRow .u64 W a0 len0 cap0 zs := by
    obtain ⟨fuel, hf⟩ := h0
    rcases open_ints Try.underlying23 Try.underlying33 (by kernel_rfl) hf with ⟨hcs, _⟩ | ⟨x, l, c, zs, hcs, _, hl, hm, hz, _, hcell, hwz⟩
    · simp [Value.cells] at hcs
      obtain ⟨rfl, rfl, rfl⟩ := hcs
      exact ⟨[], .inl ⟨rfl, rfl, rfl, rfl⟩⟩
    · simp [Value.cells] at hcs
      obtain ⟨rfl, rfl, rfl⟩ := hcs
      exact ⟨zs, .inr ⟨_, rfl, hl, hm, by simpa using hz, hcell, hwz⟩⟩
  have y0 : len0 * 8 ≤ 140737488351232 := Go.Proofs.YtkkkbalefnileaaW.PrintWords.sized_ints hsz (j := 0) (t := 23) rfl rfl Try.underlying23 Try.underlying33 (by kernel_rfl) (by kernel_rfl) h0
  obtain ⟨a1, len1, cap1, rfl⟩ := okWide_slice Try.underlying23 (hval 1 23 v1 rfl rfl)
  have k1 := h1
  have lt1 : ∀ x ∈ p1, x.block < W.heap.size := by obtain ⟨m, hm⟩ := k1; exact DataW.trod_lt m _ _ _ hm
  obtain ⟨z1, w1⟩ : ∃ zs, IsRow .u64 W a1 len1 cap1 zs := by
    obtain ⟨fuel, hf⟩ := h1
    rcases open_ints Try.underlying23 Try.underlying33 (by kernel_rfl) hf with ⟨hcs, _⟩ | ⟨x, l, c, zs, hcs, _, hl, hm, hz, _, hcell, hwz⟩
    · simp [Value.cells] at hcs
      obtain ⟨rfl, rfl, rfl⟩ := hcs
      exact ⟨[], .inl ⟨rfl, rfl, rfl, rfl⟩⟩
    · simp [Value.cells] at hcs
      obtain ⟨rfl, rfl, rfl⟩ := hcs
      exact ⟨zs, .inr ⟨_, rfl, hl, hm, by simpa using hz, hcell, hwz⟩⟩
  have y1 : len1 * 8 ≤ 140737488351232 := Go.Proofs.YtkkkbalefnileaaW.PrintWords.sized_ints hsz (j := 1) (t := 23) rfl rfl Try.underlying23 Try.underlying33 (by kernel_rfl) (by kernel_rfl) h1
  obtain ⟨a2, rfl, rfl, rfl, w2⟩ := open_int Try.underlying33 (hval 2 33 v2 rfl rfl) h2
  clear hA0 hval0 hsz0 hsz
  refine (T.reckonerlaw02_NatDivides.walk Pure.NatDivides a0 len0 cap0 z0 a1 len1 cap1 z1 a2 W w0 y0 w1 y1 w2).mono fun e W' ⟨he, bel⟩ => ?_
  subst he
  exact ⟨_, rfl, _, _, _, [], _, [], hW', trodAll_mk1 (shut_bool Try.underlying4 _), (trodAll_cons_mk (Below.trod laidOut (by kernel_rfl) (of_decide_eq_true (by kernel_rfl)) k0 bel lt0) (trodAll_cons_mk (Below.trod laidOut (by kernel_rfl) (of_decide_eq_true (by kernel_rfl)) k1 bel lt1) (trodAll_cons_mk (shut_int Try.underlying33 w2) trodAll_mk0))), rfl, bel.frame _, fun h => by cases h⟩
theorem over : Rows.natDividesRow.holds Try.pinned (OpenSpec.ofChange Rows.natDividesSpec) :=
  OpenClaim.holds_of_wide 4 Try.f4 rfl rfl rfl rfl rfl rfl rfl ⟨rfl, rfl, rfl, rfl, rfl⟩ rfl rfl rfl rfl rfl (by kernel_rfl) Try.func4 (by kernel_rfl)
    (of_decide_eq_true (by kernel_rfl)) (by unfold Func.isWrapper; first | (rw [if_pos (by decide +kernel)]; kernel_rfl) | (rw [if_neg (by decide +kernel)]; exact ⟨rfl, rfl⟩))
    (fun os started H enc _ => lifted os started H enc)
theorem proved : Rows.NatDividesSaid := over
#print axioms proved
end Go.Proofs.Ytkkkbalefnileaa.natDivides
namespace Go.Proofs.Ytkkkbalefnileaa
/-- The row, under a short name, for the claim. -/
theorem natDivides_holds : Rows.NatDividesSaid := natDivides.proved
end Go.Proofs.Ytkkkbalefnileaa
