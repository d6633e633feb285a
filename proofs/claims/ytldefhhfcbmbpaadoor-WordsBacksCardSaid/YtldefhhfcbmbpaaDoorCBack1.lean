/- WordsBacks, for every input: Sub takes away what Add adds, SubMul what AddMul adds, DivWord takes apart what MulWord makes, Left and then Right gives the row less what was shifted out; Negate is Sub from 0. (Part 2 of 3.) -/
import Derived.Test.YtldefhhfcbmbpaaDoorCBack0
-- PRINTED by print.py (a twelfth state) out of the translation. Not trusted: Lean checks it.
namespace Go.Proofs.YtldefhhfcbmbpaaDoor.T
open Go.RowKit Go.Proofs.YtldefhhfcbmbpaaDoorW.PrintWords Go.Proofs.YtldefhhfcbmbpaaDoorW.PrintLast Go.Proofs.YtldefhhfcbmbpaaDoorW.PrintMore
attribute [local go_sem] max2_int min2_int max_two min_two max_three min_three max_four min_four   -- for this text's walks alone
open YtldefhhfcbmbpaaDoor.Ex
set_option linter.unusedVariables false
set_option linter.unusedSimpArgs false

/-! ### reckonerlaw01_equal: function 18 -/
def reckonerlaw01_equal.f (l0 : List Int) (l1 : List Int) : Option (List Int × List Int) := if (l1.length : Int) < (l0.length : Int) then (if 40 < (l1.length : Int) then ((reckonerlaw01_few.f l0 40).bind fun t201 => ((reckonerlaw01_few.f l1 40).bind fun t204 => (some (t201, t204)))) else ((reckonerlaw01_few.f l0 (l1.length : Int)).bind fun t207 => ((reckonerlaw01_few.f l1 (l1.length : Int)).bind fun t210 => (some (t207, t210))))) else (if 40 < (l0.length : Int) then ((reckonerlaw01_few.f l0 40).bind fun t213 => ((reckonerlaw01_few.f l1 40).bind fun t216 => (some (t213, t216)))) else ((reckonerlaw01_few.f l0 (l0.length : Int)).bind fun t219 => ((reckonerlaw01_few.f l1 (l0.length : Int)).bind fun t222 => (some (t219, t222)))))
set_option maxHeartbeats 8000000 in
set_option maxRecDepth 100000 in
theorem reckonerlaw01_equal.calls (A0 : Option Addr) (c0 : Nat) (l0 : List Int) (A1 : Option Addr) (c1 : Nat) (l1 : List Int) (r1 : List Int) (r2 : List Int) (w : World) (hr0 : Kd.C (Kd.int .u64) w A0 l0.length l0) (hc0 : l0.length ≤ c0) (hr1 : Kd.C (Kd.int .u64) w A1 l1.length l1) (hc1 : l1.length ≤ c1) (h : reckonerlaw01_equal.f l0 l1 = some (r1, r2)) :
  Calls Tryd.prog 18 #[.slice A0 l0.length c0, .slice A1 l1.length c1] w fun e w' => ∃ v0_ v1_ : Value, e = .returned (.tuple #[v0_, v1_]) ∧ Kd.R (Kd.int .u64) 23 w' w.heap.size (fun k_ => some k_ ≠ (v1_ : Value).ownBlock) v0_ r1 ∧ Kd.R (Kd.int .u64) 23 w' w.heap.size (fun k_ => some k_ ≠ (v0_ : Value).ownBlock) v1_ r2 ∧ Below w.heap.size w w' := by
 have HR0 := Aside0.mk hr0
 have HC0 := Aside0.mk hc0
 clear hr0 hc0
 have HR1 := Aside0.mk hr1
 have HC1 := Aside0.mk hc1
 clear hr1 hc1
 have HB := Aside0.mk (Below.refl w.heap.size w)
 have H : (if (l1.length : Int) < (l0.length : Int) then (if 40 < (l1.length : Int) then ((reckonerlaw01_few.f l0 40).bind fun t201 => ((reckonerlaw01_few.f l1 40).bind fun t204 => (some (t201, t204)))) else ((reckonerlaw01_few.f l0 (l1.length : Int)).bind fun t207 => ((reckonerlaw01_few.f l1 (l1.length : Int)).bind fun t210 => (some (t207, t210))))) else (if 40 < (l0.length : Int) then ((reckonerlaw01_few.f l0 40).bind fun t213 => ((reckonerlaw01_few.f l1 40).bind fun t216 => (some (t213, t216)))) else ((reckonerlaw01_few.f l0 (l0.length : Int)).bind fun t219 => ((reckonerlaw01_few.f l1 (l0.length : Int)).bind fun t222 => (some (t219, t222)))))) = some (r1, r2) := h
 clear h
 by_cases c3 : (l1.length : Int) < (l0.length : Int)
 ·rw [if_pos c3] at H
  have c3i := eq_true c3
  have c3b0 : decide ((l1.length : Int) < (l0.length : Int)) = true := decide_eq_true c3
  have c3b1 : decide (l1.length < l0.length) = true := decide_eq_true (Int.ofNat_lt.mp c3)
  clear c3
  by_cases c4 : 40 < (l1.length : Int)
  ·rw [if_pos c4] at H
   have c4i := eq_true c4
   have c4b0 : decide (40 < (l1.length : Int)) = true := decide_eq_true c4
   have c4b1 : decide (40 < l1.length) = true := decide_eq_true (by omega)
   clear c4
   replace H := Option.bind_eq_some_iff.mp H
   obtain ⟨t201, A50, H⟩ := H
   replace H : ((reckonerlaw01_few.f l1 40).bind fun t204 => (some (t201, t204))) = some (r1, r2) := H
   have A5 := Aside0.mk A50
   clear A50
   replace H := Option.bind_eq_some_iff.mp H
   obtain ⟨t204, A60, H⟩ := H
   replace H : (some (t201, t204)) = some (r1, r2) := H
   have A6 := Aside0.mk A60
   clear A60
   simp only [Option.some.injEq, Prod.mk.injEq] at H
   obtain ⟨rfl, rfl⟩ := H
   go_enter Tryd.func18, Tryd.ntmps18
   go_wp2_with (first | ((with_reducible refine gate_callee (f := 12) rfl ?_); refine goesL_ (some 14) rfl rfl Tryd.func12 (by kernel_rfl) rfl #[.slice A0 l0.length c0, .int .i64 40] rfl (by (try simp only [List.map_toArray, List.map_cons, List.map_nil]); first | done | rfl | (simp only [List.length_drop, List.length_take]; rfl)) ?_; (with_reducible refine (reckonerlaw01_few.calls _ _ l0 40 t201 _ ?side1 ?side2 A5.out).mono ?_); (case side1 => repeat (first | exact HR0.out | (with_reducible refine Kd.C_alloc ?_ _) | (with_reducible refine Kd.C_drewN ?_ _) | (with_reducible refine Kd.C_drew ?_))); (case side2 => exact HC0.out); rintro e w7 ⟨v202, rfl, ho0, hb⟩; refine ⟨_, rfl, ?_⟩; have n0_ := Aside0.mk (Kd.R_lower ho0 (below_size (by repeat (first | (with_reducible first | exact HB.out | apply below_alloc | apply pw_below_drewN | apply below_drew1) | exact HB.out)))); have n1_ := Aside0.mk (below_step (by repeat (first | (with_reducible first | exact HB.out | apply below_alloc | apply pw_below_drewN | apply below_drew1) | exact HB.out)) hb); clear HB; have HO203 := n0_; have HB := n1_; clear n0_ n1_; (try clear hb); (try clear hb2); (try clear hk); (try clear hi); (try clear ho0)) | ((with_reducible refine gate_callee (f := 12) rfl ?_); refine goesL_ (some 17) rfl rfl Tryd.func12 (by kernel_rfl) rfl #[.slice A1 l1.length c1, .int .i64 40] rfl (by (try simp only [List.map_toArray, List.map_cons, List.map_nil]); first | done | rfl | (simp only [List.length_drop, List.length_take]; rfl)) ?_; (with_reducible refine (reckonerlaw01_few.calls _ _ l1 40 t204 _ ?side1 ?side2 A6.out).mono ?_); (case side1 => repeat (first | exact (Kd.C_below HR1.out HB.out) | (with_reducible refine Kd.C_alloc ?_ _) | (with_reducible refine Kd.C_drewN ?_ _) | (with_reducible refine Kd.C_drew ?_))); (case side2 => exact HC1.out); rintro e w8 ⟨v205, rfl, ho0, hb⟩; refine ⟨_, rfl, ?_⟩; have n0_ := Aside0.mk (Kd.R_elder' (by (with_reducible repeat (first | apply Kd.R_alloc | apply Kd.R_drewN | apply Kd.R_drew)); exact HO203.out) (Kd.R_base ho0) hb); have n1_ := Aside0.mk (Kd.R_lower (Kd.R_new' ho0 (Kd.R_lt (by (with_reducible repeat (first | apply Kd.R_alloc | apply Kd.R_drewN | apply Kd.R_drew)); exact HO203.out))) (below_size (by repeat (first | (with_reducible first | exact HB.out | apply below_alloc | apply pw_below_drewN | apply below_drew1) | exact HB.out)))); have n2_ := Aside0.mk (below_step (by repeat (first | (with_reducible first | exact HB.out | apply below_alloc | apply pw_below_drewN | apply below_drew1) | exact HB.out)) hb); clear HO203; clear HB; have HO203 := n0_; have HO206 := n1_; have HB := n2_; clear n0_ n1_ n2_; (try clear hb); (try clear hb2); (try clear hk); (try clear hi); (try clear ho0)))
   go_ret2
   exact ⟨_, _, by first | rfl | (simp [errW_none, errW_some] <;> rfl) | (simp [*, errW_none, errW_some] <;> rfl), by (with_reducible repeat (first | apply Kd.R_alloc | apply Kd.R_drewN | apply Kd.R_drew)); exact Kd.R_mono HO203.out (fun _ hk => hk.2), by (with_reducible repeat (first | apply Kd.R_alloc | apply Kd.R_drewN | apply Kd.R_drew)); exact Kd.R_mono HO206.out (fun _ hk => hk.2), by repeat (first | (with_reducible first | exact HB.out | apply below_alloc | apply pw_below_drewN | apply below_drew1) | exact HB.out)⟩
  ·rw [if_neg c4] at H
   have c4i := eq_false c4
   have c4b0 : decide (40 < (l1.length : Int)) = false := decide_eq_false c4
   have c4b1 : decide (40 < l1.length) = false := decide_eq_false (by omega)
   clear c4
   replace H := Option.bind_eq_some_iff.mp H
   obtain ⟨t207, A90, H⟩ := H
   replace H : ((reckonerlaw01_few.f l1 (l1.length : Int)).bind fun t210 => (some (t207, t210))) = some (r1, r2) := H
   have A9 := Aside0.mk A90
   clear A90
   replace H := Option.bind_eq_some_iff.mp H
   obtain ⟨t210, A100, H⟩ := H
   replace H : (some (t207, t210)) = some (r1, r2) := H
   have A10 := Aside0.mk A100
   clear A100
   simp only [Option.some.injEq, Prod.mk.injEq] at H
   obtain ⟨rfl, rfl⟩ := H
   go_enter Tryd.func18, Tryd.ntmps18
   go_wp2_with (first | ((with_reducible refine gate_callee (f := 12) rfl ?_); refine goesL_ (some 14) rfl rfl Tryd.func12 (by kernel_rfl) rfl #[.slice A0 l0.length c0, .int .i64 (l1.length : Int)] rfl (by (try simp only [List.map_toArray, List.map_cons, List.map_nil]); first | done | rfl | (simp only [List.length_drop, List.length_take]; rfl)) ?_; (with_reducible refine (reckonerlaw01_few.calls _ _ l0 (l1.length : Int) t207 _ ?side1 ?side2 A9.out).mono ?_); (case side1 => repeat (first | exact HR0.out | (with_reducible refine Kd.C_alloc ?_ _) | (with_reducible refine Kd.C_drewN ?_ _) | (with_reducible refine Kd.C_drew ?_))); (case side2 => exact HC0.out); rintro e w11 ⟨v208, rfl, ho0, hb⟩; refine ⟨_, rfl, ?_⟩; have n0_ := Aside0.mk (Kd.R_lower ho0 (below_size (by repeat (first | (with_reducible first | exact HB.out | apply below_alloc | apply pw_below_drewN | apply below_drew1) | exact HB.out)))); have n1_ := Aside0.mk (below_step (by repeat (first | (with_reducible first | exact HB.out | apply below_alloc | apply pw_below_drewN | apply below_drew1) | exact HB.out)) hb); clear HB; have HO209 := n0_; have HB := n1_; clear n0_ n1_; (try clear hb); (try clear hb2); (try clear hk); (try clear hi); (try clear ho0)) | ((with_reducible refine gate_callee (f := 12) rfl ?_); refine goesL_ (some 17) rfl rfl Tryd.func12 (by kernel_rfl) rfl #[.slice A1 l1.length c1, .int .i64 (l1.length : Int)] rfl (by (try simp only [List.map_toArray, List.map_cons, List.map_nil]); first | done | rfl | (simp only [List.length_drop, List.length_take]; rfl)) ?_; (with_reducible refine (reckonerlaw01_few.calls _ _ l1 (l1.length : Int) t210 _ ?side1 ?side2 A10.out).mono ?_); (case side1 => repeat (first | exact (Kd.C_below HR1.out HB.out) | (with_reducible refine Kd.C_alloc ?_ _) | (with_reducible refine Kd.C_drewN ?_ _) | (with_reducible refine Kd.C_drew ?_))); (case side2 => exact HC1.out); rintro e w12 ⟨v211, rfl, ho0, hb⟩; refine ⟨_, rfl, ?_⟩; have n0_ := Aside0.mk (Kd.R_elder' (by (with_reducible repeat (first | apply Kd.R_alloc | apply Kd.R_drewN | apply Kd.R_drew)); exact HO209.out) (Kd.R_base ho0) hb); have n1_ := Aside0.mk (Kd.R_lower (Kd.R_new' ho0 (Kd.R_lt (by (with_reducible repeat (first | apply Kd.R_alloc | apply Kd.R_drewN | apply Kd.R_drew)); exact HO209.out))) (below_size (by repeat (first | (with_reducible first | exact HB.out | apply below_alloc | apply pw_below_drewN | apply below_drew1) | exact HB.out)))); have n2_ := Aside0.mk (below_step (by repeat (first | (with_reducible first | exact HB.out | apply below_alloc | apply pw_below_drewN | apply below_drew1) | exact HB.out)) hb); clear HO209; clear HB; have HO209 := n0_; have HO212 := n1_; have HB := n2_; clear n0_ n1_ n2_; (try clear hb); (try clear hb2); (try clear hk); (try clear hi); (try clear ho0)))
   go_ret2
   exact ⟨_, _, by first | rfl | (simp [errW_none, errW_some] <;> rfl) | (simp [*, errW_none, errW_some] <;> rfl), by (with_reducible repeat (first | apply Kd.R_alloc | apply Kd.R_drewN | apply Kd.R_drew)); exact Kd.R_mono HO209.out (fun _ hk => hk.2), by (with_reducible repeat (first | apply Kd.R_alloc | apply Kd.R_drewN | apply Kd.R_drew)); exact Kd.R_mono HO212.out (fun _ hk => hk.2), by repeat (first | (with_reducible first | exact HB.out | apply below_alloc | apply pw_below_drewN | apply below_drew1) | exact HB.out)⟩
 ·rw [if_neg c3] at H
  have c3i := eq_false c3
  have c3b0 : decide ((l1.length : Int) < (l0.length : Int)) = false := decide_eq_false c3
  have c3b1 : decide (l1.length < l0.length) = false := decide_eq_false (fun h => c3 (Int.ofNat_lt.mpr h))
  clear c3
  by_cases c13 : 40 < (l0.length : Int)
  ·rw [if_pos c13] at H
   have c13i := eq_true c13
   have c13b0 : decide (40 < (l0.length : Int)) = true := decide_eq_true c13
   have c13b1 : decide (40 < l0.length) = true := decide_eq_true (by omega)
   clear c13
   replace H := Option.bind_eq_some_iff.mp H
   obtain ⟨t213, A140, H⟩ := H
   replace H : ((reckonerlaw01_few.f l1 40).bind fun t216 => (some (t213, t216))) = some (r1, r2) := H
   have A14 := Aside0.mk A140
   clear A140
   replace H := Option.bind_eq_some_iff.mp H
   obtain ⟨t216, A150, H⟩ := H
   replace H : (some (t213, t216)) = some (r1, r2) := H
   have A15 := Aside0.mk A150
   clear A150
   simp only [Option.some.injEq, Prod.mk.injEq] at H
   obtain ⟨rfl, rfl⟩ := H
   go_enter Tryd.func18, Tryd.ntmps18
   go_wp2_with (first | ((with_reducible refine gate_callee (f := 12) rfl ?_); refine goesL_ (some 14) rfl rfl Tryd.func12 (by kernel_rfl) rfl #[.slice A0 l0.length c0, .int .i64 40] rfl (by (try simp only [List.map_toArray, List.map_cons, List.map_nil]); first | done | rfl | (simp only [List.length_drop, List.length_take]; rfl)) ?_; (with_reducible refine (reckonerlaw01_few.calls _ _ l0 40 t213 _ ?side1 ?side2 A14.out).mono ?_); (case side1 => repeat (first | exact HR0.out | (with_reducible refine Kd.C_alloc ?_ _) | (with_reducible refine Kd.C_drewN ?_ _) | (with_reducible refine Kd.C_drew ?_))); (case side2 => exact HC0.out); rintro e w16 ⟨v214, rfl, ho0, hb⟩; refine ⟨_, rfl, ?_⟩; have n0_ := Aside0.mk (Kd.R_lower ho0 (below_size (by repeat (first | (with_reducible first | exact HB.out | apply below_alloc | apply pw_below_drewN | apply below_drew1) | exact HB.out)))); have n1_ := Aside0.mk (below_step (by repeat (first | (with_reducible first | exact HB.out | apply below_alloc | apply pw_below_drewN | apply below_drew1) | exact HB.out)) hb); clear HB; have HO215 := n0_; have HB := n1_; clear n0_ n1_; (try clear hb); (try clear hb2); (try clear hk); (try clear hi); (try clear ho0)) | ((with_reducible refine gate_callee (f := 12) rfl ?_); refine goesL_ (some 17) rfl rfl Tryd.func12 (by kernel_rfl) rfl #[.slice A1 l1.length c1, .int .i64 40] rfl (by (try simp only [List.map_toArray, List.map_cons, List.map_nil]); first | done | rfl | (simp only [List.length_drop, List.length_take]; rfl)) ?_; (with_reducible refine (reckonerlaw01_few.calls _ _ l1 40 t216 _ ?side1 ?side2 A15.out).mono ?_); (case side1 => repeat (first | exact (Kd.C_below HR1.out HB.out) | (with_reducible refine Kd.C_alloc ?_ _) | (with_reducible refine Kd.C_drewN ?_ _) | (with_reducible refine Kd.C_drew ?_))); (case side2 => exact HC1.out); rintro e w17 ⟨v217, rfl, ho0, hb⟩; refine ⟨_, rfl, ?_⟩; have n0_ := Aside0.mk (Kd.R_elder' (by (with_reducible repeat (first | apply Kd.R_alloc | apply Kd.R_drewN | apply Kd.R_drew)); exact HO215.out) (Kd.R_base ho0) hb); have n1_ := Aside0.mk (Kd.R_lower (Kd.R_new' ho0 (Kd.R_lt (by (with_reducible repeat (first | apply Kd.R_alloc | apply Kd.R_drewN | apply Kd.R_drew)); exact HO215.out))) (below_size (by repeat (first | (with_reducible first | exact HB.out | apply below_alloc | apply pw_below_drewN | apply below_drew1) | exact HB.out)))); have n2_ := Aside0.mk (below_step (by repeat (first | (with_reducible first | exact HB.out | apply below_alloc | apply pw_below_drewN | apply below_drew1) | exact HB.out)) hb); clear HO215; clear HB; have HO215 := n0_; have HO218 := n1_; have HB := n2_; clear n0_ n1_ n2_; (try clear hb); (try clear hb2); (try clear hk); (try clear hi); (try clear ho0)))
   go_ret2
   exact ⟨_, _, by first | rfl | (simp [errW_none, errW_some] <;> rfl) | (simp [*, errW_none, errW_some] <;> rfl), by (with_reducible repeat (first | apply Kd.R_alloc | apply Kd.R_drewN | apply Kd.R_drew)); exact Kd.R_mono HO215.out (fun _ hk => hk.2), by (with_reducible repeat (first | apply Kd.R_alloc | apply Kd.R_drewN | apply Kd.R_drew)); exact Kd.R_mono HO218.out (fun _ hk => hk.2), by repeat (first | (with_reducible first | exact HB.out | apply below_alloc | apply pw_below_drewN | apply below_drew1) | exact HB.out)⟩
  ·rw [if_neg c13] at H
   have c13i := eq_false c13
   have c13b0 : decide (40 < (l0.length : Int)) = false := decide_eq_false c13
   have c13b1 : decide (40 < l0.length) = false := decide_eq_false (by omega)
   clear c13
   replace H := Option.bind_eq_some_iff.mp H
   obtain ⟨t219, A180, H⟩ := H
   replace H : ((reckonerlaw01_few.f l1 (l0.length : Int)).bind fun t222 => (some (t219, t222))) = some (r1, r2) := H
   have A18 := Aside0.mk A180
   clear A180
   replace H := Option.bind_eq_some_iff.mp H
   obtain ⟨t222, A190, H⟩ := H
   replace H : (some (t219, t222)) = some (r1, r2) := H
   have A19 := Aside0.mk A190
   clear A190
   simp only [Option.some.injEq, Prod.mk.injEq] at H
   obtain ⟨rfl, rfl⟩ := H
   go_enter Tryd.func18, Tryd.ntmps18
   go_wp2_with (first | ((with_reducible refine gate_callee (f := 12) rfl ?_); refine goesL_ (some 14) rfl rfl Tryd.func12 (by kernel_rfl) rfl #[.slice A0 l0.length c0, .int .i64 (l0.length : Int)] rfl (by (try simp only [List.map_toArray, List.map_cons, List.map_nil]); first | done | rfl | (simp only [List.length_drop, List.length_take]; rfl)) ?_; (with_reducible refine (reckonerlaw01_few.calls _ _ l0 (l0.length : Int) t219 _ ?side1 ?side2 A18.out).mono ?_); (case side1 => repeat (first | exact HR0.out | (with_reducible refine Kd.C_alloc ?_ _) | (with_reducible refine Kd.C_drewN ?_ _) | (with_reducible refine Kd.C_drew ?_))); (case side2 => exact HC0.out); rintro e w20 ⟨v220, rfl, ho0, hb⟩; refine ⟨_, rfl, ?_⟩; have n0_ := Aside0.mk (Kd.R_lower ho0 (below_size (by repeat (first | (with_reducible first | exact HB.out | apply below_alloc | apply pw_below_drewN | apply below_drew1) | exact HB.out)))); have n1_ := Aside0.mk (below_step (by repeat (first | (with_reducible first | exact HB.out | apply below_alloc | apply pw_below_drewN | apply below_drew1) | exact HB.out)) hb); clear HB; have HO221 := n0_; have HB := n1_; clear n0_ n1_; (try clear hb); (try clear hb2); (try clear hk); (try clear hi); (try clear ho0)) | ((with_reducible refine gate_callee (f := 12) rfl ?_); refine goesL_ (some 17) rfl rfl Tryd.func12 (by kernel_rfl) rfl #[.slice A1 l1.length c1, .int .i64 (l0.length : Int)] rfl (by (try simp only [List.map_toArray, List.map_cons, List.map_nil]); first | done | rfl | (simp only [List.length_drop, List.length_take]; rfl)) ?_; (with_reducible refine (reckonerlaw01_few.calls _ _ l1 (l0.length : Int) t222 _ ?side1 ?side2 A19.out).mono ?_); (case side1 => repeat (first | exact (Kd.C_below HR1.out HB.out) | (with_reducible refine Kd.C_alloc ?_ _) | (with_reducible refine Kd.C_drewN ?_ _) | (with_reducible refine Kd.C_drew ?_))); (case side2 => exact HC1.out); rintro e w21 ⟨v223, rfl, ho0, hb⟩; refine ⟨_, rfl, ?_⟩; have n0_ := Aside0.mk (Kd.R_elder' (by (with_reducible repeat (first | apply Kd.R_alloc | apply Kd.R_drewN | apply Kd.R_drew)); exact HO221.out) (Kd.R_base ho0) hb); have n1_ := Aside0.mk (Kd.R_lower (Kd.R_new' ho0 (Kd.R_lt (by (with_reducible repeat (first | apply Kd.R_alloc | apply Kd.R_drewN | apply Kd.R_drew)); exact HO221.out))) (below_size (by repeat (first | (with_reducible first | exact HB.out | apply below_alloc | apply pw_below_drewN | apply below_drew1) | exact HB.out)))); have n2_ := Aside0.mk (below_step (by repeat (first | (with_reducible first | exact HB.out | apply below_alloc | apply pw_below_drewN | apply below_drew1) | exact HB.out)) hb); clear HO221; clear HB; have HO221 := n0_; have HO224 := n1_; have HB := n2_; clear n0_ n1_ n2_; (try clear hb); (try clear hb2); (try clear hk); (try clear hi); (try clear ho0)))
   go_ret2
   exact ⟨_, _, by first | rfl | (simp [errW_none, errW_some] <;> rfl) | (simp [*, errW_none, errW_some] <;> rfl), by (with_reducible repeat (first | apply Kd.R_alloc | apply Kd.R_drewN | apply Kd.R_drew)); exact Kd.R_mono HO221.out (fun _ hk => hk.2), by (with_reducible repeat (first | apply Kd.R_alloc | apply Kd.R_drewN | apply Kd.R_drew)); exact Kd.R_mono HO224.out (fun _ hk => hk.2), by repeat (first | (with_reducible first | exact HB.out | apply below_alloc | apply pw_below_drewN | apply below_drew1) | exact HB.out)⟩
-- OURS: function 20 (words_DivWord)

-- OURS: function 25 (words_Right)

-- OURS: function 28 (words_MulWord)

-- OURS: function 34 (words_Inverse)

-- OURS: function 61 (bits_Div64)

/-! ### words_reciprocal: function 71 -/
def words_reciprocal.f (a0 : Int) : Option (Int) := (bits_Div64.f (Go.bits .xor .u64 18446744073709551615 a0) 18446744073709551615 a0).bind fun bt225 => (some bt225.1)
set_option maxHeartbeats 8000000 in
set_option maxRecDepth 100000 in
theorem words_reciprocal.calls (a0 : Int) (r : Int) (w : World) (h : words_reciprocal.f a0 = some r) :
    Calls Tryd.prog 71 #[.int .u64 a0] w fun e w' => e = .returned (.int .u64 r) ∧ Drawn0 w w' := by
  have H : ((bits_Div64.f (Go.bits .xor .u64 18446744073709551615 a0) 18446744073709551615 a0).bind fun bt225 => (some bt225.1)) = some r := h
  clear h
  replace H := Option.bind_eq_some_iff.mp H
  obtain ⟨⟨t225, t226⟩, A20, H⟩ := H
  replace H : (some t225) = some r := H
  have A2 := Aside0.mk A20
  clear A20
  obtain rfl := Option.some.inj H
  go_enter Tryd.func71, Tryd.ntmps71
  go_wp2_with (first | ((with_reducible refine gate_callee (f := 61) rfl ?_); refine goesL_ (some 9) rfl rfl Tryd.func61 (by kernel_rfl) rfl #[.int .u64 (Go.bits .xor .u64 18446744073709551615 a0), .int .u64 18446744073709551615, .int .u64 a0] rfl (by (try simp only [List.map_toArray, List.map_cons, List.map_nil]); first | done | rfl | (simp only [List.length_drop, List.length_take]; rfl)) ?_; (with_reducible refine (bits_Div64.calls (Go.bits .xor .u64 18446744073709551615 a0) 18446744073709551615 a0 t225 t226 _ A2.out).mono ?_); rintro e w' ⟨rfl, ⟨nd, rfl⟩⟩; refine ⟨_, rfl, ?_⟩))
  go_ret
  exact ⟨by first | rfl | (simp; done) | (simp [*]; done), by repeat (first | exact Drawn0.refl _ | apply Drawn0.step)⟩
/-! ### words_Reciprocal: function 36 -/
def words_Reciprocal.f (a0 : Int) : Option (Int × Int) := if a0 < 9223372036854775808 then (some (0, 1)) else ((words_reciprocal.f a0).bind fun t227 => (some (t227, 0)))
set_option maxHeartbeats 8000000 in
set_option maxRecDepth 100000 in
theorem words_Reciprocal.calls (a0 : Int) (r1 : Int) (r2 : Int) (w : World) (h : words_Reciprocal.f a0 = some (r1, r2)) :
    Calls Tryd.prog 36 #[.int .u64 a0] w fun e w' => e = .returned (.tuple #[.int .u64 r1, .int .i64 r2]) ∧ Drawn0 w w' := by
  have H : (if a0 < 9223372036854775808 then (some (0, 1)) else ((words_reciprocal.f a0).bind fun t227 => (some (t227, 0)))) = some (r1, r2) := h
  clear h
  by_cases c2 : a0 < 9223372036854775808
  · rw [if_pos c2] at H
    have c2b0 : decide (a0 < 9223372036854775808) = true := decide_eq_true c2
    clear c2
    simp only [Option.some.injEq, Prod.mk.injEq] at H
    obtain ⟨rfl, rfl⟩ := H
    go_enter Tryd.func36, Tryd.ntmps36
    go_wp2
    go_ret2
    exact ⟨by first | rfl | (simp; done) | (simp [*]; done), by repeat (first | exact Drawn0.refl _ | apply Drawn0.step)⟩
  · rw [if_neg c2] at H
    have c2b0 : decide (a0 < 9223372036854775808) = false := decide_eq_false c2
    clear c2
    replace H := Option.bind_eq_some_iff.mp H
    obtain ⟨t227, A30, H⟩ := H
    replace H : (some (t227, 0)) = some (r1, r2) := H
    have A3 := Aside0.mk A30
    clear A30
    simp only [Option.some.injEq, Prod.mk.injEq] at H
    obtain ⟨rfl, rfl⟩ := H
    go_enter Tryd.func36, Tryd.ntmps36
    go_wp2_with (first | ((with_reducible refine gate_callee (f := 71) rfl ?_); refine goesL_ (some 7) rfl rfl Tryd.func71 (by kernel_rfl) rfl #[.int .u64 a0] rfl (by (try simp only [List.map_toArray, List.map_cons, List.map_nil]); first | done | rfl | (simp only [List.length_drop, List.length_take]; rfl)) ?_; (with_reducible refine (words_reciprocal.calls a0 t227 _ A3.out).mono ?_); rintro e w' ⟨rfl, ⟨nd, rfl⟩⟩; refine ⟨_, rfl, ?_⟩))
    go_ret2
    exact ⟨by first | rfl | (simp; done) | (simp [*]; done), by repeat (first | exact Drawn0.refl _ | apply Drawn0.step)⟩
/-! ### reckonerlaw01_awake: function 19 -/
def reckonerlaw01_awake.f (k : Nat)  : Option (Bool) := (words_Add.f (([18446744073709551615] : List Int)) (([1] : List Int)) 0).bind fun bt234 => ((words_Sub.f (([0] : List Int)) (([1] : List Int)) 0).bind fun bt245 => ((words_MulWord.f (([18446744073709551615] : List Int)) 18446744073709551615 18446744073709551615).bind fun bt253 => ((words_DivWord.f (([0] : List Int)) 3 1).bind fun bt261 => ((words_Right.f (([3] : List Int)) 1).bind fun bt269 => ((words_Inverse.f 3).bind fun bt274 => ((words_Reciprocal.f 9223372036854775808).bind fun bt276 => (if bt234.2.2 = 0 then ((reckonerlaw01_same.f k bt234.1 (([0] : List Int))).bind fun t281 => (if t281 = true then (if bt234.2.1 = 1 then (if bt245.2.2 = 0 then ((reckonerlaw01_same.f k bt245.1 (([18446744073709551615] : List Int))).bind fun t285 => (if t285 = true then (if bt245.2.1 = 1 then (if bt253.2.2 = 0 then ((reckonerlaw01_same.f k bt253.1 (([0] : List Int))).bind fun t289 => (if t289 = true then (if bt253.2.1 = 18446744073709551615 then (if bt261.2.2 = 0 then ((reckonerlaw01_same.f k bt261.1 (([6148914691236517205] : List Int))).bind fun t293 => (if t293 = true then (if bt261.2.1 = 1 then (if bt269.2.2 = 0 then ((reckonerlaw01_same.f k bt269.1 (([1] : List Int))).bind fun t297 => (if t297 = true then (if bt269.2.1 = 9223372036854775808 then (if bt274.2 = 0 then (if bt274.1 = 12297829382473034411 then (if bt276.2 = 0 then (some (bt276.1 == 18446744073709551615)) else (none)) else (none)) else (none)) else (none)) else (none))) else (none)) else (none)) else (none))) else (none)) else (none)) else (none))) else (none)) else (none)) else (none))) else (none)) else (none)) else (none))) else (none))))))))
set_option maxHeartbeats 8000000 in
set_option maxRecDepth 100000 in
theorem reckonerlaw01_awake.calls (k : Nat)  (r : Bool) (w : World) (hg : Laid w) (h : reckonerlaw01_awake.f k  = some r) :
  Calls Tryd.prog 19 #[] w fun e w' => e = .returned (.bool r) ∧ Below w.heap.size w w' := by
 have HLd := Aside0.mk hg
 clear hg
 have HB := Aside0.mk (Below.refl w.heap.size w)
 have H : ((words_Add.f (([18446744073709551615] : List Int)) (([1] : List Int)) 0).bind fun bt234 => ((words_Sub.f (([0] : List Int)) (([1] : List Int)) 0).bind fun bt245 => ((words_MulWord.f (([18446744073709551615] : List Int)) 18446744073709551615 18446744073709551615).bind fun bt253 => ((words_DivWord.f (([0] : List Int)) 3 1).bind fun bt261 => ((words_Right.f (([3] : List Int)) 1).bind fun bt269 => ((words_Inverse.f 3).bind fun bt274 => ((words_Reciprocal.f 9223372036854775808).bind fun bt276 => (if bt234.2.2 = 0 then ((reckonerlaw01_same.f k bt234.1 (([0] : List Int))).bind fun t281 => (if t281 = true then (if bt234.2.1 = 1 then (if bt245.2.2 = 0 then ((reckonerlaw01_same.f k bt245.1 (([18446744073709551615] : List Int))).bind fun t285 => (if t285 = true then (if bt245.2.1 = 1 then (if bt253.2.2 = 0 then ((reckonerlaw01_same.f k bt253.1 (([0] : List Int))).bind fun t289 => (if t289 = true then (if bt253.2.1 = 18446744073709551615 then (if bt261.2.2 = 0 then ((reckonerlaw01_same.f k bt261.1 (([6148914691236517205] : List Int))).bind fun t293 => (if t293 = true then (if bt261.2.1 = 1 then (if bt269.2.2 = 0 then ((reckonerlaw01_same.f k bt269.1 (([1] : List Int))).bind fun t297 => (if t297 = true then (if bt269.2.1 = 9223372036854775808 then (if bt274.2 = 0 then (if bt274.1 = 12297829382473034411 then (if bt276.2 = 0 then (some (bt276.1 == 18446744073709551615)) else (none)) else (none)) else (none)) else (none)) else (none))) else (none)) else (none)) else (none))) else (none)) else (none)) else (none))) else (none)) else (none)) else (none))) else (none)) else (none)) else (none))) else (none))))))))) = some r := h
 clear h
 obtain ⟨y228, hy228⟩ : ∃ y_ : List Int, y_ = (([18446744073709551615] : List Int)) := ⟨_, rfl⟩
 replace H : ((words_Add.f y228 (([1] : List Int)) 0).bind fun bt234 => ((words_Sub.f (([0] : List Int)) (([1] : List Int)) 0).bind fun bt245 => ((words_MulWord.f (([18446744073709551615] : List Int)) 18446744073709551615 18446744073709551615).bind fun bt253 => ((words_DivWord.f (([0] : List Int)) 3 1).bind fun bt261 => ((words_Right.f (([3] : List Int)) 1).bind fun bt269 => ((words_Inverse.f 3).bind fun bt274 => ((words_Reciprocal.f 9223372036854775808).bind fun bt276 => (if bt234.2.2 = 0 then ((reckonerlaw01_same.f k bt234.1 (([0] : List Int))).bind fun t281 => (if t281 = true then (if bt234.2.1 = 1 then (if bt245.2.2 = 0 then ((reckonerlaw01_same.f k bt245.1 (([18446744073709551615] : List Int))).bind fun t285 => (if t285 = true then (if bt245.2.1 = 1 then (if bt253.2.2 = 0 then ((reckonerlaw01_same.f k bt253.1 (([0] : List Int))).bind fun t289 => (if t289 = true then (if bt253.2.1 = 18446744073709551615 then (if bt261.2.2 = 0 then ((reckonerlaw01_same.f k bt261.1 (([6148914691236517205] : List Int))).bind fun t293 => (if t293 = true then (if bt261.2.1 = 1 then (if bt269.2.2 = 0 then ((reckonerlaw01_same.f k bt269.1 (([1] : List Int))).bind fun t297 => (if t297 = true then (if bt269.2.1 = 9223372036854775808 then (if bt274.2 = 0 then (if bt274.1 = 12297829382473034411 then (if bt276.2 = 0 then (some (bt276.1 == 18446744073709551615)) else (none)) else (none)) else (none)) else (none)) else (none))) else (none)) else (none)) else (none))) else (none)) else (none)) else (none))) else (none)) else (none)) else (none))) else (none)) else (none)) else (none))) else (none))))))))) = some r := by first | (rw [hy228]; with_reducible exact H) | (have H2_ := (Option.bind_some _ _).symm.trans H; rw [hy228]; with_reducible exact H2_) | (have H2_ := (Option.bind_some _ _).symm.trans H; with_reducible exact H2_) | with_reducible exact H | (rw [hy228]; exact H) | exact H
 have Ny228 := Aside0.mk hy228
 clear hy228
 obtain ⟨y231, hy231⟩ : ∃ y_ : List Int, y_ = (([1] : List Int)) := ⟨_, rfl⟩
 replace H : ((words_Add.f y228 y231 0).bind fun bt234 => ((words_Sub.f (([0] : List Int)) (([1] : List Int)) 0).bind fun bt245 => ((words_MulWord.f (([18446744073709551615] : List Int)) 18446744073709551615 18446744073709551615).bind fun bt253 => ((words_DivWord.f (([0] : List Int)) 3 1).bind fun bt261 => ((words_Right.f (([3] : List Int)) 1).bind fun bt269 => ((words_Inverse.f 3).bind fun bt274 => ((words_Reciprocal.f 9223372036854775808).bind fun bt276 => (if bt234.2.2 = 0 then ((reckonerlaw01_same.f k bt234.1 (([0] : List Int))).bind fun t281 => (if t281 = true then (if bt234.2.1 = 1 then (if bt245.2.2 = 0 then ((reckonerlaw01_same.f k bt245.1 (([18446744073709551615] : List Int))).bind fun t285 => (if t285 = true then (if bt245.2.1 = 1 then (if bt253.2.2 = 0 then ((reckonerlaw01_same.f k bt253.1 (([0] : List Int))).bind fun t289 => (if t289 = true then (if bt253.2.1 = 18446744073709551615 then (if bt261.2.2 = 0 then ((reckonerlaw01_same.f k bt261.1 (([6148914691236517205] : List Int))).bind fun t293 => (if t293 = true then (if bt261.2.1 = 1 then (if bt269.2.2 = 0 then ((reckonerlaw01_same.f k bt269.1 (([1] : List Int))).bind fun t297 => (if t297 = true then (if bt269.2.1 = 9223372036854775808 then (if bt274.2 = 0 then (if bt274.1 = 12297829382473034411 then (if bt276.2 = 0 then (some (bt276.1 == 18446744073709551615)) else (none)) else (none)) else (none)) else (none)) else (none))) else (none)) else (none)) else (none))) else (none)) else (none)) else (none))) else (none)) else (none)) else (none))) else (none)) else (none)) else (none))) else (none))))))))) = some r := by first | (rw [hy231]; with_reducible exact H) | (have H2_ := (Option.bind_some _ _).symm.trans H; rw [hy231]; with_reducible exact H2_) | (have H2_ := (Option.bind_some _ _).symm.trans H; with_reducible exact H2_) | with_reducible exact H | (rw [hy231]; exact H) | exact H
 have Ny231 := Aside0.mk hy231
 clear hy231
 replace H := Option.bind_eq_some_iff.mp H
 obtain ⟨⟨t234, t235, t236⟩, A10, H⟩ := H
 replace H : ((words_Sub.f (([0] : List Int)) (([1] : List Int)) 0).bind fun bt245 => ((words_MulWord.f (([18446744073709551615] : List Int)) 18446744073709551615 18446744073709551615).bind fun bt253 => ((words_DivWord.f (([0] : List Int)) 3 1).bind fun bt261 => ((words_Right.f (([3] : List Int)) 1).bind fun bt269 => ((words_Inverse.f 3).bind fun bt274 => ((words_Reciprocal.f 9223372036854775808).bind fun bt276 => (if t236 = 0 then ((reckonerlaw01_same.f k t234 (([0] : List Int))).bind fun t281 => (if t281 = true then (if t235 = 1 then (if bt245.2.2 = 0 then ((reckonerlaw01_same.f k bt245.1 (([18446744073709551615] : List Int))).bind fun t285 => (if t285 = true then (if bt245.2.1 = 1 then (if bt253.2.2 = 0 then ((reckonerlaw01_same.f k bt253.1 (([0] : List Int))).bind fun t289 => (if t289 = true then (if bt253.2.1 = 18446744073709551615 then (if bt261.2.2 = 0 then ((reckonerlaw01_same.f k bt261.1 (([6148914691236517205] : List Int))).bind fun t293 => (if t293 = true then (if bt261.2.1 = 1 then (if bt269.2.2 = 0 then ((reckonerlaw01_same.f k bt269.1 (([1] : List Int))).bind fun t297 => (if t297 = true then (if bt269.2.1 = 9223372036854775808 then (if bt274.2 = 0 then (if bt274.1 = 12297829382473034411 then (if bt276.2 = 0 then (some (bt276.1 == 18446744073709551615)) else (none)) else (none)) else (none)) else (none)) else (none))) else (none)) else (none)) else (none))) else (none)) else (none)) else (none))) else (none)) else (none)) else (none))) else (none)) else (none)) else (none))) else (none)))))))) = some r := H
 have A1 := Aside0.mk A10
 clear A10
 obtain ⟨y239, hy239⟩ : ∃ y_ : List Int, y_ = (([0] : List Int)) := ⟨_, rfl⟩
 replace H : ((words_Sub.f y239 (([1] : List Int)) 0).bind fun bt245 => ((words_MulWord.f (([18446744073709551615] : List Int)) 18446744073709551615 18446744073709551615).bind fun bt253 => ((words_DivWord.f (([0] : List Int)) 3 1).bind fun bt261 => ((words_Right.f (([3] : List Int)) 1).bind fun bt269 => ((words_Inverse.f 3).bind fun bt274 => ((words_Reciprocal.f 9223372036854775808).bind fun bt276 => (if t236 = 0 then ((reckonerlaw01_same.f k t234 (([0] : List Int))).bind fun t281 => (if t281 = true then (if t235 = 1 then (if bt245.2.2 = 0 then ((reckonerlaw01_same.f k bt245.1 (([18446744073709551615] : List Int))).bind fun t285 => (if t285 = true then (if bt245.2.1 = 1 then (if bt253.2.2 = 0 then ((reckonerlaw01_same.f k bt253.1 (([0] : List Int))).bind fun t289 => (if t289 = true then (if bt253.2.1 = 18446744073709551615 then (if bt261.2.2 = 0 then ((reckonerlaw01_same.f k bt261.1 (([6148914691236517205] : List Int))).bind fun t293 => (if t293 = true then (if bt261.2.1 = 1 then (if bt269.2.2 = 0 then ((reckonerlaw01_same.f k bt269.1 (([1] : List Int))).bind fun t297 => (if t297 = true then (if bt269.2.1 = 9223372036854775808 then (if bt274.2 = 0 then (if bt274.1 = 12297829382473034411 then (if bt276.2 = 0 then (some (bt276.1 == 18446744073709551615)) else (none)) else (none)) else (none)) else (none)) else (none))) else (none)) else (none)) else (none))) else (none)) else (none)) else (none))) else (none)) else (none)) else (none))) else (none)) else (none)) else (none))) else (none)))))))) = some r := by first | (rw [hy239]; with_reducible exact H) | (have H2_ := (Option.bind_some _ _).symm.trans H; rw [hy239]; with_reducible exact H2_) | (have H2_ := (Option.bind_some _ _).symm.trans H; with_reducible exact H2_) | with_reducible exact H | (rw [hy239]; exact H) | exact H
 have Ny239 := Aside0.mk hy239
 clear hy239
 obtain ⟨y242, hy242⟩ : ∃ y_ : List Int, y_ = (([1] : List Int)) := ⟨_, rfl⟩
 replace H : ((words_Sub.f y239 y242 0).bind fun bt245 => ((words_MulWord.f (([18446744073709551615] : List Int)) 18446744073709551615 18446744073709551615).bind fun bt253 => ((words_DivWord.f (([0] : List Int)) 3 1).bind fun bt261 => ((words_Right.f (([3] : List Int)) 1).bind fun bt269 => ((words_Inverse.f 3).bind fun bt274 => ((words_Reciprocal.f 9223372036854775808).bind fun bt276 => (if t236 = 0 then ((reckonerlaw01_same.f k t234 (([0] : List Int))).bind fun t281 => (if t281 = true then (if t235 = 1 then (if bt245.2.2 = 0 then ((reckonerlaw01_same.f k bt245.1 (([18446744073709551615] : List Int))).bind fun t285 => (if t285 = true then (if bt245.2.1 = 1 then (if bt253.2.2 = 0 then ((reckonerlaw01_same.f k bt253.1 (([0] : List Int))).bind fun t289 => (if t289 = true then (if bt253.2.1 = 18446744073709551615 then (if bt261.2.2 = 0 then ((reckonerlaw01_same.f k bt261.1 (([6148914691236517205] : List Int))).bind fun t293 => (if t293 = true then (if bt261.2.1 = 1 then (if bt269.2.2 = 0 then ((reckonerlaw01_same.f k bt269.1 (([1] : List Int))).bind fun t297 => (if t297 = true then (if bt269.2.1 = 9223372036854775808 then (if bt274.2 = 0 then (if bt274.1 = 12297829382473034411 then (if bt276.2 = 0 then (some (bt276.1 == 18446744073709551615)) else (none)) else (none)) else (none)) else (none)) else (none))) else (none)) else (none)) else (none))) else (none)) else (none)) else (none))) else (none)) else (none)) else (none))) else (none)) else (none)) else (none))) else (none)))))))) = some r := by first | (rw [hy242]; with_reducible exact H) | (have H2_ := (Option.bind_some _ _).symm.trans H; rw [hy242]; with_reducible exact H2_) | (have H2_ := (Option.bind_some _ _).symm.trans H; with_reducible exact H2_) | with_reducible exact H | (rw [hy242]; exact H) | exact H
 have Ny242 := Aside0.mk hy242
 clear hy242
 replace H := Option.bind_eq_some_iff.mp H
 obtain ⟨⟨t245, t246, t247⟩, A20, H⟩ := H
 replace H : ((words_MulWord.f (([18446744073709551615] : List Int)) 18446744073709551615 18446744073709551615).bind fun bt253 => ((words_DivWord.f (([0] : List Int)) 3 1).bind fun bt261 => ((words_Right.f (([3] : List Int)) 1).bind fun bt269 => ((words_Inverse.f 3).bind fun bt274 => ((words_Reciprocal.f 9223372036854775808).bind fun bt276 => (if t236 = 0 then ((reckonerlaw01_same.f k t234 (([0] : List Int))).bind fun t281 => (if t281 = true then (if t235 = 1 then (if t247 = 0 then ((reckonerlaw01_same.f k t245 (([18446744073709551615] : List Int))).bind fun t285 => (if t285 = true then (if t246 = 1 then (if bt253.2.2 = 0 then ((reckonerlaw01_same.f k bt253.1 (([0] : List Int))).bind fun t289 => (if t289 = true then (if bt253.2.1 = 18446744073709551615 then (if bt261.2.2 = 0 then ((reckonerlaw01_same.f k bt261.1 (([6148914691236517205] : List Int))).bind fun t293 => (if t293 = true then (if bt261.2.1 = 1 then (if bt269.2.2 = 0 then ((reckonerlaw01_same.f k bt269.1 (([1] : List Int))).bind fun t297 => (if t297 = true then (if bt269.2.1 = 9223372036854775808 then (if bt274.2 = 0 then (if bt274.1 = 12297829382473034411 then (if bt276.2 = 0 then (some (bt276.1 == 18446744073709551615)) else (none)) else (none)) else (none)) else (none)) else (none))) else (none)) else (none)) else (none))) else (none)) else (none)) else (none))) else (none)) else (none)) else (none))) else (none)) else (none)) else (none))) else (none))))))) = some r := H
 have A2 := Aside0.mk A20
 clear A20
 obtain ⟨y250, hy250⟩ : ∃ y_ : List Int, y_ = (([18446744073709551615] : List Int)) := ⟨_, rfl⟩
 replace H : ((words_MulWord.f y250 18446744073709551615 18446744073709551615).bind fun bt253 => ((words_DivWord.f (([0] : List Int)) 3 1).bind fun bt261 => ((words_Right.f (([3] : List Int)) 1).bind fun bt269 => ((words_Inverse.f 3).bind fun bt274 => ((words_Reciprocal.f 9223372036854775808).bind fun bt276 => (if t236 = 0 then ((reckonerlaw01_same.f k t234 (([0] : List Int))).bind fun t281 => (if t281 = true then (if t235 = 1 then (if t247 = 0 then ((reckonerlaw01_same.f k t245 (([18446744073709551615] : List Int))).bind fun t285 => (if t285 = true then (if t246 = 1 then (if bt253.2.2 = 0 then ((reckonerlaw01_same.f k bt253.1 (([0] : List Int))).bind fun t289 => (if t289 = true then (if bt253.2.1 = 18446744073709551615 then (if bt261.2.2 = 0 then ((reckonerlaw01_same.f k bt261.1 (([6148914691236517205] : List Int))).bind fun t293 => (if t293 = true then (if bt261.2.1 = 1 then (if bt269.2.2 = 0 then ((reckonerlaw01_same.f k bt269.1 (([1] : List Int))).bind fun t297 => (if t297 = true then (if bt269.2.1 = 9223372036854775808 then (if bt274.2 = 0 then (if bt274.1 = 12297829382473034411 then (if bt276.2 = 0 then (some (bt276.1 == 18446744073709551615)) else (none)) else (none)) else (none)) else (none)) else (none))) else (none)) else (none)) else (none))) else (none)) else (none)) else (none))) else (none)) else (none)) else (none))) else (none)) else (none)) else (none))) else (none))))))) = some r := by first | (rw [hy250]; with_reducible exact H) | (have H2_ := (Option.bind_some _ _).symm.trans H; rw [hy250]; with_reducible exact H2_) | (have H2_ := (Option.bind_some _ _).symm.trans H; with_reducible exact H2_) | with_reducible exact H | (rw [hy250]; exact H) | exact H
 have Ny250 := Aside0.mk hy250
 clear hy250
 replace H := Option.bind_eq_some_iff.mp H
 obtain ⟨⟨t253, t254, t255⟩, A30, H⟩ := H
 replace H : ((words_DivWord.f (([0] : List Int)) 3 1).bind fun bt261 => ((words_Right.f (([3] : List Int)) 1).bind fun bt269 => ((words_Inverse.f 3).bind fun bt274 => ((words_Reciprocal.f 9223372036854775808).bind fun bt276 => (if t236 = 0 then ((reckonerlaw01_same.f k t234 (([0] : List Int))).bind fun t281 => (if t281 = true then (if t235 = 1 then (if t247 = 0 then ((reckonerlaw01_same.f k t245 (([18446744073709551615] : List Int))).bind fun t285 => (if t285 = true then (if t246 = 1 then (if t255 = 0 then ((reckonerlaw01_same.f k t253 (([0] : List Int))).bind fun t289 => (if t289 = true then (if t254 = 18446744073709551615 then (if bt261.2.2 = 0 then ((reckonerlaw01_same.f k bt261.1 (([6148914691236517205] : List Int))).bind fun t293 => (if t293 = true then (if bt261.2.1 = 1 then (if bt269.2.2 = 0 then ((reckonerlaw01_same.f k bt269.1 (([1] : List Int))).bind fun t297 => (if t297 = true then (if bt269.2.1 = 9223372036854775808 then (if bt274.2 = 0 then (if bt274.1 = 12297829382473034411 then (if bt276.2 = 0 then (some (bt276.1 == 18446744073709551615)) else (none)) else (none)) else (none)) else (none)) else (none))) else (none)) else (none)) else (none))) else (none)) else (none)) else (none))) else (none)) else (none)) else (none))) else (none)) else (none)) else (none))) else (none)))))) = some r := H
 have A3 := Aside0.mk A30
 clear A30
 obtain ⟨y258, hy258⟩ : ∃ y_ : List Int, y_ = (([0] : List Int)) := ⟨_, rfl⟩
 replace H : ((words_DivWord.f y258 3 1).bind fun bt261 => ((words_Right.f (([3] : List Int)) 1).bind fun bt269 => ((words_Inverse.f 3).bind fun bt274 => ((words_Reciprocal.f 9223372036854775808).bind fun bt276 => (if t236 = 0 then ((reckonerlaw01_same.f k t234 (([0] : List Int))).bind fun t281 => (if t281 = true then (if t235 = 1 then (if t247 = 0 then ((reckonerlaw01_same.f k t245 (([18446744073709551615] : List Int))).bind fun t285 => (if t285 = true then (if t246 = 1 then (if t255 = 0 then ((reckonerlaw01_same.f k t253 (([0] : List Int))).bind fun t289 => (if t289 = true then (if t254 = 18446744073709551615 then (if bt261.2.2 = 0 then ((reckonerlaw01_same.f k bt261.1 (([6148914691236517205] : List Int))).bind fun t293 => (if t293 = true then (if bt261.2.1 = 1 then (if bt269.2.2 = 0 then ((reckonerlaw01_same.f k bt269.1 (([1] : List Int))).bind fun t297 => (if t297 = true then (if bt269.2.1 = 9223372036854775808 then (if bt274.2 = 0 then (if bt274.1 = 12297829382473034411 then (if bt276.2 = 0 then (some (bt276.1 == 18446744073709551615)) else (none)) else (none)) else (none)) else (none)) else (none))) else (none)) else (none)) else (none))) else (none)) else (none)) else (none))) else (none)) else (none)) else (none))) else (none)) else (none)) else (none))) else (none)))))) = some r := by first | (rw [hy258]; with_reducible exact H) | (have H2_ := (Option.bind_some _ _).symm.trans H; rw [hy258]; with_reducible exact H2_) | (have H2_ := (Option.bind_some _ _).symm.trans H; with_reducible exact H2_) | with_reducible exact H | (rw [hy258]; exact H) | exact H
 have Ny258 := Aside0.mk hy258
 clear hy258
 replace H := Option.bind_eq_some_iff.mp H
 obtain ⟨⟨t261, t262, t263⟩, A40, H⟩ := H
 replace H : ((words_Right.f (([3] : List Int)) 1).bind fun bt269 => ((words_Inverse.f 3).bind fun bt274 => ((words_Reciprocal.f 9223372036854775808).bind fun bt276 => (if t236 = 0 then ((reckonerlaw01_same.f k t234 (([0] : List Int))).bind fun t281 => (if t281 = true then (if t235 = 1 then (if t247 = 0 then ((reckonerlaw01_same.f k t245 (([18446744073709551615] : List Int))).bind fun t285 => (if t285 = true then (if t246 = 1 then (if t255 = 0 then ((reckonerlaw01_same.f k t253 (([0] : List Int))).bind fun t289 => (if t289 = true then (if t254 = 18446744073709551615 then (if t263 = 0 then ((reckonerlaw01_same.f k t261 (([6148914691236517205] : List Int))).bind fun t293 => (if t293 = true then (if t262 = 1 then (if bt269.2.2 = 0 then ((reckonerlaw01_same.f k bt269.1 (([1] : List Int))).bind fun t297 => (if t297 = true then (if bt269.2.1 = 9223372036854775808 then (if bt274.2 = 0 then (if bt274.1 = 12297829382473034411 then (if bt276.2 = 0 then (some (bt276.1 == 18446744073709551615)) else (none)) else (none)) else (none)) else (none)) else (none))) else (none)) else (none)) else (none))) else (none)) else (none)) else (none))) else (none)) else (none)) else (none))) else (none)) else (none)) else (none))) else (none))))) = some r := H
 have A4 := Aside0.mk A40
 clear A40
 obtain ⟨y266, hy266⟩ : ∃ y_ : List Int, y_ = (([3] : List Int)) := ⟨_, rfl⟩
 replace H : ((words_Right.f y266 1).bind fun bt269 => ((words_Inverse.f 3).bind fun bt274 => ((words_Reciprocal.f 9223372036854775808).bind fun bt276 => (if t236 = 0 then ((reckonerlaw01_same.f k t234 (([0] : List Int))).bind fun t281 => (if t281 = true then (if t235 = 1 then (if t247 = 0 then ((reckonerlaw01_same.f k t245 (([18446744073709551615] : List Int))).bind fun t285 => (if t285 = true then (if t246 = 1 then (if t255 = 0 then ((reckonerlaw01_same.f k t253 (([0] : List Int))).bind fun t289 => (if t289 = true then (if t254 = 18446744073709551615 then (if t263 = 0 then ((reckonerlaw01_same.f k t261 (([6148914691236517205] : List Int))).bind fun t293 => (if t293 = true then (if t262 = 1 then (if bt269.2.2 = 0 then ((reckonerlaw01_same.f k bt269.1 (([1] : List Int))).bind fun t297 => (if t297 = true then (if bt269.2.1 = 9223372036854775808 then (if bt274.2 = 0 then (if bt274.1 = 12297829382473034411 then (if bt276.2 = 0 then (some (bt276.1 == 18446744073709551615)) else (none)) else (none)) else (none)) else (none)) else (none))) else (none)) else (none)) else (none))) else (none)) else (none)) else (none))) else (none)) else (none)) else (none))) else (none)) else (none)) else (none))) else (none))))) = some r := by first | (rw [hy266]; with_reducible exact H) | (have H2_ := (Option.bind_some _ _).symm.trans H; rw [hy266]; with_reducible exact H2_) | (have H2_ := (Option.bind_some _ _).symm.trans H; with_reducible exact H2_) | with_reducible exact H | (rw [hy266]; exact H) | exact H
 have Ny266 := Aside0.mk hy266
 clear hy266
 replace H := Option.bind_eq_some_iff.mp H
 obtain ⟨⟨t269, t270, t271⟩, A50, H⟩ := H
 replace H : ((words_Inverse.f 3).bind fun bt274 => ((words_Reciprocal.f 9223372036854775808).bind fun bt276 => (if t236 = 0 then ((reckonerlaw01_same.f k t234 (([0] : List Int))).bind fun t281 => (if t281 = true then (if t235 = 1 then (if t247 = 0 then ((reckonerlaw01_same.f k t245 (([18446744073709551615] : List Int))).bind fun t285 => (if t285 = true then (if t246 = 1 then (if t255 = 0 then ((reckonerlaw01_same.f k t253 (([0] : List Int))).bind fun t289 => (if t289 = true then (if t254 = 18446744073709551615 then (if t263 = 0 then ((reckonerlaw01_same.f k t261 (([6148914691236517205] : List Int))).bind fun t293 => (if t293 = true then (if t262 = 1 then (if t271 = 0 then ((reckonerlaw01_same.f k t269 (([1] : List Int))).bind fun t297 => (if t297 = true then (if t270 = 9223372036854775808 then (if bt274.2 = 0 then (if bt274.1 = 12297829382473034411 then (if bt276.2 = 0 then (some (bt276.1 == 18446744073709551615)) else (none)) else (none)) else (none)) else (none)) else (none))) else (none)) else (none)) else (none))) else (none)) else (none)) else (none))) else (none)) else (none)) else (none))) else (none)) else (none)) else (none))) else (none)))) = some r := H
 have A5 := Aside0.mk A50
 clear A50
 replace H := Option.bind_eq_some_iff.mp H
 obtain ⟨⟨t274, t275⟩, A60, H⟩ := H
 replace H : ((words_Reciprocal.f 9223372036854775808).bind fun bt276 => (if t236 = 0 then ((reckonerlaw01_same.f k t234 (([0] : List Int))).bind fun t281 => (if t281 = true then (if t235 = 1 then (if t247 = 0 then ((reckonerlaw01_same.f k t245 (([18446744073709551615] : List Int))).bind fun t285 => (if t285 = true then (if t246 = 1 then (if t255 = 0 then ((reckonerlaw01_same.f k t253 (([0] : List Int))).bind fun t289 => (if t289 = true then (if t254 = 18446744073709551615 then (if t263 = 0 then ((reckonerlaw01_same.f k t261 (([6148914691236517205] : List Int))).bind fun t293 => (if t293 = true then (if t262 = 1 then (if t271 = 0 then ((reckonerlaw01_same.f k t269 (([1] : List Int))).bind fun t297 => (if t297 = true then (if t270 = 9223372036854775808 then (if t275 = 0 then (if t274 = 12297829382473034411 then (if bt276.2 = 0 then (some (bt276.1 == 18446744073709551615)) else (none)) else (none)) else (none)) else (none)) else (none))) else (none)) else (none)) else (none))) else (none)) else (none)) else (none))) else (none)) else (none)) else (none))) else (none)) else (none)) else (none))) else (none))) = some r := H
 have A6 := Aside0.mk A60
 clear A60
 replace H := Option.bind_eq_some_iff.mp H
 obtain ⟨⟨t276, t277⟩, A70, H⟩ := H
 replace H : (if t236 = 0 then ((reckonerlaw01_same.f k t234 (([0] : List Int))).bind fun t281 => (if t281 = true then (if t235 = 1 then (if t247 = 0 then ((reckonerlaw01_same.f k t245 (([18446744073709551615] : List Int))).bind fun t285 => (if t285 = true then (if t246 = 1 then (if t255 = 0 then ((reckonerlaw01_same.f k t253 (([0] : List Int))).bind fun t289 => (if t289 = true then (if t254 = 18446744073709551615 then (if t263 = 0 then ((reckonerlaw01_same.f k t261 (([6148914691236517205] : List Int))).bind fun t293 => (if t293 = true then (if t262 = 1 then (if t271 = 0 then ((reckonerlaw01_same.f k t269 (([1] : List Int))).bind fun t297 => (if t297 = true then (if t270 = 9223372036854775808 then (if t275 = 0 then (if t274 = 12297829382473034411 then (if t277 = 0 then (some (t276 == 18446744073709551615)) else (none)) else (none)) else (none)) else (none)) else (none))) else (none)) else (none)) else (none))) else (none)) else (none)) else (none))) else (none)) else (none)) else (none))) else (none)) else (none)) else (none))) else (none)) = some r := H
 have A7 := Aside0.mk A70
 clear A70
 by_cases c8 : t236 = 0
 ·rw [if_pos c8] at H
  have c8b0 : (t236 == 0) = true := beq_iff_eq.mpr c8
  have c8b1 : (t236 != 0) = false := bne_eq_false_iff_eq.mpr c8
  clear c8
  obtain ⟨y278, hy278⟩ : ∃ y_ : List Int, y_ = (([0] : List Int)) := ⟨_, rfl⟩
  replace H : ((reckonerlaw01_same.f k t234 y278).bind fun t281 => (if t281 = true then (if t235 = 1 then (if t247 = 0 then ((reckonerlaw01_same.f k t245 (([18446744073709551615] : List Int))).bind fun t285 => (if t285 = true then (if t246 = 1 then (if t255 = 0 then ((reckonerlaw01_same.f k t253 (([0] : List Int))).bind fun t289 => (if t289 = true then (if t254 = 18446744073709551615 then (if t263 = 0 then ((reckonerlaw01_same.f k t261 (([6148914691236517205] : List Int))).bind fun t293 => (if t293 = true then (if t262 = 1 then (if t271 = 0 then ((reckonerlaw01_same.f k t269 (([1] : List Int))).bind fun t297 => (if t297 = true then (if t270 = 9223372036854775808 then (if t275 = 0 then (if t274 = 12297829382473034411 then (if t277 = 0 then (some (t276 == 18446744073709551615)) else (none)) else (none)) else (none)) else (none)) else (none))) else (none)) else (none)) else (none))) else (none)) else (none)) else (none))) else (none)) else (none)) else (none))) else (none)) else (none)) else (none))) = some r := by first | (rw [hy278]; with_reducible exact H) | (have H2_ := (Option.bind_some _ _).symm.trans H; rw [hy278]; with_reducible exact H2_) | (have H2_ := (Option.bind_some _ _).symm.trans H; with_reducible exact H2_) | with_reducible exact H | (rw [hy278]; exact H) | exact H
  have Ny278 := Aside0.mk hy278
  clear hy278
  replace H := Option.bind_eq_some_iff.mp H
  obtain ⟨t281, A90, H⟩ := H
  replace H : (if t281 = true then (if t235 = 1 then (if t247 = 0 then ((reckonerlaw01_same.f k t245 (([18446744073709551615] : List Int))).bind fun t285 => (if t285 = true then (if t246 = 1 then (if t255 = 0 then ((reckonerlaw01_same.f k t253 (([0] : List Int))).bind fun t289 => (if t289 = true then (if t254 = 18446744073709551615 then (if t263 = 0 then ((reckonerlaw01_same.f k t261 (([6148914691236517205] : List Int))).bind fun t293 => (if t293 = true then (if t262 = 1 then (if t271 = 0 then ((reckonerlaw01_same.f k t269 (([1] : List Int))).bind fun t297 => (if t297 = true then (if t270 = 9223372036854775808 then (if t275 = 0 then (if t274 = 12297829382473034411 then (if t277 = 0 then (some (t276 == 18446744073709551615)) else (none)) else (none)) else (none)) else (none)) else (none))) else (none)) else (none)) else (none))) else (none)) else (none)) else (none))) else (none)) else (none)) else (none))) else (none)) else (none)) else (none)) = some r := H
  have A9 := Aside0.mk A90
  clear A90
  by_cases c10 : t281 = true
  ·subst c10
   have H1 : (if t235 = 1 then (if t247 = 0 then ((reckonerlaw01_same.f k t245 (([18446744073709551615] : List Int))).bind fun t285 => (if t285 = true then (if t246 = 1 then (if t255 = 0 then ((reckonerlaw01_same.f k t253 (([0] : List Int))).bind fun t289 => (if t289 = true then (if t254 = 18446744073709551615 then (if t263 = 0 then ((reckonerlaw01_same.f k t261 (([6148914691236517205] : List Int))).bind fun t293 => (if t293 = true then (if t262 = 1 then (if t271 = 0 then ((reckonerlaw01_same.f k t269 (([1] : List Int))).bind fun t297 => (if t297 = true then (if t270 = 9223372036854775808 then (if t275 = 0 then (if t274 = 12297829382473034411 then (if t277 = 0 then (some (t276 == 18446744073709551615)) else (none)) else (none)) else (none)) else (none)) else (none))) else (none)) else (none)) else (none))) else (none)) else (none)) else (none))) else (none)) else (none)) else (none))) else (none)) else (none)) = some r := by rw [if_pos rfl] at H; exact H
   clear H
   have H := H1
   clear H1
   by_cases c11 : t235 = 1
   ·rw [if_pos c11] at H
    have c11b0 : (t235 == 1) = true := beq_iff_eq.mpr c11
    have c11b1 : (t235 != 1) = false := bne_eq_false_iff_eq.mpr c11
    clear c11
    by_cases c12 : t247 = 0
    ·rw [if_pos c12] at H
     have c12b0 : (t247 == 0) = true := beq_iff_eq.mpr c12
     have c12b1 : (t247 != 0) = false := bne_eq_false_iff_eq.mpr c12
     clear c12
     obtain ⟨y282, hy282⟩ : ∃ y_ : List Int, y_ = (([18446744073709551615] : List Int)) := ⟨_, rfl⟩
     replace H : ((reckonerlaw01_same.f k t245 y282).bind fun t285 => (if t285 = true then (if t246 = 1 then (if t255 = 0 then ((reckonerlaw01_same.f k t253 (([0] : List Int))).bind fun t289 => (if t289 = true then (if t254 = 18446744073709551615 then (if t263 = 0 then ((reckonerlaw01_same.f k t261 (([6148914691236517205] : List Int))).bind fun t293 => (if t293 = true then (if t262 = 1 then (if t271 = 0 then ((reckonerlaw01_same.f k t269 (([1] : List Int))).bind fun t297 => (if t297 = true then (if t270 = 9223372036854775808 then (if t275 = 0 then (if t274 = 12297829382473034411 then (if t277 = 0 then (some (t276 == 18446744073709551615)) else (none)) else (none)) else (none)) else (none)) else (none))) else (none)) else (none)) else (none))) else (none)) else (none)) else (none))) else (none)) else (none)) else (none))) = some r := by first | (rw [hy282]; with_reducible exact H) | (have H2_ := (Option.bind_some _ _).symm.trans H; rw [hy282]; with_reducible exact H2_) | (have H2_ := (Option.bind_some _ _).symm.trans H; with_reducible exact H2_) | with_reducible exact H | (rw [hy282]; exact H) | exact H
     have Ny282 := Aside0.mk hy282
     clear hy282
     replace H := Option.bind_eq_some_iff.mp H
     obtain ⟨t285, A130, H⟩ := H
     replace H : (if t285 = true then (if t246 = 1 then (if t255 = 0 then ((reckonerlaw01_same.f k t253 (([0] : List Int))).bind fun t289 => (if t289 = true then (if t254 = 18446744073709551615 then (if t263 = 0 then ((reckonerlaw01_same.f k t261 (([6148914691236517205] : List Int))).bind fun t293 => (if t293 = true then (if t262 = 1 then (if t271 = 0 then ((reckonerlaw01_same.f k t269 (([1] : List Int))).bind fun t297 => (if t297 = true then (if t270 = 9223372036854775808 then (if t275 = 0 then (if t274 = 12297829382473034411 then (if t277 = 0 then (some (t276 == 18446744073709551615)) else (none)) else (none)) else (none)) else (none)) else (none))) else (none)) else (none)) else (none))) else (none)) else (none)) else (none))) else (none)) else (none)) else (none)) = some r := H
     have A13 := Aside0.mk A130
     clear A130
     by_cases c14 : t285 = true
     ·subst c14
      have H1 : (if t246 = 1 then (if t255 = 0 then ((reckonerlaw01_same.f k t253 (([0] : List Int))).bind fun t289 => (if t289 = true then (if t254 = 18446744073709551615 then (if t263 = 0 then ((reckonerlaw01_same.f k t261 (([6148914691236517205] : List Int))).bind fun t293 => (if t293 = true then (if t262 = 1 then (if t271 = 0 then ((reckonerlaw01_same.f k t269 (([1] : List Int))).bind fun t297 => (if t297 = true then (if t270 = 9223372036854775808 then (if t275 = 0 then (if t274 = 12297829382473034411 then (if t277 = 0 then (some (t276 == 18446744073709551615)) else (none)) else (none)) else (none)) else (none)) else (none))) else (none)) else (none)) else (none))) else (none)) else (none)) else (none))) else (none)) else (none)) = some r := by rw [if_pos rfl] at H; exact H
      clear H
      have H := H1
      clear H1
      by_cases c15 : t246 = 1
      ·rw [if_pos c15] at H
       have c15b0 : (t246 == 1) = true := beq_iff_eq.mpr c15
       have c15b1 : (t246 != 1) = false := bne_eq_false_iff_eq.mpr c15
       clear c15
       by_cases c16 : t255 = 0
       ·rw [if_pos c16] at H
        have c16b0 : (t255 == 0) = true := beq_iff_eq.mpr c16
        have c16b1 : (t255 != 0) = false := bne_eq_false_iff_eq.mpr c16
        clear c16
        obtain ⟨y286, hy286⟩ : ∃ y_ : List Int, y_ = (([0] : List Int)) := ⟨_, rfl⟩
        replace H : ((reckonerlaw01_same.f k t253 y286).bind fun t289 => (if t289 = true then (if t254 = 18446744073709551615 then (if t263 = 0 then ((reckonerlaw01_same.f k t261 (([6148914691236517205] : List Int))).bind fun t293 => (if t293 = true then (if t262 = 1 then (if t271 = 0 then ((reckonerlaw01_same.f k t269 (([1] : List Int))).bind fun t297 => (if t297 = true then (if t270 = 9223372036854775808 then (if t275 = 0 then (if t274 = 12297829382473034411 then (if t277 = 0 then (some (t276 == 18446744073709551615)) else (none)) else (none)) else (none)) else (none)) else (none))) else (none)) else (none)) else (none))) else (none)) else (none)) else (none))) = some r := by first | (rw [hy286]; with_reducible exact H) | (have H2_ := (Option.bind_some _ _).symm.trans H; rw [hy286]; with_reducible exact H2_) | (have H2_ := (Option.bind_some _ _).symm.trans H; with_reducible exact H2_) | with_reducible exact H | (rw [hy286]; exact H) | exact H
        have Ny286 := Aside0.mk hy286
        clear hy286
        replace H := Option.bind_eq_some_iff.mp H
        obtain ⟨t289, A170, H⟩ := H
        replace H : (if t289 = true then (if t254 = 18446744073709551615 then (if t263 = 0 then ((reckonerlaw01_same.f k t261 (([6148914691236517205] : List Int))).bind fun t293 => (if t293 = true then (if t262 = 1 then (if t271 = 0 then ((reckonerlaw01_same.f k t269 (([1] : List Int))).bind fun t297 => (if t297 = true then (if t270 = 9223372036854775808 then (if t275 = 0 then (if t274 = 12297829382473034411 then (if t277 = 0 then (some (t276 == 18446744073709551615)) else (none)) else (none)) else (none)) else (none)) else (none))) else (none)) else (none)) else (none))) else (none)) else (none)) else (none)) = some r := H
        have A17 := Aside0.mk A170
        clear A170
        by_cases c18 : t289 = true
        ·subst c18
         have H1 : (if t254 = 18446744073709551615 then (if t263 = 0 then ((reckonerlaw01_same.f k t261 (([6148914691236517205] : List Int))).bind fun t293 => (if t293 = true then (if t262 = 1 then (if t271 = 0 then ((reckonerlaw01_same.f k t269 (([1] : List Int))).bind fun t297 => (if t297 = true then (if t270 = 9223372036854775808 then (if t275 = 0 then (if t274 = 12297829382473034411 then (if t277 = 0 then (some (t276 == 18446744073709551615)) else (none)) else (none)) else (none)) else (none)) else (none))) else (none)) else (none)) else (none))) else (none)) else (none)) = some r := by rw [if_pos rfl] at H; exact H
         clear H
         have H := H1
         clear H1
         by_cases c19 : t254 = 18446744073709551615
         ·rw [if_pos c19] at H
          have c19b0 : (t254 == 18446744073709551615) = true := beq_iff_eq.mpr c19
          have c19b1 : (t254 != 18446744073709551615) = false := bne_eq_false_iff_eq.mpr c19
          clear c19
          by_cases c20 : t263 = 0
          ·rw [if_pos c20] at H
           have c20b0 : (t263 == 0) = true := beq_iff_eq.mpr c20
           have c20b1 : (t263 != 0) = false := bne_eq_false_iff_eq.mpr c20
           clear c20
           obtain ⟨y290, hy290⟩ : ∃ y_ : List Int, y_ = (([6148914691236517205] : List Int)) := ⟨_, rfl⟩
           replace H : ((reckonerlaw01_same.f k t261 y290).bind fun t293 => (if t293 = true then (if t262 = 1 then (if t271 = 0 then ((reckonerlaw01_same.f k t269 (([1] : List Int))).bind fun t297 => (if t297 = true then (if t270 = 9223372036854775808 then (if t275 = 0 then (if t274 = 12297829382473034411 then (if t277 = 0 then (some (t276 == 18446744073709551615)) else (none)) else (none)) else (none)) else (none)) else (none))) else (none)) else (none)) else (none))) = some r := by first | (rw [hy290]; with_reducible exact H) | (have H2_ := (Option.bind_some _ _).symm.trans H; rw [hy290]; with_reducible exact H2_) | (have H2_ := (Option.bind_some _ _).symm.trans H; with_reducible exact H2_) | with_reducible exact H | (rw [hy290]; exact H) | exact H
           have Ny290 := Aside0.mk hy290
           clear hy290
           replace H := Option.bind_eq_some_iff.mp H
           obtain ⟨t293, A210, H⟩ := H
           replace H : (if t293 = true then (if t262 = 1 then (if t271 = 0 then ((reckonerlaw01_same.f k t269 (([1] : List Int))).bind fun t297 => (if t297 = true then (if t270 = 9223372036854775808 then (if t275 = 0 then (if t274 = 12297829382473034411 then (if t277 = 0 then (some (t276 == 18446744073709551615)) else (none)) else (none)) else (none)) else (none)) else (none))) else (none)) else (none)) else (none)) = some r := H
           have A21 := Aside0.mk A210
           clear A210
           by_cases c22 : t293 = true
           ·subst c22
            have H1 : (if t262 = 1 then (if t271 = 0 then ((reckonerlaw01_same.f k t269 (([1] : List Int))).bind fun t297 => (if t297 = true then (if t270 = 9223372036854775808 then (if t275 = 0 then (if t274 = 12297829382473034411 then (if t277 = 0 then (some (t276 == 18446744073709551615)) else (none)) else (none)) else (none)) else (none)) else (none))) else (none)) else (none)) = some r := by rw [if_pos rfl] at H; exact H
            clear H
            have H := H1
            clear H1
            by_cases c23 : t262 = 1
            ·rw [if_pos c23] at H
             have c23b0 : (t262 == 1) = true := beq_iff_eq.mpr c23
             have c23b1 : (t262 != 1) = false := bne_eq_false_iff_eq.mpr c23
             clear c23
             by_cases c24 : t271 = 0
             ·rw [if_pos c24] at H
              have c24b0 : (t271 == 0) = true := beq_iff_eq.mpr c24
              have c24b1 : (t271 != 0) = false := bne_eq_false_iff_eq.mpr c24
              clear c24
              obtain ⟨y294, hy294⟩ : ∃ y_ : List Int, y_ = (([1] : List Int)) := ⟨_, rfl⟩
              replace H : ((reckonerlaw01_same.f k t269 y294).bind fun t297 => (if t297 = true then (if t270 = 9223372036854775808 then (if t275 = 0 then (if t274 = 12297829382473034411 then (if t277 = 0 then (some (t276 == 18446744073709551615)) else (none)) else (none)) else (none)) else (none)) else (none))) = some r := by first | (rw [hy294]; with_reducible exact H) | (have H2_ := (Option.bind_some _ _).symm.trans H; rw [hy294]; with_reducible exact H2_) | (have H2_ := (Option.bind_some _ _).symm.trans H; with_reducible exact H2_) | with_reducible exact H | (rw [hy294]; exact H) | exact H
              have Ny294 := Aside0.mk hy294
              clear hy294
              replace H := Option.bind_eq_some_iff.mp H
              obtain ⟨t297, A250, H⟩ := H
              replace H : (if t297 = true then (if t270 = 9223372036854775808 then (if t275 = 0 then (if t274 = 12297829382473034411 then (if t277 = 0 then (some (t276 == 18446744073709551615)) else (none)) else (none)) else (none)) else (none)) else (none)) = some r := H
              have A25 := Aside0.mk A250
              clear A250
              by_cases c26 : t297 = true
              ·subst c26
               have H1 : (if t270 = 9223372036854775808 then (if t275 = 0 then (if t274 = 12297829382473034411 then (if t277 = 0 then (some (t276 == 18446744073709551615)) else (none)) else (none)) else (none)) else (none)) = some r := by rw [if_pos rfl] at H; exact H
               clear H
               have H := H1
               clear H1
               by_cases c27 : t270 = 9223372036854775808
               ·rw [if_pos c27] at H
                have c27b0 : (t270 == 9223372036854775808) = true := beq_iff_eq.mpr c27
                have c27b1 : (t270 != 9223372036854775808) = false := bne_eq_false_iff_eq.mpr c27
                clear c27
                by_cases c28 : t275 = 0
                ·rw [if_pos c28] at H
                 have c28b0 : (t275 == 0) = true := beq_iff_eq.mpr c28
                 have c28b1 : (t275 != 0) = false := bne_eq_false_iff_eq.mpr c28
                 clear c28
                 by_cases c29 : t274 = 12297829382473034411
                 ·rw [if_pos c29] at H
                  have c29b0 : (t274 == 12297829382473034411) = true := beq_iff_eq.mpr c29
                  have c29b1 : (t274 != 12297829382473034411) = false := bne_eq_false_iff_eq.mpr c29
                  clear c29
                  by_cases c30 : t277 = 0
                  ·rw [if_pos c30] at H
                   have c30b0 : (t277 == 0) = true := beq_iff_eq.mpr c30
                   have c30b1 : (t277 != 0) = false := bne_eq_false_iff_eq.mpr c30
                   clear c30
                   obtain rfl := Option.some.inj H
                   go_enter Tryd.func19, Tryd.ntmps19
                   try simp only [List.append]
                   go_wp2_with (first | ((with_reducible refine gate_dst (N := 21) rfl ?_); (try (refine gate_guard (by rfl) ?_; dsimp only)); refine Kd.R_lit (Kd.int .u64) _ 23 ?hg (N := 21) ?hd (xs := ([18446744073709551615] : List Int)) (inner := [.int .u64 18446744073709551615]) (ok := fun _ => True) (okp := fun _ => True) ?hr ?hp (fun _ hk => hk) trivial (Below.refl _ _) (Nat.le_refl _) (by simp) ?_; (case hd => rfl); (case hg => rfl); (case hr => first | (go_simp; done) | (go_simp; rfl)); (case hp => exact (Reps.one (show Kd.M (Kd.int .u64) _ _ _ 18446744073709551615 [.int .u64 18446744073709551615] from rfl) (Reps.none _ _))); intro v229 w31 ho32 hb hg_ hnew_; clear hg_ hnew_; (first | rw [← Ny228.out] at ho32 | (simp only [Int.reduceToNat] at ho32; rw [← Ny228.out] at ho32)); have n0_ := Aside0.mk (Kd.R_lower ho32 (below_size (by repeat (first | (with_reducible first | exact HB.out | apply below_alloc | apply pw_below_drewN | apply below_drew1) | exact HB.out)))); have n1_ := Aside0.mk (below_step (by repeat (first | (with_reducible first | exact HB.out | apply below_alloc | apply pw_below_drewN | apply below_drew1) | exact HB.out)) hb); clear HB; have HO230 := n0_; have HB := n1_; clear n0_ n1_; clear hb ho32) | ((with_reducible refine gate_dst (N := 22) rfl ?_); (try (refine gate_guard (by rfl) ?_; dsimp only)); refine Kd.R_lit (Kd.int .u64) _ 23 ?hg (N := 22) ?hd (xs := ([1] : List Int)) (inner := [.int .u64 1]) (ok := fun _ => True) (okp := fun _ => True) ?hr ?hp (fun _ hk => hk) trivial (Below.refl _ _) (Nat.le_refl _) (by simp) ?_; (case hd => rfl); (case hg => rfl); (case hr => first | (go_simp; done) | (go_simp; rfl)); (case hp => exact (Reps.one (show Kd.M (Kd.int .u64) _ _ _ 1 [.int .u64 1] from rfl) (Reps.none _ _))); intro v232 w33 ho34 hb hg_ hnew_; clear hg_ hnew_; (first | rw [← Ny231.out] at ho34 | (simp only [Int.reduceToNat] at ho34; rw [← Ny231.out] at ho34)); have n0_ := Aside0.mk (Kd.R_elder' (by (with_reducible repeat (first | apply Kd.R_alloc | apply Kd.R_drewN | apply Kd.R_drew)); exact HO230.out) (Kd.R_base ho34) hb); have n1_ := Aside0.mk (Kd.R_lower (Kd.R_new' ho34 (Kd.R_lt (by (with_reducible repeat (first | apply Kd.R_alloc | apply Kd.R_drewN | apply Kd.R_drew)); exact HO230.out))) (below_size (by repeat (first | (with_reducible first | exact HB.out | apply below_alloc | apply pw_below_drewN | apply below_drew1) | exact HB.out)))); have n2_ := Aside0.mk (below_step (by repeat (first | (with_reducible first | exact HB.out | apply below_alloc | apply pw_below_drewN | apply below_drew1) | exact HB.out)) hb); clear HO230; clear HB; have HO230 := n0_; have HO233 := n1_; have HB := n2_; clear n0_ n1_ n2_; clear hb ho34; obtain ⟨Ao35, co35, eo35⟩ := Kd.R_slice HO230.out; subst eo35; obtain ⟨Ao36, co36, eo36⟩ := Kd.R_slice HO233.out; subst eo36) | ((with_reducible refine gate_callee (f := 13) rfl ?_); refine goesL_ (some 23) rfl rfl Tryd.func13 (by kernel_rfl) rfl #[.slice Ao35 y228.length co35, .slice Ao36 y231.length co36, .int .u64 0] rfl (by (try simp only [List.map_toArray, List.map_cons, List.map_nil]); first | done | rfl | (simp only [List.length_drop, List.length_take]; rfl)) ?_; (with_reducible refine (words_Add.calls _ _ y228 _ _ y231 0 t234 t235 t236 _ ?side1 ?side2 ?side3 ?side4 A1.out).mono ?_); (case side1 => repeat (first | exact (Kd.R_reads' HO230.out).2.2 | (with_reducible refine Kd.C_alloc ?_ _) | (with_reducible refine Kd.C_drewN ?_ _) | (with_reducible refine Kd.C_drew ?_))); (case side2 => exact (Kd.R_reads' HO230.out).2.1); (case side3 => repeat (first | exact (Kd.R_reads' HO233.out).2.2 | (with_reducible refine Kd.C_alloc ?_ _) | (with_reducible refine Kd.C_drewN ?_ _) | (with_reducible refine Kd.C_drew ?_))); (case side4 => exact (Kd.R_reads' HO233.out).2.1); rintro e w37 ⟨v237, rfl, ho0, hb⟩; refine ⟨_, rfl, ?_⟩; have n0_ := Aside0.mk (Kd.R_elder' (by (with_reducible repeat (first | apply Kd.R_alloc | apply Kd.R_drewN | apply Kd.R_drew)); exact HO230.out) (Kd.R_base ho0) hb); have n1_ := Aside0.mk (Kd.R_elder' (by (with_reducible repeat (first | apply Kd.R_alloc | apply Kd.R_drewN | apply Kd.R_drew)); exact HO233.out) (Kd.R_base ho0) hb); have n2_ := Aside0.mk (Kd.R_lower (Kd.R_new' (Kd.R_new' ho0 (Kd.R_lt (by (with_reducible repeat (first | apply Kd.R_alloc | apply Kd.R_drewN | apply Kd.R_drew)); exact HO230.out))) (Kd.R_lt (by (with_reducible repeat (first | apply Kd.R_alloc | apply Kd.R_drewN | apply Kd.R_drew)); exact HO233.out))) (below_size (by repeat (first | (with_reducible first | exact HB.out | apply below_alloc | apply pw_below_drewN | apply below_drew1) | exact HB.out)))); have n3_ := Aside0.mk (below_step (by repeat (first | (with_reducible first | exact HB.out | apply below_alloc | apply pw_below_drewN | apply below_drew1) | exact HB.out)) hb); clear HO230; clear HO233; clear HB; have HO230 := n0_; have HO233 := n1_; have HO238 := n2_; have HB := n3_; clear n0_ n1_ n2_ n3_; (try clear hb); (try clear hb2); (try clear hk); (try clear hi); (try clear ho0)) | ((with_reducible refine gate_dst (N := 28) rfl ?_); (try (refine gate_guard (by rfl) ?_; dsimp only)); refine Kd.R_lit (Kd.int .u64) _ 23 ?hg (N := 28) ?hd (xs := ([0] : List Int)) (inner := [.int .u64 0]) (ok := fun _ => True) (okp := fun _ => True) ?hr ?hp (fun _ hk => hk) trivial (Below.refl _ _) (Nat.le_refl _) (by simp) ?_; (case hd => rfl); (case hg => rfl); (case hr => first | (go_simp; done) | (go_simp; rfl)); (case hp => exact (Reps.one (show Kd.M (Kd.int .u64) _ _ _ 0 [.int .u64 0] from rfl) (Reps.none _ _))); intro v240 w38 ho39 hb hg_ hnew_; clear hg_ hnew_; (first | rw [← Ny239.out] at ho39 | (simp only [Int.reduceToNat] at ho39; rw [← Ny239.out] at ho39)); have n0_ := Aside0.mk (Kd.R_elder' (by (with_reducible repeat (first | apply Kd.R_alloc | apply Kd.R_drewN | apply Kd.R_drew)); exact HO230.out) (Kd.R_base ho39) hb); have n1_ := Aside0.mk (Kd.R_elder' (by (with_reducible repeat (first | apply Kd.R_alloc | apply Kd.R_drewN | apply Kd.R_drew)); exact HO233.out) (Kd.R_base ho39) hb); have n2_ := Aside0.mk (Kd.R_elder' (by (with_reducible repeat (first | apply Kd.R_alloc | apply Kd.R_drewN | apply Kd.R_drew)); exact HO238.out) (Kd.R_base ho39) hb); have n3_ := Aside0.mk (Kd.R_lower (Kd.R_new' (Kd.R_new' (Kd.R_new' ho39 (Kd.R_lt (by (with_reducible repeat (first | apply Kd.R_alloc | apply Kd.R_drewN | apply Kd.R_drew)); exact HO230.out))) (Kd.R_lt (by (with_reducible repeat (first | apply Kd.R_alloc | apply Kd.R_drewN | apply Kd.R_drew)); exact HO233.out))) (Kd.R_lt (by (with_reducible repeat (first | apply Kd.R_alloc | apply Kd.R_drewN | apply Kd.R_drew)); exact HO238.out))) (below_size (by repeat (first | (with_reducible first | exact HB.out | apply below_alloc | apply pw_below_drewN | apply below_drew1) | exact HB.out)))); have n4_ := Aside0.mk (below_step (by repeat (first | (with_reducible first | exact HB.out | apply below_alloc | apply pw_below_drewN | apply below_drew1) | exact HB.out)) hb); clear HO230; clear HO233; clear HO238; clear HB; have HO230 := n0_; have HO233 := n1_; have HO238 := n2_; have HO241 := n3_; have HB := n4_; clear n0_ n1_ n2_ n3_ n4_; clear hb ho39) | ((with_reducible refine gate_dst (N := 29) rfl ?_); (try (refine gate_guard (by rfl) ?_; dsimp only)); refine Kd.R_lit (Kd.int .u64) _ 23 ?hg (N := 29) ?hd (xs := ([1] : List Int)) (inner := [.int .u64 1]) (ok := fun _ => True) (okp := fun _ => True) ?hr ?hp (fun _ hk => hk) trivial (Below.refl _ _) (Nat.le_refl _) (by simp) ?_; (case hd => rfl); (case hg => rfl); (case hr => first | (go_simp; done) | (go_simp; rfl)); (case hp => exact (Reps.one (show Kd.M (Kd.int .u64) _ _ _ 1 [.int .u64 1] from rfl) (Reps.none _ _))); intro v243 w40 ho41 hb hg_ hnew_; clear hg_ hnew_; (first | rw [← Ny242.out] at ho41 | (simp only [Int.reduceToNat] at ho41; rw [← Ny242.out] at ho41)); have n0_ := Aside0.mk (Kd.R_elder' (by (with_reducible repeat (first | apply Kd.R_alloc | apply Kd.R_drewN | apply Kd.R_drew)); exact HO230.out) (Kd.R_base ho41) hb); have n1_ := Aside0.mk (Kd.R_elder' (by (with_reducible repeat (first | apply Kd.R_alloc | apply Kd.R_drewN | apply Kd.R_drew)); exact HO233.out) (Kd.R_base ho41) hb); have n2_ := Aside0.mk (Kd.R_elder' (by (with_reducible repeat (first | apply Kd.R_alloc | apply Kd.R_drewN | apply Kd.R_drew)); exact HO238.out) (Kd.R_base ho41) hb); have n3_ := Aside0.mk (Kd.R_elder' (by (with_reducible repeat (first | apply Kd.R_alloc | apply Kd.R_drewN | apply Kd.R_drew)); exact HO241.out) (Kd.R_base ho41) hb); have n4_ := Aside0.mk (Kd.R_lower (Kd.R_new' (Kd.R_new' (Kd.R_new' (Kd.R_new' ho41 (Kd.R_lt (by (with_reducible repeat (first | apply Kd.R_alloc | apply Kd.R_drewN | apply Kd.R_drew)); exact HO230.out))) (Kd.R_lt (by (with_reducible repeat (first | apply Kd.R_alloc | apply Kd.R_drewN | apply Kd.R_drew)); exact HO233.out))) (Kd.R_lt (by (with_reducible repeat (first | apply Kd.R_alloc | apply Kd.R_drewN | apply Kd.R_drew)); exact HO238.out))) (Kd.R_lt (by (with_reducible repeat (first | apply Kd.R_alloc | apply Kd.R_drewN | apply Kd.R_drew)); exact HO241.out))) (below_size (by repeat (first | (with_reducible first | exact HB.out | apply below_alloc | apply pw_below_drewN | apply below_drew1) | exact HB.out)))); have n5_ := Aside0.mk (below_step (by repeat (first | (with_reducible first | exact HB.out | apply below_alloc | apply pw_below_drewN | apply below_drew1) | exact HB.out)) hb); clear HO230; clear HO233; clear HO238; clear HO241; clear HB; have HO230 := n0_; have HO233 := n1_; have HO238 := n2_; have HO241 := n3_; have HO244 := n4_; have HB := n5_; clear n0_ n1_ n2_ n3_ n4_ n5_; clear hb ho41; obtain ⟨Ao42, co42, eo42⟩ := Kd.R_slice HO241.out; subst eo42; obtain ⟨Ao43, co43, eo43⟩ := Kd.R_slice HO244.out; subst eo43) | ((with_reducible refine gate_callee (f := 14) rfl ?_); refine goesL_ (some 30) rfl rfl Tryd.func14 (by kernel_rfl) rfl #[.slice Ao42 y239.length co42, .slice Ao43 y242.length co43, .int .u64 0] rfl (by (try simp only [List.map_toArray, List.map_cons, List.map_nil]); first | done | rfl | (simp only [List.length_drop, List.length_take]; rfl)) ?_; (with_reducible refine (words_Sub.calls _ _ y239 _ _ y242 0 t245 t246 t247 _ ?side1 ?side2 ?side3 ?side4 A2.out).mono ?_); (case side1 => repeat (first | exact (Kd.R_reads' HO241.out).2.2 | (with_reducible refine Kd.C_alloc ?_ _) | (with_reducible refine Kd.C_drewN ?_ _) | (with_reducible refine Kd.C_drew ?_))); (case side2 => exact (Kd.R_reads' HO241.out).2.1); (case side3 => repeat (first | exact (Kd.R_reads' HO244.out).2.2 | (with_reducible refine Kd.C_alloc ?_ _) | (with_reducible refine Kd.C_drewN ?_ _) | (with_reducible refine Kd.C_drew ?_))); (case side4 => exact (Kd.R_reads' HO244.out).2.1); rintro e w44 ⟨v248, rfl, ho0, hb⟩; refine ⟨_, rfl, ?_⟩; have n0_ := Aside0.mk (Kd.R_elder' (by (with_reducible repeat (first | apply Kd.R_alloc | apply Kd.R_drewN | apply Kd.R_drew)); exact HO230.out) (Kd.R_base ho0) hb); have n1_ := Aside0.mk (Kd.R_elder' (by (with_reducible repeat (first | apply Kd.R_alloc | apply Kd.R_drewN | apply Kd.R_drew)); exact HO233.out) (Kd.R_base ho0) hb); have n2_ := Aside0.mk (Kd.R_elder' (by (with_reducible repeat (first | apply Kd.R_alloc | apply Kd.R_drewN | apply Kd.R_drew)); exact HO238.out) (Kd.R_base ho0) hb); have n3_ := Aside0.mk (Kd.R_elder' (by (with_reducible repeat (first | apply Kd.R_alloc | apply Kd.R_drewN | apply Kd.R_drew)); exact HO241.out) (Kd.R_base ho0) hb); have n4_ := Aside0.mk (Kd.R_elder' (by (with_reducible repeat (first | apply Kd.R_alloc | apply Kd.R_drewN | apply Kd.R_drew)); exact HO244.out) (Kd.R_base ho0) hb); have n5_ := Aside0.mk (Kd.R_lower (Kd.R_new' (Kd.R_new' (Kd.R_new' (Kd.R_new' (Kd.R_new' ho0 (Kd.R_lt (by (with_reducible repeat (first | apply Kd.R_alloc | apply Kd.R_drewN | apply Kd.R_drew)); exact HO230.out))) (Kd.R_lt (by (with_reducible repeat (first | apply Kd.R_alloc | apply Kd.R_drewN | apply Kd.R_drew)); exact HO233.out))) (Kd.R_lt (by (with_reducible repeat (first | apply Kd.R_alloc | apply Kd.R_drewN | apply Kd.R_drew)); exact HO238.out))) (Kd.R_lt (by (with_reducible repeat (first | apply Kd.R_alloc | apply Kd.R_drewN | apply Kd.R_drew)); exact HO241.out))) (Kd.R_lt (by (with_reducible repeat (first | apply Kd.R_alloc | apply Kd.R_drewN | apply Kd.R_drew)); exact HO244.out))) (below_size (by repeat (first | (with_reducible first | exact HB.out | apply below_alloc | apply pw_below_drewN | apply below_drew1) | exact HB.out)))); have n6_ := Aside0.mk (below_step (by repeat (first | (with_reducible first | exact HB.out | apply below_alloc | apply pw_below_drewN | apply below_drew1) | exact HB.out)) hb); clear HO230; clear HO233; clear HO238; clear HO241; clear HO244; clear HB; have HO230 := n0_; have HO233 := n1_; have HO238 := n2_; have HO241 := n3_; have HO244 := n4_; have HO249 := n5_; have HB := n6_; clear n0_ n1_ n2_ n3_ n4_ n5_ n6_; (try clear hb); (try clear hb2); (try clear hk); (try clear hi); (try clear ho0)) | ((with_reducible refine gate_dst (N := 35) rfl ?_); (try (refine gate_guard (by rfl) ?_; dsimp only)); refine Kd.R_lit (Kd.int .u64) _ 23 ?hg (N := 35) ?hd (xs := ([18446744073709551615] : List Int)) (inner := [.int .u64 18446744073709551615]) (ok := fun _ => True) (okp := fun _ => True) ?hr ?hp (fun _ hk => hk) trivial (Below.refl _ _) (Nat.le_refl _) (by simp) ?_; (case hd => rfl); (case hg => rfl); (case hr => first | (go_simp; done) | (go_simp; rfl)); (case hp => exact (Reps.one (show Kd.M (Kd.int .u64) _ _ _ 18446744073709551615 [.int .u64 18446744073709551615] from rfl) (Reps.none _ _))); intro v251 w45 ho46 hb hg_ hnew_; clear hg_ hnew_; (first | rw [← Ny250.out] at ho46 | (simp only [Int.reduceToNat] at ho46; rw [← Ny250.out] at ho46)); have n0_ := Aside0.mk (Kd.R_elder' (by (with_reducible repeat (first | apply Kd.R_alloc | apply Kd.R_drewN | apply Kd.R_drew)); exact HO230.out) (Kd.R_base ho46) hb); have n1_ := Aside0.mk (Kd.R_elder' (by (with_reducible repeat (first | apply Kd.R_alloc | apply Kd.R_drewN | apply Kd.R_drew)); exact HO233.out) (Kd.R_base ho46) hb); have n2_ := Aside0.mk (Kd.R_elder' (by (with_reducible repeat (first | apply Kd.R_alloc | apply Kd.R_drewN | apply Kd.R_drew)); exact HO238.out) (Kd.R_base ho46) hb); have n3_ := Aside0.mk (Kd.R_elder' (by (with_reducible repeat (first | apply Kd.R_alloc | apply Kd.R_drewN | apply Kd.R_drew)); exact HO241.out) (Kd.R_base ho46) hb); have n4_ := Aside0.mk (Kd.R_elder' (by (with_reducible repeat (first | apply Kd.R_alloc | apply Kd.R_drewN | apply Kd.R_drew)); exact HO244.out) (Kd.R_base ho46) hb); have n5_ := Aside0.mk (Kd.R_elder' (by (with_reducible repeat (first | apply Kd.R_alloc | apply Kd.R_drewN | apply Kd.R_drew)); exact HO249.out) (Kd.R_base ho46) hb); have n6_ := Aside0.mk (Kd.R_lower (Kd.R_new' (Kd.R_new' (Kd.R_new' (Kd.R_new' (Kd.R_new' (Kd.R_new' ho46 (Kd.R_lt (by (with_reducible repeat (first | apply Kd.R_alloc | apply Kd.R_drewN | apply Kd.R_drew)); exact HO230.out))) (Kd.R_lt (by (with_reducible repeat (first | apply Kd.R_alloc | apply Kd.R_drewN | apply Kd.R_drew)); exact HO233.out))) (Kd.R_lt (by (with_reducible repeat (first | apply Kd.R_alloc | apply Kd.R_drewN | apply Kd.R_drew)); exact HO238.out))) (Kd.R_lt (by (with_reducible repeat (first | apply Kd.R_alloc | apply Kd.R_drewN | apply Kd.R_drew)); exact HO241.out))) (Kd.R_lt (by (with_reducible repeat (first | apply Kd.R_alloc | apply Kd.R_drewN | apply Kd.R_drew)); exact HO244.out))) (Kd.R_lt (by (with_reducible repeat (first | apply Kd.R_alloc | apply Kd.R_drewN | apply Kd.R_drew)); exact HO249.out))) (below_size (by repeat (first | (with_reducible first | exact HB.out | apply below_alloc | apply pw_below_drewN | apply below_drew1) | exact HB.out)))); have n7_ := Aside0.mk (below_step (by repeat (first | (with_reducible first | exact HB.out | apply below_alloc | apply pw_below_drewN | apply below_drew1) | exact HB.out)) hb); clear HO230; clear HO233; clear HO238; clear HO241; clear HO244; clear HO249; clear HB; have HO230 := n0_; have HO233 := n1_; have HO238 := n2_; have HO241 := n3_; have HO244 := n4_; have HO249 := n5_; have HO252 := n6_; have HB := n7_; clear n0_ n1_ n2_ n3_ n4_ n5_ n6_ n7_; clear hb ho46; obtain ⟨Ao47, co47, eo47⟩ := Kd.R_slice HO252.out; subst eo47) | ((with_reducible refine gate_callee (f := 28) rfl ?_); refine goesL_ (some 36) rfl rfl Tryd.func28 (by kernel_rfl) rfl #[.slice Ao47 y250.length co47, .int .u64 18446744073709551615, .int .u64 18446744073709551615] rfl (by (try simp only [List.map_toArray, List.map_cons, List.map_nil]); first | done | rfl | (simp only [List.length_drop, List.length_take]; rfl)) ?_; (with_reducible refine (words_MulWord.calls _ _ y250 18446744073709551615 18446744073709551615 t253 t254 t255 _ ?side1 ?side2 A3.out).mono ?_); (case side1 => repeat (first | exact (Kd.R_reads' HO252.out).2.2 | (with_reducible refine Kd.C_alloc ?_ _) | (with_reducible refine Kd.C_drewN ?_ _) | (with_reducible refine Kd.C_drew ?_))); (case side2 => exact (Kd.R_reads' HO252.out).2.1); rintro e w48 ⟨v256, rfl, ho0, hb⟩; refine ⟨_, rfl, ?_⟩; have n0_ := Aside0.mk (Kd.R_elder' (by (with_reducible repeat (first | apply Kd.R_alloc | apply Kd.R_drewN | apply Kd.R_drew)); exact HO230.out) (Kd.R_base ho0) hb); have n1_ := Aside0.mk (Kd.R_elder' (by (with_reducible repeat (first | apply Kd.R_alloc | apply Kd.R_drewN | apply Kd.R_drew)); exact HO233.out) (Kd.R_base ho0) hb); have n2_ := Aside0.mk (Kd.R_elder' (by (with_reducible repeat (first | apply Kd.R_alloc | apply Kd.R_drewN | apply Kd.R_drew)); exact HO238.out) (Kd.R_base ho0) hb); have n3_ := Aside0.mk (Kd.R_elder' (by (with_reducible repeat (first | apply Kd.R_alloc | apply Kd.R_drewN | apply Kd.R_drew)); exact HO241.out) (Kd.R_base ho0) hb); have n4_ := Aside0.mk (Kd.R_elder' (by (with_reducible repeat (first | apply Kd.R_alloc | apply Kd.R_drewN | apply Kd.R_drew)); exact HO244.out) (Kd.R_base ho0) hb); have n5_ := Aside0.mk (Kd.R_elder' (by (with_reducible repeat (first | apply Kd.R_alloc | apply Kd.R_drewN | apply Kd.R_drew)); exact HO249.out) (Kd.R_base ho0) hb); have n6_ := Aside0.mk (Kd.R_elder' (by (with_reducible repeat (first | apply Kd.R_alloc | apply Kd.R_drewN | apply Kd.R_drew)); exact HO252.out) (Kd.R_base ho0) hb); have n7_ := Aside0.mk (Kd.R_lower (Kd.R_new' (Kd.R_new' (Kd.R_new' (Kd.R_new' (Kd.R_new' (Kd.R_new' (Kd.R_new' ho0 (Kd.R_lt (by (with_reducible repeat (first | apply Kd.R_alloc | apply Kd.R_drewN | apply Kd.R_drew)); exact HO230.out))) (Kd.R_lt (by (with_reducible repeat (first | apply Kd.R_alloc | apply Kd.R_drewN | apply Kd.R_drew)); exact HO233.out))) (Kd.R_lt (by (with_reducible repeat (first | apply Kd.R_alloc | apply Kd.R_drewN | apply Kd.R_drew)); exact HO238.out))) (Kd.R_lt (by (with_reducible repeat (first | apply Kd.R_alloc | apply Kd.R_drewN | apply Kd.R_drew)); exact HO241.out))) (Kd.R_lt (by (with_reducible repeat (first | apply Kd.R_alloc | apply Kd.R_drewN | apply Kd.R_drew)); exact HO244.out))) (Kd.R_lt (by (with_reducible repeat (first | apply Kd.R_alloc | apply Kd.R_drewN | apply Kd.R_drew)); exact HO249.out))) (Kd.R_lt (by (with_reducible repeat (first | apply Kd.R_alloc | apply Kd.R_drewN | apply Kd.R_drew)); exact HO252.out))) (below_size (by repeat (first | (with_reducible first | exact HB.out | apply below_alloc | apply pw_below_drewN | apply below_drew1) | exact HB.out)))); have n8_ := Aside0.mk (below_step (by repeat (first | (with_reducible first | exact HB.out | apply below_alloc | apply pw_below_drewN | apply below_drew1) | exact HB.out)) hb); clear HO230; clear HO233; clear HO238; clear HO241; clear HO244; clear HO249; clear HO252; clear HB; have HO230 := n0_; have HO233 := n1_; have HO238 := n2_; have HO241 := n3_; have HO244 := n4_; have HO249 := n5_; have HO252 := n6_; have HO257 := n7_; have HB := n8_; clear n0_ n1_ n2_ n3_ n4_ n5_ n6_ n7_ n8_; (try clear hb); (try clear hb2); (try clear hk); (try clear hi); (try clear ho0)) | ((with_reducible refine gate_dst (N := 41) rfl ?_); (try (refine gate_guard (by rfl) ?_; dsimp only)); refine Kd.R_lit (Kd.int .u64) _ 23 ?hg (N := 41) ?hd (xs := ([0] : List Int)) (inner := [.int .u64 0]) (ok := fun _ => True) (okp := fun _ => True) ?hr ?hp (fun _ hk => hk) trivial (Below.refl _ _) (Nat.le_refl _) (by simp) ?_; (case hd => rfl); (case hg => rfl); (case hr => first | (go_simp; done) | (go_simp; rfl)); (case hp => exact (Reps.one (show Kd.M (Kd.int .u64) _ _ _ 0 [.int .u64 0] from rfl) (Reps.none _ _))); intro v259 w49 ho50 hb hg_ hnew_; clear hg_ hnew_; (first | rw [← Ny258.out] at ho50 | (simp only [Int.reduceToNat] at ho50; rw [← Ny258.out] at ho50)); have n0_ := Aside0.mk (Kd.R_elder' (by (with_reducible repeat (first | apply Kd.R_alloc | apply Kd.R_drewN | apply Kd.R_drew)); exact HO230.out) (Kd.R_base ho50) hb); have n1_ := Aside0.mk (Kd.R_elder' (by (with_reducible repeat (first | apply Kd.R_alloc | apply Kd.R_drewN | apply Kd.R_drew)); exact HO233.out) (Kd.R_base ho50) hb); have n2_ := Aside0.mk (Kd.R_elder' (by (with_reducible repeat (first | apply Kd.R_alloc | apply Kd.R_drewN | apply Kd.R_drew)); exact HO238.out) (Kd.R_base ho50) hb); have n3_ := Aside0.mk (Kd.R_elder' (by (with_reducible repeat (first | apply Kd.R_alloc | apply Kd.R_drewN | apply Kd.R_drew)); exact HO241.out) (Kd.R_base ho50) hb); have n4_ := Aside0.mk (Kd.R_elder' (by (with_reducible repeat (first | apply Kd.R_alloc | apply Kd.R_drewN | apply Kd.R_drew)); exact HO244.out) (Kd.R_base ho50) hb); have n5_ := Aside0.mk (Kd.R_elder' (by (with_reducible repeat (first | apply Kd.R_alloc | apply Kd.R_drewN | apply Kd.R_drew)); exact HO249.out) (Kd.R_base ho50) hb); have n6_ := Aside0.mk (Kd.R_elder' (by (with_reducible repeat (first | apply Kd.R_alloc | apply Kd.R_drewN | apply Kd.R_drew)); exact HO252.out) (Kd.R_base ho50) hb); have n7_ := Aside0.mk (Kd.R_elder' (by (with_reducible repeat (first | apply Kd.R_alloc | apply Kd.R_drewN | apply Kd.R_drew)); exact HO257.out) (Kd.R_base ho50) hb); have n8_ := Aside0.mk (Kd.R_lower (Kd.R_new' (Kd.R_new' (Kd.R_new' (Kd.R_new' (Kd.R_new' (Kd.R_new' (Kd.R_new' (Kd.R_new' ho50 (Kd.R_lt (by (with_reducible repeat (first | apply Kd.R_alloc | apply Kd.R_drewN | apply Kd.R_drew)); exact HO230.out))) (Kd.R_lt (by (with_reducible repeat (first | apply Kd.R_alloc | apply Kd.R_drewN | apply Kd.R_drew)); exact HO233.out))) (Kd.R_lt (by (with_reducible repeat (first | apply Kd.R_alloc | apply Kd.R_drewN | apply Kd.R_drew)); exact HO238.out))) (Kd.R_lt (by (with_reducible repeat (first | apply Kd.R_alloc | apply Kd.R_drewN | apply Kd.R_drew)); exact HO241.out))) (Kd.R_lt (by (with_reducible repeat (first | apply Kd.R_alloc | apply Kd.R_drewN | apply Kd.R_drew)); exact HO244.out))) (Kd.R_lt (by (with_reducible repeat (first | apply Kd.R_alloc | apply Kd.R_drewN | apply Kd.R_drew)); exact HO249.out))) (Kd.R_lt (by (with_reducible repeat (first | apply Kd.R_alloc | apply Kd.R_drewN | apply Kd.R_drew)); exact HO252.out))) (Kd.R_lt (by (with_reducible repeat (first | apply Kd.R_alloc | apply Kd.R_drewN | apply Kd.R_drew)); exact HO257.out))) (below_size (by repeat (first | (with_reducible first | exact HB.out | apply below_alloc | apply pw_below_drewN | apply below_drew1) | exact HB.out)))); have n9_ := Aside0.mk (below_step (by repeat (first | (with_reducible first | exact HB.out | apply below_alloc | apply pw_below_drewN | apply below_drew1) | exact HB.out)) hb); clear HO230; clear HO233; clear HO238; clear HO241; clear HO244; clear HO249; clear HO252; clear HO257; clear HB; have HO230 := n0_; have HO233 := n1_; have HO238 := n2_; have HO241 := n3_; have HO244 := n4_; have HO249 := n5_; have HO252 := n6_; have HO257 := n7_; have HO260 := n8_; have HB := n9_; clear n0_ n1_ n2_ n3_ n4_ n5_ n6_ n7_ n8_ n9_; clear hb ho50; obtain ⟨Ao51, co51, eo51⟩ := Kd.R_slice HO260.out; subst eo51) | ((with_reducible refine gate_callee (f := 20) rfl ?_); refine goesL_ (some 42) rfl rfl Tryd.func20 (by kernel_rfl) rfl #[.slice Ao51 y258.length co51, .int .u64 3, .int .u64 1] rfl (by (try simp only [List.map_toArray, List.map_cons, List.map_nil]); first | done | rfl | (simp only [List.length_drop, List.length_take]; rfl)) ?_; (with_reducible refine (words_DivWord.calls _ _ y258 3 1 t261 t262 t263 _ ?side1 ?side2 A4.out).mono ?_); (case side1 => repeat (first | exact (Kd.R_reads' HO260.out).2.2 | (with_reducible refine Kd.C_alloc ?_ _) | (with_reducible refine Kd.C_drewN ?_ _) | (with_reducible refine Kd.C_drew ?_))); (case side2 => exact (Kd.R_reads' HO260.out).2.1); rintro e w52 ⟨v264, rfl, ho0, hb⟩; refine ⟨_, rfl, ?_⟩; have n0_ := Aside0.mk (Kd.R_elder' (by (with_reducible repeat (first | apply Kd.R_alloc | apply Kd.R_drewN | apply Kd.R_drew)); exact HO230.out) (Kd.R_base ho0) hb); have n1_ := Aside0.mk (Kd.R_elder' (by (with_reducible repeat (first | apply Kd.R_alloc | apply Kd.R_drewN | apply Kd.R_drew)); exact HO233.out) (Kd.R_base ho0) hb); have n2_ := Aside0.mk (Kd.R_elder' (by (with_reducible repeat (first | apply Kd.R_alloc | apply Kd.R_drewN | apply Kd.R_drew)); exact HO238.out) (Kd.R_base ho0) hb); have n3_ := Aside0.mk (Kd.R_elder' (by (with_reducible repeat (first | apply Kd.R_alloc | apply Kd.R_drewN | apply Kd.R_drew)); exact HO241.out) (Kd.R_base ho0) hb); have n4_ := Aside0.mk (Kd.R_elder' (by (with_reducible repeat (first | apply Kd.R_alloc | apply Kd.R_drewN | apply Kd.R_drew)); exact HO244.out) (Kd.R_base ho0) hb); have n5_ := Aside0.mk (Kd.R_elder' (by (with_reducible repeat (first | apply Kd.R_alloc | apply Kd.R_drewN | apply Kd.R_drew)); exact HO249.out) (Kd.R_base ho0) hb); have n6_ := Aside0.mk (Kd.R_elder' (by (with_reducible repeat (first | apply Kd.R_alloc | apply Kd.R_drewN | apply Kd.R_drew)); exact HO252.out) (Kd.R_base ho0) hb); have n7_ := Aside0.mk (Kd.R_elder' (by (with_reducible repeat (first | apply Kd.R_alloc | apply Kd.R_drewN | apply Kd.R_drew)); exact HO257.out) (Kd.R_base ho0) hb); have n8_ := Aside0.mk (Kd.R_elder' (by (with_reducible repeat (first | apply Kd.R_alloc | apply Kd.R_drewN | apply Kd.R_drew)); exact HO260.out) (Kd.R_base ho0) hb); have n9_ := Aside0.mk (Kd.R_lower (Kd.R_new' (Kd.R_new' (Kd.R_new' (Kd.R_new' (Kd.R_new' (Kd.R_new' (Kd.R_new' (Kd.R_new' (Kd.R_new' ho0 (Kd.R_lt (by (with_reducible repeat (first | apply Kd.R_alloc | apply Kd.R_drewN | apply Kd.R_drew)); exact HO230.out))) (Kd.R_lt (by (with_reducible repeat (first | apply Kd.R_alloc | apply Kd.R_drewN | apply Kd.R_drew)); exact HO233.out))) (Kd.R_lt (by (with_reducible repeat (first | apply Kd.R_alloc | apply Kd.R_drewN | apply Kd.R_drew)); exact HO238.out))) (Kd.R_lt (by (with_reducible repeat (first | apply Kd.R_alloc | apply Kd.R_drewN | apply Kd.R_drew)); exact HO241.out))) (Kd.R_lt (by (with_reducible repeat (first | apply Kd.R_alloc | apply Kd.R_drewN | apply Kd.R_drew)); exact HO244.out))) (Kd.R_lt (by (with_reducible repeat (first | apply Kd.R_alloc | apply Kd.R_drewN | apply Kd.R_drew)); exact HO249.out))) (Kd.R_lt (by (with_reducible repeat (first | apply Kd.R_alloc | apply Kd.R_drewN | apply Kd.R_drew)); exact HO252.out))) (Kd.R_lt (by (with_reducible repeat (first | apply Kd.R_alloc | apply Kd.R_drewN | apply Kd.R_drew)); exact HO257.out))) (Kd.R_lt (by (with_reducible repeat (first | apply Kd.R_alloc | apply Kd.R_drewN | apply Kd.R_drew)); exact HO260.out))) (below_size (by repeat (first | (with_reducible first | exact HB.out | apply below_alloc | apply pw_below_drewN | apply below_drew1) | exact HB.out)))); have n10_ := Aside0.mk (below_step (by repeat (first | (with_reducible first | exact HB.out | apply below_alloc | apply pw_below_drewN | apply below_drew1) | exact HB.out)) hb); clear HO230; clear HO233; clear HO238; clear HO241; clear HO244; clear HO249; clear HO252; clear HO257; clear HO260; clear HB; have HO230 := n0_; have HO233 := n1_; have HO238 := n2_; have HO241 := n3_; have HO244 := n4_; have HO249 := n5_; have HO252 := n6_; have HO257 := n7_; have HO260 := n8_; have HO265 := n9_; have HB := n10_; clear n0_ n1_ n2_ n3_ n4_ n5_ n6_ n7_ n8_ n9_ n10_; (try clear hb); (try clear hb2); (try clear hk); (try clear hi); (try clear ho0)) | ((with_reducible refine gate_dst (N := 47) rfl ?_); (try (refine gate_guard (by rfl) ?_; dsimp only)); refine Kd.R_lit (Kd.int .u64) _ 23 ?hg (N := 47) ?hd (xs := ([3] : List Int)) (inner := [.int .u64 3]) (ok := fun _ => True) (okp := fun _ => True) ?hr ?hp (fun _ hk => hk) trivial (Below.refl _ _) (Nat.le_refl _) (by simp) ?_; (case hd => rfl); (case hg => rfl); (case hr => first | (go_simp; done) | (go_simp; rfl)); (case hp => exact (Reps.one (show Kd.M (Kd.int .u64) _ _ _ 3 [.int .u64 3] from rfl) (Reps.none _ _))); intro v267 w53 ho54 hb hg_ hnew_; clear hg_ hnew_; (first | rw [← Ny266.out] at ho54 | (simp only [Int.reduceToNat] at ho54; rw [← Ny266.out] at ho54)); have n0_ := Aside0.mk (Kd.R_elder' (by (with_reducible repeat (first | apply Kd.R_alloc | apply Kd.R_drewN | apply Kd.R_drew)); exact HO230.out) (Kd.R_base ho54) hb); have n1_ := Aside0.mk (Kd.R_elder' (by (with_reducible repeat (first | apply Kd.R_alloc | apply Kd.R_drewN | apply Kd.R_drew)); exact HO233.out) (Kd.R_base ho54) hb); have n2_ := Aside0.mk (Kd.R_elder' (by (with_reducible repeat (first | apply Kd.R_alloc | apply Kd.R_drewN | apply Kd.R_drew)); exact HO238.out) (Kd.R_base ho54) hb); have n3_ := Aside0.mk (Kd.R_elder' (by (with_reducible repeat (first | apply Kd.R_alloc | apply Kd.R_drewN | apply Kd.R_drew)); exact HO241.out) (Kd.R_base ho54) hb); have n4_ := Aside0.mk (Kd.R_elder' (by (with_reducible repeat (first | apply Kd.R_alloc | apply Kd.R_drewN | apply Kd.R_drew)); exact HO244.out) (Kd.R_base ho54) hb); have n5_ := Aside0.mk (Kd.R_elder' (by (with_reducible repeat (first | apply Kd.R_alloc | apply Kd.R_drewN | apply Kd.R_drew)); exact HO249.out) (Kd.R_base ho54) hb); have n6_ := Aside0.mk (Kd.R_elder' (by (with_reducible repeat (first | apply Kd.R_alloc | apply Kd.R_drewN | apply Kd.R_drew)); exact HO252.out) (Kd.R_base ho54) hb); have n7_ := Aside0.mk (Kd.R_elder' (by (with_reducible repeat (first | apply Kd.R_alloc | apply Kd.R_drewN | apply Kd.R_drew)); exact HO257.out) (Kd.R_base ho54) hb); have n8_ := Aside0.mk (Kd.R_elder' (by (with_reducible repeat (first | apply Kd.R_alloc | apply Kd.R_drewN | apply Kd.R_drew)); exact HO260.out) (Kd.R_base ho54) hb); have n9_ := Aside0.mk (Kd.R_elder' (by (with_reducible repeat (first | apply Kd.R_alloc | apply Kd.R_drewN | apply Kd.R_drew)); exact HO265.out) (Kd.R_base ho54) hb); have n10_ := Aside0.mk (Kd.R_lower (Kd.R_new' (Kd.R_new' (Kd.R_new' (Kd.R_new' (Kd.R_new' (Kd.R_new' (Kd.R_new' (Kd.R_new' (Kd.R_new' (Kd.R_new' ho54 (Kd.R_lt (by (with_reducible repeat (first | apply Kd.R_alloc | apply Kd.R_drewN | apply Kd.R_drew)); exact HO230.out))) (Kd.R_lt (by (with_reducible repeat (first | apply Kd.R_alloc | apply Kd.R_drewN | apply Kd.R_drew)); exact HO233.out))) (Kd.R_lt (by (with_reducible repeat (first | apply Kd.R_alloc | apply Kd.R_drewN | apply Kd.R_drew)); exact HO238.out))) (Kd.R_lt (by (with_reducible repeat (first | apply Kd.R_alloc | apply Kd.R_drewN | apply Kd.R_drew)); exact HO241.out))) (Kd.R_lt (by (with_reducible repeat (first | apply Kd.R_alloc | apply Kd.R_drewN | apply Kd.R_drew)); exact HO244.out))) (Kd.R_lt (by (with_reducible repeat (first | apply Kd.R_alloc | apply Kd.R_drewN | apply Kd.R_drew)); exact HO249.out))) (Kd.R_lt (by (with_reducible repeat (first | apply Kd.R_alloc | apply Kd.R_drewN | apply Kd.R_drew)); exact HO252.out))) (Kd.R_lt (by (with_reducible repeat (first | apply Kd.R_alloc | apply Kd.R_drewN | apply Kd.R_drew)); exact HO257.out))) (Kd.R_lt (by (with_reducible repeat (first | apply Kd.R_alloc | apply Kd.R_drewN | apply Kd.R_drew)); exact HO260.out))) (Kd.R_lt (by (with_reducible repeat (first | apply Kd.R_alloc | apply Kd.R_drewN | apply Kd.R_drew)); exact HO265.out))) (below_size (by repeat (first | (with_reducible first | exact HB.out | apply below_alloc | apply pw_below_drewN | apply below_drew1) | exact HB.out)))); have n11_ := Aside0.mk (below_step (by repeat (first | (with_reducible first | exact HB.out | apply below_alloc | apply pw_below_drewN | apply below_drew1) | exact HB.out)) hb); clear HO230; clear HO233; clear HO238; clear HO241; clear HO244; clear HO249; clear HO252; clear HO257; clear HO260; clear HO265; clear HB; have HO230 := n0_; have HO233 := n1_; have HO238 := n2_; have HO241 := n3_; have HO244 := n4_; have HO249 := n5_; have HO252 := n6_; have HO257 := n7_; have HO260 := n8_; have HO265 := n9_; have HO268 := n10_; have HB := n11_; clear n0_ n1_ n2_ n3_ n4_ n5_ n6_ n7_ n8_ n9_ n10_ n11_; clear hb ho54; obtain ⟨Ao55, co55, eo55⟩ := Kd.R_slice HO268.out; subst eo55) | ((with_reducible refine gate_callee (f := 25) rfl ?_); refine goesL_ (some 48) rfl rfl Tryd.func25 (by kernel_rfl) rfl #[.slice Ao55 y266.length co55, .int .i64 1] rfl (by (try simp only [List.map_toArray, List.map_cons, List.map_nil]); first | done | rfl | (simp only [List.length_drop, List.length_take]; rfl)) ?_; (with_reducible refine (words_Right.calls _ _ y266 1 t269 t270 t271 _ ?side1 ?side2 A5.out).mono ?_); (case side1 => repeat (first | exact (Kd.R_reads' HO268.out).2.2 | (with_reducible refine Kd.C_alloc ?_ _) | (with_reducible refine Kd.C_drewN ?_ _) | (with_reducible refine Kd.C_drew ?_))); (case side2 => exact (Kd.R_reads' HO268.out).2.1); rintro e w56 ⟨v272, rfl, ho0, hb⟩; refine ⟨_, rfl, ?_⟩; have n0_ := Aside0.mk (Kd.R_elder' (by (with_reducible repeat (first | apply Kd.R_alloc | apply Kd.R_drewN | apply Kd.R_drew)); exact HO230.out) (Kd.R_base ho0) hb); have n1_ := Aside0.mk (Kd.R_elder' (by (with_reducible repeat (first | apply Kd.R_alloc | apply Kd.R_drewN | apply Kd.R_drew)); exact HO233.out) (Kd.R_base ho0) hb); have n2_ := Aside0.mk (Kd.R_elder' (by (with_reducible repeat (first | apply Kd.R_alloc | apply Kd.R_drewN | apply Kd.R_drew)); exact HO238.out) (Kd.R_base ho0) hb); have n3_ := Aside0.mk (Kd.R_elder' (by (with_reducible repeat (first | apply Kd.R_alloc | apply Kd.R_drewN | apply Kd.R_drew)); exact HO241.out) (Kd.R_base ho0) hb); have n4_ := Aside0.mk (Kd.R_elder' (by (with_reducible repeat (first | apply Kd.R_alloc | apply Kd.R_drewN | apply Kd.R_drew)); exact HO244.out) (Kd.R_base ho0) hb); have n5_ := Aside0.mk (Kd.R_elder' (by (with_reducible repeat (first | apply Kd.R_alloc | apply Kd.R_drewN | apply Kd.R_drew)); exact HO249.out) (Kd.R_base ho0) hb); have n6_ := Aside0.mk (Kd.R_elder' (by (with_reducible repeat (first | apply Kd.R_alloc | apply Kd.R_drewN | apply Kd.R_drew)); exact HO252.out) (Kd.R_base ho0) hb); have n7_ := Aside0.mk (Kd.R_elder' (by (with_reducible repeat (first | apply Kd.R_alloc | apply Kd.R_drewN | apply Kd.R_drew)); exact HO257.out) (Kd.R_base ho0) hb); have n8_ := Aside0.mk (Kd.R_elder' (by (with_reducible repeat (first | apply Kd.R_alloc | apply Kd.R_drewN | apply Kd.R_drew)); exact HO260.out) (Kd.R_base ho0) hb); have n9_ := Aside0.mk (Kd.R_elder' (by (with_reducible repeat (first | apply Kd.R_alloc | apply Kd.R_drewN | apply Kd.R_drew)); exact HO265.out) (Kd.R_base ho0) hb); have n10_ := Aside0.mk (Kd.R_elder' (by (with_reducible repeat (first | apply Kd.R_alloc | apply Kd.R_drewN | apply Kd.R_drew)); exact HO268.out) (Kd.R_base ho0) hb); have n11_ := Aside0.mk (Kd.R_lower (Kd.R_new' (Kd.R_new' (Kd.R_new' (Kd.R_new' (Kd.R_new' (Kd.R_new' (Kd.R_new' (Kd.R_new' (Kd.R_new' (Kd.R_new' (Kd.R_new' ho0 (Kd.R_lt (by (with_reducible repeat (first | apply Kd.R_alloc | apply Kd.R_drewN | apply Kd.R_drew)); exact HO230.out))) (Kd.R_lt (by (with_reducible repeat (first | apply Kd.R_alloc | apply Kd.R_drewN | apply Kd.R_drew)); exact HO233.out))) (Kd.R_lt (by (with_reducible repeat (first | apply Kd.R_alloc | apply Kd.R_drewN | apply Kd.R_drew)); exact HO238.out))) (Kd.R_lt (by (with_reducible repeat (first | apply Kd.R_alloc | apply Kd.R_drewN | apply Kd.R_drew)); exact HO241.out))) (Kd.R_lt (by (with_reducible repeat (first | apply Kd.R_alloc | apply Kd.R_drewN | apply Kd.R_drew)); exact HO244.out))) (Kd.R_lt (by (with_reducible repeat (first | apply Kd.R_alloc | apply Kd.R_drewN | apply Kd.R_drew)); exact HO249.out))) (Kd.R_lt (by (with_reducible repeat (first | apply Kd.R_alloc | apply Kd.R_drewN | apply Kd.R_drew)); exact HO252.out))) (Kd.R_lt (by (with_reducible repeat (first | apply Kd.R_alloc | apply Kd.R_drewN | apply Kd.R_drew)); exact HO257.out))) (Kd.R_lt (by (with_reducible repeat (first | apply Kd.R_alloc | apply Kd.R_drewN | apply Kd.R_drew)); exact HO260.out))) (Kd.R_lt (by (with_reducible repeat (first | apply Kd.R_alloc | apply Kd.R_drewN | apply Kd.R_drew)); exact HO265.out))) (Kd.R_lt (by (with_reducible repeat (first | apply Kd.R_alloc | apply Kd.R_drewN | apply Kd.R_drew)); exact HO268.out))) (below_size (by repeat (first | (with_reducible first | exact HB.out | apply below_alloc | apply pw_below_drewN | apply below_drew1) | exact HB.out)))); have n12_ := Aside0.mk (below_step (by repeat (first | (with_reducible first | exact HB.out | apply below_alloc | apply pw_below_drewN | apply below_drew1) | exact HB.out)) hb); clear HO230; clear HO233; clear HO238; clear HO241; clear HO244; clear HO249; clear HO252; clear HO257; clear HO260; clear HO265; clear HO268; clear HB; have HO230 := n0_; have HO233 := n1_; have HO238 := n2_; have HO241 := n3_; have HO244 := n4_; have HO249 := n5_; have HO252 := n6_; have HO257 := n7_; have HO260 := n8_; have HO265 := n9_; have HO268 := n10_; have HO273 := n11_; have HB := n12_; clear n0_ n1_ n2_ n3_ n4_ n5_ n6_ n7_ n8_ n9_ n10_ n11_ n12_; (try clear hb); (try clear hb2); (try clear hk); (try clear hi); (try clear ho0)) | ((with_reducible refine gate_callee (f := 34) rfl ?_); refine goesL_ (some 53) rfl rfl Tryd.func34 (by kernel_rfl) rfl #[.int .u64 3] rfl (by (try simp only [List.map_toArray, List.map_cons, List.map_nil]); first | done | rfl | (simp only [List.length_drop, List.length_take]; rfl)) ?_; (with_reducible refine (words_Inverse.calls 3 t274 t275 _ (Laid.below HLd.out (by repeat (first | (with_reducible first | exact HB.out | apply below_alloc | apply pw_below_drewN | apply below_drew1) | exact HB.out))) A6.out).mono ?_); rintro e w' ⟨rfl, ⟨nd, rfl⟩⟩; refine ⟨_, rfl, ?_⟩) | ((with_reducible refine gate_callee (f := 36) rfl ?_); refine goesL_ (some 57) rfl rfl Tryd.func36 (by kernel_rfl) rfl #[.int .u64 9223372036854775808] rfl (by (try simp only [List.map_toArray, List.map_cons, List.map_nil]); first | done | rfl | (simp only [List.length_drop, List.length_take]; rfl)) ?_; (with_reducible refine (words_Reciprocal.calls 9223372036854775808 t276 t277 _ A7.out).mono ?_); rintro e w' ⟨rfl, ⟨nd, rfl⟩⟩; refine ⟨_, rfl, ?_⟩) | ((with_reducible refine gate_dst (N := 64) rfl ?_); (try (refine gate_guard (by rfl) ?_; dsimp only)); refine Kd.R_lit (Kd.int .u64) _ 23 ?hg (N := 64) ?hd (xs := ([0] : List Int)) (inner := [.int .u64 0]) (ok := fun _ => True) (okp := fun _ => True) ?hr ?hp (fun _ hk => hk) trivial (Below.refl _ _) (Nat.le_refl _) (by simp) ?_; (case hd => rfl); (case hg => rfl); (case hr => first | (go_simp; done) | (go_simp; rfl)); (case hp => exact (Reps.one (show Kd.M (Kd.int .u64) _ _ _ 0 [.int .u64 0] from rfl) (Reps.none _ _))); intro v279 w57 ho58 hb hg_ hnew_; clear hg_ hnew_; (first | rw [← Ny278.out] at ho58 | (simp only [Int.reduceToNat] at ho58; rw [← Ny278.out] at ho58)); have n0_ := Aside0.mk (Kd.R_elder' (by (with_reducible repeat (first | apply Kd.R_alloc | apply Kd.R_drewN | apply Kd.R_drew)); exact HO230.out) (Kd.R_base ho58) hb); have n1_ := Aside0.mk (Kd.R_elder' (by (with_reducible repeat (first | apply Kd.R_alloc | apply Kd.R_drewN | apply Kd.R_drew)); exact HO233.out) (Kd.R_base ho58) hb); have n2_ := Aside0.mk (Kd.R_elder' (by (with_reducible repeat (first | apply Kd.R_alloc | apply Kd.R_drewN | apply Kd.R_drew)); exact HO238.out) (Kd.R_base ho58) hb); have n3_ := Aside0.mk (Kd.R_elder' (by (with_reducible repeat (first | apply Kd.R_alloc | apply Kd.R_drewN | apply Kd.R_drew)); exact HO241.out) (Kd.R_base ho58) hb); have n4_ := Aside0.mk (Kd.R_elder' (by (with_reducible repeat (first | apply Kd.R_alloc | apply Kd.R_drewN | apply Kd.R_drew)); exact HO244.out) (Kd.R_base ho58) hb); have n5_ := Aside0.mk (Kd.R_elder' (by (with_reducible repeat (first | apply Kd.R_alloc | apply Kd.R_drewN | apply Kd.R_drew)); exact HO249.out) (Kd.R_base ho58) hb); have n6_ := Aside0.mk (Kd.R_elder' (by (with_reducible repeat (first | apply Kd.R_alloc | apply Kd.R_drewN | apply Kd.R_drew)); exact HO252.out) (Kd.R_base ho58) hb); have n7_ := Aside0.mk (Kd.R_elder' (by (with_reducible repeat (first | apply Kd.R_alloc | apply Kd.R_drewN | apply Kd.R_drew)); exact HO257.out) (Kd.R_base ho58) hb); have n8_ := Aside0.mk (Kd.R_elder' (by (with_reducible repeat (first | apply Kd.R_alloc | apply Kd.R_drewN | apply Kd.R_drew)); exact HO260.out) (Kd.R_base ho58) hb); have n9_ := Aside0.mk (Kd.R_elder' (by (with_reducible repeat (first | apply Kd.R_alloc | apply Kd.R_drewN | apply Kd.R_drew)); exact HO265.out) (Kd.R_base ho58) hb); have n10_ := Aside0.mk (Kd.R_elder' (by (with_reducible repeat (first | apply Kd.R_alloc | apply Kd.R_drewN | apply Kd.R_drew)); exact HO268.out) (Kd.R_base ho58) hb); have n11_ := Aside0.mk (Kd.R_elder' (by (with_reducible repeat (first | apply Kd.R_alloc | apply Kd.R_drewN | apply Kd.R_drew)); exact HO273.out) (Kd.R_base ho58) hb); have n12_ := Aside0.mk (Kd.R_lower (Kd.R_new' (Kd.R_new' (Kd.R_new' (Kd.R_new' (Kd.R_new' (Kd.R_new' (Kd.R_new' (Kd.R_new' (Kd.R_new' (Kd.R_new' (Kd.R_new' (Kd.R_new' ho58 (Kd.R_lt (by (with_reducible repeat (first | apply Kd.R_alloc | apply Kd.R_drewN | apply Kd.R_drew)); exact HO230.out))) (Kd.R_lt (by (with_reducible repeat (first | apply Kd.R_alloc | apply Kd.R_drewN | apply Kd.R_drew)); exact HO233.out))) (Kd.R_lt (by (with_reducible repeat (first | apply Kd.R_alloc | apply Kd.R_drewN | apply Kd.R_drew)); exact HO238.out))) (Kd.R_lt (by (with_reducible repeat (first | apply Kd.R_alloc | apply Kd.R_drewN | apply Kd.R_drew)); exact HO241.out))) (Kd.R_lt (by (with_reducible repeat (first | apply Kd.R_alloc | apply Kd.R_drewN | apply Kd.R_drew)); exact HO244.out))) (Kd.R_lt (by (with_reducible repeat (first | apply Kd.R_alloc | apply Kd.R_drewN | apply Kd.R_drew)); exact HO249.out))) (Kd.R_lt (by (with_reducible repeat (first | apply Kd.R_alloc | apply Kd.R_drewN | apply Kd.R_drew)); exact HO252.out))) (Kd.R_lt (by (with_reducible repeat (first | apply Kd.R_alloc | apply Kd.R_drewN | apply Kd.R_drew)); exact HO257.out))) (Kd.R_lt (by (with_reducible repeat (first | apply Kd.R_alloc | apply Kd.R_drewN | apply Kd.R_drew)); exact HO260.out))) (Kd.R_lt (by (with_reducible repeat (first | apply Kd.R_alloc | apply Kd.R_drewN | apply Kd.R_drew)); exact HO265.out))) (Kd.R_lt (by (with_reducible repeat (first | apply Kd.R_alloc | apply Kd.R_drewN | apply Kd.R_drew)); exact HO268.out))) (Kd.R_lt (by (with_reducible repeat (first | apply Kd.R_alloc | apply Kd.R_drewN | apply Kd.R_drew)); exact HO273.out))) (below_size (by repeat (first | (with_reducible first | exact HB.out | apply below_alloc | apply pw_below_drewN | apply below_drew1) | exact HB.out)))); have n13_ := Aside0.mk (below_step (by repeat (first | (with_reducible first | exact HB.out | apply below_alloc | apply pw_below_drewN | apply below_drew1) | exact HB.out)) hb); clear HO230; clear HO233; clear HO238; clear HO241; clear HO244; clear HO249; clear HO252; clear HO257; clear HO260; clear HO265; clear HO268; clear HO273; clear HB; have HO230 := n0_; have HO233 := n1_; have HO238 := n2_; have HO241 := n3_; have HO244 := n4_; have HO249 := n5_; have HO252 := n6_; have HO257 := n7_; have HO260 := n8_; have HO265 := n9_; have HO268 := n10_; have HO273 := n11_; have HO280 := n12_; have HB := n13_; clear n0_ n1_ n2_ n3_ n4_ n5_ n6_ n7_ n8_ n9_ n10_ n11_ n12_ n13_; clear hb ho58; obtain ⟨Ao59, co59, eo59⟩ := Kd.R_slice HO238.out; subst eo59; obtain ⟨Ao60, co60, eo60⟩ := Kd.R_slice HO280.out; subst eo60) | (go_at_call 17; (with_reducible refine (reckonerlaw01_same.calls k _ _ t234 _ _ y278 true _ ?side1 ?side2 ?side3 ?side4 A9.out).mono ?_); (case side1 => repeat (first | exact (Kd.R_reads' HO238.out).2.2 | (with_reducible refine Kd.C_alloc ?_ _) | (with_reducible refine Kd.C_drewN ?_ _) | (with_reducible refine Kd.C_drew ?_))); (case side2 => exact (Kd.R_reads' HO238.out).2.1); (case side3 => repeat (first | exact (Kd.R_reads' HO280.out).2.2 | (with_reducible refine Kd.C_alloc ?_ _) | (with_reducible refine Kd.C_drewN ?_ _) | (with_reducible refine Kd.C_drew ?_))); (case side4 => exact (Kd.R_reads' HO280.out).2.1); rintro e w' ⟨rfl, ⟨nd, rfl⟩⟩) | ((with_reducible refine gate_dst (N := 77) rfl ?_); (try (refine gate_guard (by rfl) ?_; dsimp only)); refine Kd.R_lit (Kd.int .u64) _ 23 ?hg (N := 77) ?hd (xs := ([18446744073709551615] : List Int)) (inner := [.int .u64 18446744073709551615]) (ok := fun _ => True) (okp := fun _ => True) ?hr ?hp (fun _ hk => hk) trivial (Below.refl _ _) (Nat.le_refl _) (by simp) ?_; (case hd => rfl); (case hg => rfl); (case hr => first | (go_simp; done) | (go_simp; rfl)); (case hp => exact (Reps.one (show Kd.M (Kd.int .u64) _ _ _ 18446744073709551615 [.int .u64 18446744073709551615] from rfl) (Reps.none _ _))); intro v283 w61 ho62 hb hg_ hnew_; clear hg_ hnew_; (first | rw [← Ny282.out] at ho62 | (simp only [Int.reduceToNat] at ho62; rw [← Ny282.out] at ho62)); have n0_ := Aside0.mk (Kd.R_elder' (by (with_reducible repeat (first | apply Kd.R_alloc | apply Kd.R_drewN | apply Kd.R_drew)); exact HO230.out) (Kd.R_base ho62) hb); have n1_ := Aside0.mk (Kd.R_elder' (by (with_reducible repeat (first | apply Kd.R_alloc | apply Kd.R_drewN | apply Kd.R_drew)); exact HO233.out) (Kd.R_base ho62) hb); have n2_ := Aside0.mk (Kd.R_elder' (by (with_reducible repeat (first | apply Kd.R_alloc | apply Kd.R_drewN | apply Kd.R_drew)); exact HO238.out) (Kd.R_base ho62) hb); have n3_ := Aside0.mk (Kd.R_elder' (by (with_reducible repeat (first | apply Kd.R_alloc | apply Kd.R_drewN | apply Kd.R_drew)); exact HO241.out) (Kd.R_base ho62) hb); have n4_ := Aside0.mk (Kd.R_elder' (by (with_reducible repeat (first | apply Kd.R_alloc | apply Kd.R_drewN | apply Kd.R_drew)); exact HO244.out) (Kd.R_base ho62) hb); have n5_ := Aside0.mk (Kd.R_elder' (by (with_reducible repeat (first | apply Kd.R_alloc | apply Kd.R_drewN | apply Kd.R_drew)); exact HO249.out) (Kd.R_base ho62) hb); have n6_ := Aside0.mk (Kd.R_elder' (by (with_reducible repeat (first | apply Kd.R_alloc | apply Kd.R_drewN | apply Kd.R_drew)); exact HO252.out) (Kd.R_base ho62) hb); have n7_ := Aside0.mk (Kd.R_elder' (by (with_reducible repeat (first | apply Kd.R_alloc | apply Kd.R_drewN | apply Kd.R_drew)); exact HO257.out) (Kd.R_base ho62) hb); have n8_ := Aside0.mk (Kd.R_elder' (by (with_reducible repeat (first | apply Kd.R_alloc | apply Kd.R_drewN | apply Kd.R_drew)); exact HO260.out) (Kd.R_base ho62) hb); have n9_ := Aside0.mk (Kd.R_elder' (by (with_reducible repeat (first | apply Kd.R_alloc | apply Kd.R_drewN | apply Kd.R_drew)); exact HO265.out) (Kd.R_base ho62) hb); have n10_ := Aside0.mk (Kd.R_elder' (by (with_reducible repeat (first | apply Kd.R_alloc | apply Kd.R_drewN | apply Kd.R_drew)); exact HO268.out) (Kd.R_base ho62) hb); have n11_ := Aside0.mk (Kd.R_elder' (by (with_reducible repeat (first | apply Kd.R_alloc | apply Kd.R_drewN | apply Kd.R_drew)); exact HO273.out) (Kd.R_base ho62) hb); have n12_ := Aside0.mk (Kd.R_elder' (by (with_reducible repeat (first | apply Kd.R_alloc | apply Kd.R_drewN | apply Kd.R_drew)); exact HO280.out) (Kd.R_base ho62) hb); have n13_ := Aside0.mk (Kd.R_lower (Kd.R_new' (Kd.R_new' (Kd.R_new' (Kd.R_new' (Kd.R_new' (Kd.R_new' (Kd.R_new' (Kd.R_new' (Kd.R_new' (Kd.R_new' (Kd.R_new' (Kd.R_new' (Kd.R_new' ho62 (Kd.R_lt (by (with_reducible repeat (first | apply Kd.R_alloc | apply Kd.R_drewN | apply Kd.R_drew)); exact HO230.out))) (Kd.R_lt (by (with_reducible repeat (first | apply Kd.R_alloc | apply Kd.R_drewN | apply Kd.R_drew)); exact HO233.out))) (Kd.R_lt (by (with_reducible repeat (first | apply Kd.R_alloc | apply Kd.R_drewN | apply Kd.R_drew)); exact HO238.out))) (Kd.R_lt (by (with_reducible repeat (first | apply Kd.R_alloc | apply Kd.R_drewN | apply Kd.R_drew)); exact HO241.out))) (Kd.R_lt (by (with_reducible repeat (first | apply Kd.R_alloc | apply Kd.R_drewN | apply Kd.R_drew)); exact HO244.out))) (Kd.R_lt (by (with_reducible repeat (first | apply Kd.R_alloc | apply Kd.R_drewN | apply Kd.R_drew)); exact HO249.out))) (Kd.R_lt (by (with_reducible repeat (first | apply Kd.R_alloc | apply Kd.R_drewN | apply Kd.R_drew)); exact HO252.out))) (Kd.R_lt (by (with_reducible repeat (first | apply Kd.R_alloc | apply Kd.R_drewN | apply Kd.R_drew)); exact HO257.out))) (Kd.R_lt (by (with_reducible repeat (first | apply Kd.R_alloc | apply Kd.R_drewN | apply Kd.R_drew)); exact HO260.out))) (Kd.R_lt (by (with_reducible repeat (first | apply Kd.R_alloc | apply Kd.R_drewN | apply Kd.R_drew)); exact HO265.out))) (Kd.R_lt (by (with_reducible repeat (first | apply Kd.R_alloc | apply Kd.R_drewN | apply Kd.R_drew)); exact HO268.out))) (Kd.R_lt (by (with_reducible repeat (first | apply Kd.R_alloc | apply Kd.R_drewN | apply Kd.R_drew)); exact HO273.out))) (Kd.R_lt (by (with_reducible repeat (first | apply Kd.R_alloc | apply Kd.R_drewN | apply Kd.R_drew)); exact HO280.out))) (below_size (by repeat (first | (with_reducible first | exact HB.out | apply below_alloc | apply pw_below_drewN | apply below_drew1) | exact HB.out)))); have n14_ := Aside0.mk (below_step (by repeat (first | (with_reducible first | exact HB.out | apply below_alloc | apply pw_below_drewN | apply below_drew1) | exact HB.out)) hb); clear HO230; clear HO233; clear HO238; clear HO241; clear HO244; clear HO249; clear HO252; clear HO257; clear HO260; clear HO265; clear HO268; clear HO273; clear HO280; clear HB; have HO230 := n0_; have HO233 := n1_; have HO238 := n2_; have HO241 := n3_; have HO244 := n4_; have HO249 := n5_; have HO252 := n6_; have HO257 := n7_; have HO260 := n8_; have HO265 := n9_; have HO268 := n10_; have HO273 := n11_; have HO280 := n12_; have HO284 := n13_; have HB := n14_; clear n0_ n1_ n2_ n3_ n4_ n5_ n6_ n7_ n8_ n9_ n10_ n11_ n12_ n13_ n14_; clear hb ho62; obtain ⟨Ao63, co63, eo63⟩ := Kd.R_slice HO249.out; subst eo63; obtain ⟨Ao64, co64, eo64⟩ := Kd.R_slice HO284.out; subst eo64) | (go_at_call 17; (with_reducible refine (reckonerlaw01_same.calls k _ _ t245 _ _ y282 true _ ?side1 ?side2 ?side3 ?side4 A13.out).mono ?_); (case side1 => repeat (first | exact (Kd.R_reads' HO249.out).2.2 | (with_reducible refine Kd.C_alloc ?_ _) | (with_reducible refine Kd.C_drewN ?_ _) | (with_reducible refine Kd.C_drew ?_))); (case side2 => exact (Kd.R_reads' HO249.out).2.1); (case side3 => repeat (first | exact (Kd.R_reads' HO284.out).2.2 | (with_reducible refine Kd.C_alloc ?_ _) | (with_reducible refine Kd.C_drewN ?_ _) | (with_reducible refine Kd.C_drew ?_))); (case side4 => exact (Kd.R_reads' HO284.out).2.1); rintro e w' ⟨rfl, ⟨nd, rfl⟩⟩) | ((with_reducible refine gate_dst (N := 90) rfl ?_); (try (refine gate_guard (by rfl) ?_; dsimp only)); refine Kd.R_lit (Kd.int .u64) _ 23 ?hg (N := 90) ?hd (xs := ([0] : List Int)) (inner := [.int .u64 0]) (ok := fun _ => True) (okp := fun _ => True) ?hr ?hp (fun _ hk => hk) trivial (Below.refl _ _) (Nat.le_refl _) (by simp) ?_; (case hd => rfl); (case hg => rfl); (case hr => first | (go_simp; done) | (go_simp; rfl)); (case hp => exact (Reps.one (show Kd.M (Kd.int .u64) _ _ _ 0 [.int .u64 0] from rfl) (Reps.none _ _))); intro v287 w65 ho66 hb hg_ hnew_; clear hg_ hnew_; (first | rw [← Ny286.out] at ho66 | (simp only [Int.reduceToNat] at ho66; rw [← Ny286.out] at ho66)); have n0_ := Aside0.mk (Kd.R_elder' (by (with_reducible repeat (first | apply Kd.R_alloc | apply Kd.R_drewN | apply Kd.R_drew)); exact HO230.out) (Kd.R_base ho66) hb); have n1_ := Aside0.mk (Kd.R_elder' (by (with_reducible repeat (first | apply Kd.R_alloc | apply Kd.R_drewN | apply Kd.R_drew)); exact HO233.out) (Kd.R_base ho66) hb); have n2_ := Aside0.mk (Kd.R_elder' (by (with_reducible repeat (first | apply Kd.R_alloc | apply Kd.R_drewN | apply Kd.R_drew)); exact HO238.out) (Kd.R_base ho66) hb); have n3_ := Aside0.mk (Kd.R_elder' (by (with_reducible repeat (first | apply Kd.R_alloc | apply Kd.R_drewN | apply Kd.R_drew)); exact HO241.out) (Kd.R_base ho66) hb); have n4_ := Aside0.mk (Kd.R_elder' (by (with_reducible repeat (first | apply Kd.R_alloc | apply Kd.R_drewN | apply Kd.R_drew)); exact HO244.out) (Kd.R_base ho66) hb); have n5_ := Aside0.mk (Kd.R_elder' (by (with_reducible repeat (first | apply Kd.R_alloc | apply Kd.R_drewN | apply Kd.R_drew)); exact HO249.out) (Kd.R_base ho66) hb); have n6_ := Aside0.mk (Kd.R_elder' (by (with_reducible repeat (first | apply Kd.R_alloc | apply Kd.R_drewN | apply Kd.R_drew)); exact HO252.out) (Kd.R_base ho66) hb); have n7_ := Aside0.mk (Kd.R_elder' (by (with_reducible repeat (first | apply Kd.R_alloc | apply Kd.R_drewN | apply Kd.R_drew)); exact HO257.out) (Kd.R_base ho66) hb); have n8_ := Aside0.mk (Kd.R_elder' (by (with_reducible repeat (first | apply Kd.R_alloc | apply Kd.R_drewN | apply Kd.R_drew)); exact HO260.out) (Kd.R_base ho66) hb); have n9_ := Aside0.mk (Kd.R_elder' (by (with_reducible repeat (first | apply Kd.R_alloc | apply Kd.R_drewN | apply Kd.R_drew)); exact HO265.out) (Kd.R_base ho66) hb); have n10_ := Aside0.mk (Kd.R_elder' (by (with_reducible repeat (first | apply Kd.R_alloc | apply Kd.R_drewN | apply Kd.R_drew)); exact HO268.out) (Kd.R_base ho66) hb); have n11_ := Aside0.mk (Kd.R_elder' (by (with_reducible repeat (first | apply Kd.R_alloc | apply Kd.R_drewN | apply Kd.R_drew)); exact HO273.out) (Kd.R_base ho66) hb); have n12_ := Aside0.mk (Kd.R_elder' (by (with_reducible repeat (first | apply Kd.R_alloc | apply Kd.R_drewN | apply Kd.R_drew)); exact HO280.out) (Kd.R_base ho66) hb); have n13_ := Aside0.mk (Kd.R_elder' (by (with_reducible repeat (first | apply Kd.R_alloc | apply Kd.R_drewN | apply Kd.R_drew)); exact HO284.out) (Kd.R_base ho66) hb); have n14_ := Aside0.mk (Kd.R_lower (Kd.R_new' (Kd.R_new' (Kd.R_new' (Kd.R_new' (Kd.R_new' (Kd.R_new' (Kd.R_new' (Kd.R_new' (Kd.R_new' (Kd.R_new' (Kd.R_new' (Kd.R_new' (Kd.R_new' (Kd.R_new' ho66 (Kd.R_lt (by (with_reducible repeat (first | apply Kd.R_alloc | apply Kd.R_drewN | apply Kd.R_drew)); exact HO230.out))) (Kd.R_lt (by (with_reducible repeat (first | apply Kd.R_alloc | apply Kd.R_drewN | apply Kd.R_drew)); exact HO233.out))) (Kd.R_lt (by (with_reducible repeat (first | apply Kd.R_alloc | apply Kd.R_drewN | apply Kd.R_drew)); exact HO238.out))) (Kd.R_lt (by (with_reducible repeat (first | apply Kd.R_alloc | apply Kd.R_drewN | apply Kd.R_drew)); exact HO241.out))) (Kd.R_lt (by (with_reducible repeat (first | apply Kd.R_alloc | apply Kd.R_drewN | apply Kd.R_drew)); exact HO244.out))) (Kd.R_lt (by (with_reducible repeat (first | apply Kd.R_alloc | apply Kd.R_drewN | apply Kd.R_drew)); exact HO249.out))) (Kd.R_lt (by (with_reducible repeat (first | apply Kd.R_alloc | apply Kd.R_drewN | apply Kd.R_drew)); exact HO252.out))) (Kd.R_lt (by (with_reducible repeat (first | apply Kd.R_alloc | apply Kd.R_drewN | apply Kd.R_drew)); exact HO257.out))) (Kd.R_lt (by (with_reducible repeat (first | apply Kd.R_alloc | apply Kd.R_drewN | apply Kd.R_drew)); exact HO260.out))) (Kd.R_lt (by (with_reducible repeat (first | apply Kd.R_alloc | apply Kd.R_drewN | apply Kd.R_drew)); exact HO265.out))) (Kd.R_lt (by (with_reducible repeat (first | apply Kd.R_alloc | apply Kd.R_drewN | apply Kd.R_drew)); exact HO268.out))) (Kd.R_lt (by (with_reducible repeat (first | apply Kd.R_alloc | apply Kd.R_drewN | apply Kd.R_drew)); exact HO273.out))) (Kd.R_lt (by (with_reducible repeat (first | apply Kd.R_alloc | apply Kd.R_drewN | apply Kd.R_drew)); exact HO280.out))) (Kd.R_lt (by (with_reducible repeat (first | apply Kd.R_alloc | apply Kd.R_drewN | apply Kd.R_drew)); exact HO284.out))) (below_size (by repeat (first | (with_reducible first | exact HB.out | apply below_alloc | apply pw_below_drewN | apply below_drew1) | exact HB.out)))); have n15_ := Aside0.mk (below_step (by repeat (first | (with_reducible first | exact HB.out | apply below_alloc | apply pw_below_drewN | apply below_drew1) | exact HB.out)) hb); clear HO230; clear HO233; clear HO238; clear HO241; clear HO244; clear HO249; clear HO252; clear HO257; clear HO260; clear HO265; clear HO268; clear HO273; clear HO280; clear HO284; clear HB; have HO230 := n0_; have HO233 := n1_; have HO238 := n2_; have HO241 := n3_; have HO244 := n4_; have HO249 := n5_; have HO252 := n6_; have HO257 := n7_; have HO260 := n8_; have HO265 := n9_; have HO268 := n10_; have HO273 := n11_; have HO280 := n12_; have HO284 := n13_; have HO288 := n14_; have HB := n15_; clear n0_ n1_ n2_ n3_ n4_ n5_ n6_ n7_ n8_ n9_ n10_ n11_ n12_ n13_ n14_ n15_; clear hb ho66; obtain ⟨Ao67, co67, eo67⟩ := Kd.R_slice HO257.out; subst eo67; obtain ⟨Ao68, co68, eo68⟩ := Kd.R_slice HO288.out; subst eo68) | (go_at_call 17; (with_reducible refine (reckonerlaw01_same.calls k _ _ t253 _ _ y286 true _ ?side1 ?side2 ?side3 ?side4 A17.out).mono ?_); (case side1 => repeat (first | exact (Kd.R_reads' HO257.out).2.2 | (with_reducible refine Kd.C_alloc ?_ _) | (with_reducible refine Kd.C_drewN ?_ _) | (with_reducible refine Kd.C_drew ?_))); (case side2 => exact (Kd.R_reads' HO257.out).2.1); (case side3 => repeat (first | exact (Kd.R_reads' HO288.out).2.2 | (with_reducible refine Kd.C_alloc ?_ _) | (with_reducible refine Kd.C_drewN ?_ _) | (with_reducible refine Kd.C_drew ?_))); (case side4 => exact (Kd.R_reads' HO288.out).2.1); rintro e w' ⟨rfl, ⟨nd, rfl⟩⟩) | ((with_reducible refine gate_dst (N := 103) rfl ?_); (try (refine gate_guard (by rfl) ?_; dsimp only)); refine Kd.R_lit (Kd.int .u64) _ 23 ?hg (N := 103) ?hd (xs := ([6148914691236517205] : List Int)) (inner := [.int .u64 6148914691236517205]) (ok := fun _ => True) (okp := fun _ => True) ?hr ?hp (fun _ hk => hk) trivial (Below.refl _ _) (Nat.le_refl _) (by simp) ?_; (case hd => rfl); (case hg => rfl); (case hr => first | (go_simp; done) | (go_simp; rfl)); (case hp => exact (Reps.one (show Kd.M (Kd.int .u64) _ _ _ 6148914691236517205 [.int .u64 6148914691236517205] from rfl) (Reps.none _ _))); intro v291 w69 ho70 hb hg_ hnew_; clear hg_ hnew_; (first | rw [← Ny290.out] at ho70 | (simp only [Int.reduceToNat] at ho70; rw [← Ny290.out] at ho70)); have n0_ := Aside0.mk (Kd.R_elder' (by (with_reducible repeat (first | apply Kd.R_alloc | apply Kd.R_drewN | apply Kd.R_drew)); exact HO230.out) (Kd.R_base ho70) hb); have n1_ := Aside0.mk (Kd.R_elder' (by (with_reducible repeat (first | apply Kd.R_alloc | apply Kd.R_drewN | apply Kd.R_drew)); exact HO233.out) (Kd.R_base ho70) hb); have n2_ := Aside0.mk (Kd.R_elder' (by (with_reducible repeat (first | apply Kd.R_alloc | apply Kd.R_drewN | apply Kd.R_drew)); exact HO238.out) (Kd.R_base ho70) hb); have n3_ := Aside0.mk (Kd.R_elder' (by (with_reducible repeat (first | apply Kd.R_alloc | apply Kd.R_drewN | apply Kd.R_drew)); exact HO241.out) (Kd.R_base ho70) hb); have n4_ := Aside0.mk (Kd.R_elder' (by (with_reducible repeat (first | apply Kd.R_alloc | apply Kd.R_drewN | apply Kd.R_drew)); exact HO244.out) (Kd.R_base ho70) hb); have n5_ := Aside0.mk (Kd.R_elder' (by (with_reducible repeat (first | apply Kd.R_alloc | apply Kd.R_drewN | apply Kd.R_drew)); exact HO249.out) (Kd.R_base ho70) hb); have n6_ := Aside0.mk (Kd.R_elder' (by (with_reducible repeat (first | apply Kd.R_alloc | apply Kd.R_drewN | apply Kd.R_drew)); exact HO252.out) (Kd.R_base ho70) hb); have n7_ := Aside0.mk (Kd.R_elder' (by (with_reducible repeat (first | apply Kd.R_alloc | apply Kd.R_drewN | apply Kd.R_drew)); exact HO257.out) (Kd.R_base ho70) hb); have n8_ := Aside0.mk (Kd.R_elder' (by (with_reducible repeat (first | apply Kd.R_alloc | apply Kd.R_drewN | apply Kd.R_drew)); exact HO260.out) (Kd.R_base ho70) hb); have n9_ := Aside0.mk (Kd.R_elder' (by (with_reducible repeat (first | apply Kd.R_alloc | apply Kd.R_drewN | apply Kd.R_drew)); exact HO265.out) (Kd.R_base ho70) hb); have n10_ := Aside0.mk (Kd.R_elder' (by (with_reducible repeat (first | apply Kd.R_alloc | apply Kd.R_drewN | apply Kd.R_drew)); exact HO268.out) (Kd.R_base ho70) hb); have n11_ := Aside0.mk (Kd.R_elder' (by (with_reducible repeat (first | apply Kd.R_alloc | apply Kd.R_drewN | apply Kd.R_drew)); exact HO273.out) (Kd.R_base ho70) hb); have n12_ := Aside0.mk (Kd.R_elder' (by (with_reducible repeat (first | apply Kd.R_alloc | apply Kd.R_drewN | apply Kd.R_drew)); exact HO280.out) (Kd.R_base ho70) hb); have n13_ := Aside0.mk (Kd.R_elder' (by (with_reducible repeat (first | apply Kd.R_alloc | apply Kd.R_drewN | apply Kd.R_drew)); exact HO284.out) (Kd.R_base ho70) hb); have n14_ := Aside0.mk (Kd.R_elder' (by (with_reducible repeat (first | apply Kd.R_alloc | apply Kd.R_drewN | apply Kd.R_drew)); exact HO288.out) (Kd.R_base ho70) hb); have n15_ := Aside0.mk (Kd.R_lower (Kd.R_new' (Kd.R_new' (Kd.R_new' (Kd.R_new' (Kd.R_new' (Kd.R_new' (Kd.R_new' (Kd.R_new' (Kd.R_new' (Kd.R_new' (Kd.R_new' (Kd.R_new' (Kd.R_new' (Kd.R_new' (Kd.R_new' ho70 (Kd.R_lt (by (with_reducible repeat (first | apply Kd.R_alloc | apply Kd.R_drewN | apply Kd.R_drew)); exact HO230.out))) (Kd.R_lt (by (with_reducible repeat (first | apply Kd.R_alloc | apply Kd.R_drewN | apply Kd.R_drew)); exact HO233.out))) (Kd.R_lt (by (with_reducible repeat (first | apply Kd.R_alloc | apply Kd.R_drewN | apply Kd.R_drew)); exact HO238.out))) (Kd.R_lt (by (with_reducible repeat (first | apply Kd.R_alloc | apply Kd.R_drewN | apply Kd.R_drew)); exact HO241.out))) (Kd.R_lt (by (with_reducible repeat (first | apply Kd.R_alloc | apply Kd.R_drewN | apply Kd.R_drew)); exact HO244.out))) (Kd.R_lt (by (with_reducible repeat (first | apply Kd.R_alloc | apply Kd.R_drewN | apply Kd.R_drew)); exact HO249.out))) (Kd.R_lt (by (with_reducible repeat (first | apply Kd.R_alloc | apply Kd.R_drewN | apply Kd.R_drew)); exact HO252.out))) (Kd.R_lt (by (with_reducible repeat (first | apply Kd.R_alloc | apply Kd.R_drewN | apply Kd.R_drew)); exact HO257.out))) (Kd.R_lt (by (with_reducible repeat (first | apply Kd.R_alloc | apply Kd.R_drewN | apply Kd.R_drew)); exact HO260.out))) (Kd.R_lt (by (with_reducible repeat (first | apply Kd.R_alloc | apply Kd.R_drewN | apply Kd.R_drew)); exact HO265.out))) (Kd.R_lt (by (with_reducible repeat (first | apply Kd.R_alloc | apply Kd.R_drewN | apply Kd.R_drew)); exact HO268.out))) (Kd.R_lt (by (with_reducible repeat (first | apply Kd.R_alloc | apply Kd.R_drewN | apply Kd.R_drew)); exact HO273.out))) (Kd.R_lt (by (with_reducible repeat (first | apply Kd.R_alloc | apply Kd.R_drewN | apply Kd.R_drew)); exact HO280.out))) (Kd.R_lt (by (with_reducible repeat (first | apply Kd.R_alloc | apply Kd.R_drewN | apply Kd.R_drew)); exact HO284.out))) (Kd.R_lt (by (with_reducible repeat (first | apply Kd.R_alloc | apply Kd.R_drewN | apply Kd.R_drew)); exact HO288.out))) (below_size (by repeat (first | (with_reducible first | exact HB.out | apply below_alloc | apply pw_below_drewN | apply below_drew1) | exact HB.out)))); have n16_ := Aside0.mk (below_step (by repeat (first | (with_reducible first | exact HB.out | apply below_alloc | apply pw_below_drewN | apply below_drew1) | exact HB.out)) hb); clear HO230; clear HO233; clear HO238; clear HO241; clear HO244; clear HO249; clear HO252; clear HO257; clear HO260; clear HO265; clear HO268; clear HO273; clear HO280; clear HO284; clear HO288; clear HB; have HO230 := n0_; have HO233 := n1_; have HO238 := n2_; have HO241 := n3_; have HO244 := n4_; have HO249 := n5_; have HO252 := n6_; have HO257 := n7_; have HO260 := n8_; have HO265 := n9_; have HO268 := n10_; have HO273 := n11_; have HO280 := n12_; have HO284 := n13_; have HO288 := n14_; have HO292 := n15_; have HB := n16_; clear n0_ n1_ n2_ n3_ n4_ n5_ n6_ n7_ n8_ n9_ n10_ n11_ n12_ n13_ n14_ n15_ n16_; clear hb ho70; obtain ⟨Ao71, co71, eo71⟩ := Kd.R_slice HO265.out; subst eo71; obtain ⟨Ao72, co72, eo72⟩ := Kd.R_slice HO292.out; subst eo72) | (go_at_call 17; (with_reducible refine (reckonerlaw01_same.calls k _ _ t261 _ _ y290 true _ ?side1 ?side2 ?side3 ?side4 A21.out).mono ?_); (case side1 => repeat (first | exact (Kd.R_reads' HO265.out).2.2 | (with_reducible refine Kd.C_alloc ?_ _) | (with_reducible refine Kd.C_drewN ?_ _) | (with_reducible refine Kd.C_drew ?_))); (case side2 => exact (Kd.R_reads' HO265.out).2.1); (case side3 => repeat (first | exact (Kd.R_reads' HO292.out).2.2 | (with_reducible refine Kd.C_alloc ?_ _) | (with_reducible refine Kd.C_drewN ?_ _) | (with_reducible refine Kd.C_drew ?_))); (case side4 => exact (Kd.R_reads' HO292.out).2.1); rintro e w' ⟨rfl, ⟨nd, rfl⟩⟩) | ((with_reducible refine gate_dst (N := 116) rfl ?_); (try (refine gate_guard (by rfl) ?_; dsimp only)); refine Kd.R_lit (Kd.int .u64) _ 23 ?hg (N := 116) ?hd (xs := ([1] : List Int)) (inner := [.int .u64 1]) (ok := fun _ => True) (okp := fun _ => True) ?hr ?hp (fun _ hk => hk) trivial (Below.refl _ _) (Nat.le_refl _) (by simp) ?_; (case hd => rfl); (case hg => rfl); (case hr => first | (go_simp; done) | (go_simp; rfl)); (case hp => exact (Reps.one (show Kd.M (Kd.int .u64) _ _ _ 1 [.int .u64 1] from rfl) (Reps.none _ _))); intro v295 w73 ho74 hb hg_ hnew_; clear hg_ hnew_; (first | rw [← Ny294.out] at ho74 | (simp only [Int.reduceToNat] at ho74; rw [← Ny294.out] at ho74)); have n0_ := Aside0.mk (Kd.R_elder' (by (with_reducible repeat (first | apply Kd.R_alloc | apply Kd.R_drewN | apply Kd.R_drew)); exact HO230.out) (Kd.R_base ho74) hb); have n1_ := Aside0.mk (Kd.R_elder' (by (with_reducible repeat (first | apply Kd.R_alloc | apply Kd.R_drewN | apply Kd.R_drew)); exact HO233.out) (Kd.R_base ho74) hb); have n2_ := Aside0.mk (Kd.R_elder' (by (with_reducible repeat (first | apply Kd.R_alloc | apply Kd.R_drewN | apply Kd.R_drew)); exact HO238.out) (Kd.R_base ho74) hb); have n3_ := Aside0.mk (Kd.R_elder' (by (with_reducible repeat (first | apply Kd.R_alloc | apply Kd.R_drewN | apply Kd.R_drew)); exact HO241.out) (Kd.R_base ho74) hb); have n4_ := Aside0.mk (Kd.R_elder' (by (with_reducible repeat (first | apply Kd.R_alloc | apply Kd.R_drewN | apply Kd.R_drew)); exact HO244.out) (Kd.R_base ho74) hb); have n5_ := Aside0.mk (Kd.R_elder' (by (with_reducible repeat (first | apply Kd.R_alloc | apply Kd.R_drewN | apply Kd.R_drew)); exact HO249.out) (Kd.R_base ho74) hb); have n6_ := Aside0.mk (Kd.R_elder' (by (with_reducible repeat (first | apply Kd.R_alloc | apply Kd.R_drewN | apply Kd.R_drew)); exact HO252.out) (Kd.R_base ho74) hb); have n7_ := Aside0.mk (Kd.R_elder' (by (with_reducible repeat (first | apply Kd.R_alloc | apply Kd.R_drewN | apply Kd.R_drew)); exact HO257.out) (Kd.R_base ho74) hb); have n8_ := Aside0.mk (Kd.R_elder' (by (with_reducible repeat (first | apply Kd.R_alloc | apply Kd.R_drewN | apply Kd.R_drew)); exact HO260.out) (Kd.R_base ho74) hb); have n9_ := Aside0.mk (Kd.R_elder' (by (with_reducible repeat (first | apply Kd.R_alloc | apply Kd.R_drewN | apply Kd.R_drew)); exact HO265.out) (Kd.R_base ho74) hb); have n10_ := Aside0.mk (Kd.R_elder' (by (with_reducible repeat (first | apply Kd.R_alloc | apply Kd.R_drewN | apply Kd.R_drew)); exact HO268.out) (Kd.R_base ho74) hb); have n11_ := Aside0.mk (Kd.R_elder' (by (with_reducible repeat (first | apply Kd.R_alloc | apply Kd.R_drewN | apply Kd.R_drew)); exact HO273.out) (Kd.R_base ho74) hb); have n12_ := Aside0.mk (Kd.R_elder' (by (with_reducible repeat (first | apply Kd.R_alloc | apply Kd.R_drewN | apply Kd.R_drew)); exact HO280.out) (Kd.R_base ho74) hb); have n13_ := Aside0.mk (Kd.R_elder' (by (with_reducible repeat (first | apply Kd.R_alloc | apply Kd.R_drewN | apply Kd.R_drew)); exact HO284.out) (Kd.R_base ho74) hb); have n14_ := Aside0.mk (Kd.R_elder' (by (with_reducible repeat (first | apply Kd.R_alloc | apply Kd.R_drewN | apply Kd.R_drew)); exact HO288.out) (Kd.R_base ho74) hb); have n15_ := Aside0.mk (Kd.R_elder' (by (with_reducible repeat (first | apply Kd.R_alloc | apply Kd.R_drewN | apply Kd.R_drew)); exact HO292.out) (Kd.R_base ho74) hb); have n16_ := Aside0.mk (Kd.R_lower (Kd.R_new' (Kd.R_new' (Kd.R_new' (Kd.R_new' (Kd.R_new' (Kd.R_new' (Kd.R_new' (Kd.R_new' (Kd.R_new' (Kd.R_new' (Kd.R_new' (Kd.R_new' (Kd.R_new' (Kd.R_new' (Kd.R_new' (Kd.R_new' ho74 (Kd.R_lt (by (with_reducible repeat (first | apply Kd.R_alloc | apply Kd.R_drewN | apply Kd.R_drew)); exact HO230.out))) (Kd.R_lt (by (with_reducible repeat (first | apply Kd.R_alloc | apply Kd.R_drewN | apply Kd.R_drew)); exact HO233.out))) (Kd.R_lt (by (with_reducible repeat (first | apply Kd.R_alloc | apply Kd.R_drewN | apply Kd.R_drew)); exact HO238.out))) (Kd.R_lt (by (with_reducible repeat (first | apply Kd.R_alloc | apply Kd.R_drewN | apply Kd.R_drew)); exact HO241.out))) (Kd.R_lt (by (with_reducible repeat (first | apply Kd.R_alloc | apply Kd.R_drewN | apply Kd.R_drew)); exact HO244.out))) (Kd.R_lt (by (with_reducible repeat (first | apply Kd.R_alloc | apply Kd.R_drewN | apply Kd.R_drew)); exact HO249.out))) (Kd.R_lt (by (with_reducible repeat (first | apply Kd.R_alloc | apply Kd.R_drewN | apply Kd.R_drew)); exact HO252.out))) (Kd.R_lt (by (with_reducible repeat (first | apply Kd.R_alloc | apply Kd.R_drewN | apply Kd.R_drew)); exact HO257.out))) (Kd.R_lt (by (with_reducible repeat (first | apply Kd.R_alloc | apply Kd.R_drewN | apply Kd.R_drew)); exact HO260.out))) (Kd.R_lt (by (with_reducible repeat (first | apply Kd.R_alloc | apply Kd.R_drewN | apply Kd.R_drew)); exact HO265.out))) (Kd.R_lt (by (with_reducible repeat (first | apply Kd.R_alloc | apply Kd.R_drewN | apply Kd.R_drew)); exact HO268.out))) (Kd.R_lt (by (with_reducible repeat (first | apply Kd.R_alloc | apply Kd.R_drewN | apply Kd.R_drew)); exact HO273.out))) (Kd.R_lt (by (with_reducible repeat (first | apply Kd.R_alloc | apply Kd.R_drewN | apply Kd.R_drew)); exact HO280.out))) (Kd.R_lt (by (with_reducible repeat (first | apply Kd.R_alloc | apply Kd.R_drewN | apply Kd.R_drew)); exact HO284.out))) (Kd.R_lt (by (with_reducible repeat (first | apply Kd.R_alloc | apply Kd.R_drewN | apply Kd.R_drew)); exact HO288.out))) (Kd.R_lt (by (with_reducible repeat (first | apply Kd.R_alloc | apply Kd.R_drewN | apply Kd.R_drew)); exact HO292.out))) (below_size (by repeat (first | (with_reducible first | exact HB.out | apply below_alloc | apply pw_below_drewN | apply below_drew1) | exact HB.out)))); have n17_ := Aside0.mk (below_step (by repeat (first | (with_reducible first | exact HB.out | apply below_alloc | apply pw_below_drewN | apply below_drew1) | exact HB.out)) hb); clear HO230; clear HO233; clear HO238; clear HO241; clear HO244; clear HO249; clear HO252; clear HO257; clear HO260; clear HO265; clear HO268; clear HO273; clear HO280; clear HO284; clear HO288; clear HO292; clear HB; have HO230 := n0_; have HO233 := n1_; have HO238 := n2_; have HO241 := n3_; have HO244 := n4_; have HO249 := n5_; have HO252 := n6_; have HO257 := n7_; have HO260 := n8_; have HO265 := n9_; have HO268 := n10_; have HO273 := n11_; have HO280 := n12_; have HO284 := n13_; have HO288 := n14_; have HO292 := n15_; have HO296 := n16_; have HB := n17_; clear n0_ n1_ n2_ n3_ n4_ n5_ n6_ n7_ n8_ n9_ n10_ n11_ n12_ n13_ n14_ n15_ n16_ n17_; clear hb ho74; obtain ⟨Ao75, co75, eo75⟩ := Kd.R_slice HO273.out; subst eo75; obtain ⟨Ao76, co76, eo76⟩ := Kd.R_slice HO296.out; subst eo76) | (go_at_call 17; (with_reducible refine (reckonerlaw01_same.calls k _ _ t269 _ _ y294 true _ ?side1 ?side2 ?side3 ?side4 A25.out).mono ?_); (case side1 => repeat (first | exact (Kd.R_reads' HO273.out).2.2 | (with_reducible refine Kd.C_alloc ?_ _) | (with_reducible refine Kd.C_drewN ?_ _) | (with_reducible refine Kd.C_drew ?_))); (case side2 => exact (Kd.R_reads' HO273.out).2.1); (case side3 => repeat (first | exact (Kd.R_reads' HO296.out).2.2 | (with_reducible refine Kd.C_alloc ?_ _) | (with_reducible refine Kd.C_drewN ?_ _) | (with_reducible refine Kd.C_drew ?_))); (case side4 => exact (Kd.R_reads' HO296.out).2.1); rintro e w' ⟨rfl, ⟨nd, rfl⟩⟩))
                   go_ret
                   exact ⟨by first | rfl | (simp [errW_none, errW_some] <;> rfl) | (simp [*, errW_none, errW_some] <;> rfl), by repeat (first | (with_reducible first | exact HB.out | apply below_alloc | apply pw_below_drewN | apply below_drew1) | exact HB.out)⟩
                  ·rw [if_neg c30] at H
                   exact absurd H (by simp)
                 ·rw [if_neg c29] at H
                  exact absurd H (by simp)
                ·rw [if_neg c28] at H
                 exact absurd H (by simp)
               ·rw [if_neg c27] at H
                exact absurd H (by simp)
              ·replace c26 := Bool.eq_false_iff.mpr c26
               subst c26
               have H1 : (none) = some r := by rw [if_neg (show ¬ (false = true) by decide)] at H; exact H
               clear H
               have H := H1
               clear H1
               exact absurd H (by simp)
             ·rw [if_neg c24] at H
              exact absurd H (by simp)
            ·rw [if_neg c23] at H
             exact absurd H (by simp)
           ·replace c22 := Bool.eq_false_iff.mpr c22
            subst c22
            have H1 : (none) = some r := by rw [if_neg (show ¬ (false = true) by decide)] at H; exact H
            clear H
            have H := H1
            clear H1
            exact absurd H (by simp)
          ·rw [if_neg c20] at H
           exact absurd H (by simp)
         ·rw [if_neg c19] at H
          exact absurd H (by simp)
        ·replace c18 := Bool.eq_false_iff.mpr c18
         subst c18
         have H1 : (none) = some r := by rw [if_neg (show ¬ (false = true) by decide)] at H; exact H
         clear H
         have H := H1
         clear H1
         exact absurd H (by simp)
       ·rw [if_neg c16] at H
        exact absurd H (by simp)
      ·rw [if_neg c15] at H
       exact absurd H (by simp)
     ·replace c14 := Bool.eq_false_iff.mpr c14
      subst c14
      have H1 : (none) = some r := by rw [if_neg (show ¬ (false = true) by decide)] at H; exact H
      clear H
      have H := H1
      clear H1
      exact absurd H (by simp)
    ·rw [if_neg c12] at H
     exact absurd H (by simp)
   ·rw [if_neg c11] at H
    exact absurd H (by simp)
  ·replace c10 := Bool.eq_false_iff.mpr c10
   subst c10
   have H1 : (none) = some r := by rw [if_neg (show ¬ (false = true) by decide)] at H; exact H
   clear H
   have H := H1
   clear H1
   exact absurd H (by simp)
 ·rw [if_neg c8] at H
  exact absurd H (by simp)
end Go.Proofs.YtldefhhfcbmbpaaDoor.T
-- PRINTED by print.py (a twelfth state) out of the translation. Not trusted: Lean checks it.
namespace Go.Proofs.YtldefhhfcbmbpaaDoor.T
open Go.RowKit Go.Proofs.YtldefhhfcbmbpaaDoorW.PrintWords Go.Proofs.YtldefhhfcbmbpaaDoorW.PrintLast Go.Proofs.YtldefhhfcbmbpaaDoorW.PrintMore
attribute [local go_sem] max2_int min2_int max_two min_two max_three min_three max_four min_four   -- for this text's walks alone
open YtldefhhfcbmbpaaDoor.Ex
set_option linter.unusedVariables false
set_option linter.unusedSimpArgs false

-- NOT PRINTED: function 8 (reckonerlaw01_WordsOwn)

/-! ### words_Negate: function 39 -/
def words_Negate.f (l0 : List Int) : Option (List Int × Bool × Int) := if 0 ≤ (l0.length : Int) then (if ((l0.length : Int) : Int).toNat ≤ 35184372088832 then ((words_Sub.f (List.replicate ((l0.length : Int) : Int).toNat 0) l0 0).bind fun bt721 => (some (bt721.1, (bt721.2.1 == 1), bt721.2.2))) else (none)) else (none)
set_option maxHeartbeats 8000000 in
set_option maxRecDepth 100000 in
theorem words_Negate.calls (A0 : Option Addr) (c0 : Nat) (l0 : List Int) (r1 : List Int) (r2 : Bool) (r3 : Int) (w : World) (hr0 : Kd.C (Kd.int .u64) w A0 l0.length l0) (hc0 : l0.length ≤ c0) (h : words_Negate.f l0 = some (r1, r2, r3)) :
  Calls Tryd.prog 39 #[.slice A0 l0.length c0] w fun e w' => ∃ v0_ : Value, e = .returned (.tuple #[v0_, .bool r2, .int .i64 r3]) ∧ Kd.R (Kd.int .u64) 23 w' w.heap.size (fun _ => True) v0_ r1 ∧ Below w.heap.size w w' := by
 have HR0 := Aside0.mk hr0
 have HC0 := Aside0.mk hc0
 clear hr0 hc0
 have HB := Aside0.mk (Below.refl w.heap.size w)
 have H : (if 0 ≤ (l0.length : Int) then (if ((l0.length : Int) : Int).toNat ≤ 35184372088832 then ((words_Sub.f (List.replicate ((l0.length : Int) : Int).toNat 0) l0 0).bind fun bt721 => (some (bt721.1, (bt721.2.1 == 1), bt721.2.2))) else (none)) else (none)) = some (r1, r2, r3) := h
 clear h
 by_cases c2 : 0 ≤ (l0.length : Int)
 ·rw [if_pos c2] at H
  have c2b0 := eq_true c2
  have c2b1 : decide (0 ≤ (l0.length : Int)) = true := decide_eq_true c2
  clear c2
  by_cases c3 : ((l0.length : Int) : Int).toNat ≤ 35184372088832
  ·rw [if_pos c3] at H
   have c3b0 := eq_true c3
   have c3b1 : decide (((l0.length : Int) : Int).toNat ≤ 35184372088832) = true := decide_eq_true c3
   clear c3
   obtain ⟨y718, hy718⟩ : ∃ y_ : List Int, y_ = (List.replicate ((l0.length : Int) : Int).toNat 0) := ⟨_, rfl⟩
   replace H : ((words_Sub.f y718 l0 0).bind fun bt721 => (some (bt721.1, (bt721.2.1 == 1), bt721.2.2))) = some (r1, r2, r3) := by first | (rw [hy718]; with_reducible exact H) | (have H2_ := (Option.bind_some _ _).symm.trans H; rw [hy718]; with_reducible exact H2_) | (have H2_ := (Option.bind_some _ _).symm.trans H; with_reducible exact H2_) | with_reducible exact H | (rw [hy718]; exact H) | exact H
   have Ny718 := Aside0.mk hy718
   clear hy718
   replace H := Option.bind_eq_some_iff.mp H
   obtain ⟨⟨t721, t722, t723⟩, A40, H⟩ := H
   replace H : (some (t721, (t722 == 1), t723)) = some (r1, r2, r3) := H
   have A4 := Aside0.mk A40
   clear A40
   simp only [Option.some.injEq, Prod.mk.injEq] at H
   obtain ⟨rfl, rfl, rfl⟩ := H
   go_enter Tryd.func39, Tryd.ntmps39
   go_wp2_with (first | ((with_reducible refine gate_dst (N := 11) rfl ?_); refine Kd.R_make (Kd.int .u64) _ 23 rfl (N := 11) rfl 22 _ _ rfl (l0.length : Int) rfl rfl Tryd.underlying22 (.int .u64 0) 8 info23 rfl (by decide) (by omega) 0 (ok := fun _ => True) (okp := fun _ => True) rfl (fun _ hk => hk) trivial (of_decide_eq_true (by first | (with_reducible assumption) | assumption)) (Nat.le_trans (Nat.mul_le_mul_right _ (of_decide_eq_true (by first | (with_reducible assumption) | assumption) : (l0.length : Int).toNat ≤ 35184372088832)) (by omega)) (Below.refl _ _) (Nat.le_refl _) ?_; intro v719 w5 ho6 hb hg_ hnew_; clear hg_ hnew_; (first | rw [← Ny718.out] at ho6 | (simp only [Int.reduceToNat] at ho6; rw [← Ny718.out] at ho6)); have n0_ := Aside0.mk (Kd.R_lower ho6 (below_size (by repeat (first | (with_reducible first | exact HB.out | apply below_alloc | apply pw_below_drewN | apply below_drew1) | exact HB.out)))); have n1_ := Aside0.mk (below_step (by repeat (first | (with_reducible first | exact HB.out | apply below_alloc | apply pw_below_drewN | apply below_drew1) | exact HB.out)) hb); clear HB; have HO720 := n0_; have HB := n1_; clear n0_ n1_; clear hb ho6; obtain ⟨Ao7, co7, eo7⟩ := Kd.R_slice HO720.out; subst eo7) | ((with_reducible refine gate_callee (f := 14) rfl ?_); refine goesL_ (some 13) rfl rfl Tryd.func14 (by kernel_rfl) rfl #[.slice Ao7 y718.length co7, .slice A0 l0.length c0, .int .u64 0] rfl (by (try simp only [List.map_toArray, List.map_cons, List.map_nil]); first | done | rfl | (simp only [List.length_drop, List.length_take]; rfl)) ?_; (with_reducible refine (words_Sub.calls _ _ y718 _ _ l0 0 t721 t722 t723 _ ?side1 ?side2 ?side3 ?side4 A4.out).mono ?_); (case side1 => repeat (first | exact (Kd.R_reads' HO720.out).2.2 | (with_reducible refine Kd.C_alloc ?_ _) | (with_reducible refine Kd.C_drewN ?_ _) | (with_reducible refine Kd.C_drew ?_))); (case side2 => exact (Kd.R_reads' HO720.out).2.1); (case side3 => repeat (first | exact (Kd.C_below HR0.out HB.out) | (with_reducible refine Kd.C_alloc ?_ _) | (with_reducible refine Kd.C_drewN ?_ _) | (with_reducible refine Kd.C_drew ?_))); (case side4 => exact HC0.out); rintro e w8 ⟨v724, rfl, ho0, hb⟩; refine ⟨_, rfl, ?_⟩; have n0_ := Aside0.mk (Kd.R_elder' (by (with_reducible repeat (first | apply Kd.R_alloc | apply Kd.R_drewN | apply Kd.R_drew)); exact HO720.out) (Kd.R_base ho0) hb); have n1_ := Aside0.mk (Kd.R_lower (Kd.R_new' ho0 (Kd.R_lt (by (with_reducible repeat (first | apply Kd.R_alloc | apply Kd.R_drewN | apply Kd.R_drew)); exact HO720.out))) (below_size (by repeat (first | (with_reducible first | exact HB.out | apply below_alloc | apply pw_below_drewN | apply below_drew1) | exact HB.out)))); have n2_ := Aside0.mk (below_step (by repeat (first | (with_reducible first | exact HB.out | apply below_alloc | apply pw_below_drewN | apply below_drew1) | exact HB.out)) hb); clear HO720; clear HB; have HO720 := n0_; have HO725 := n1_; have HB := n2_; clear n0_ n1_ n2_; (try clear hb); (try clear hb2); (try clear hk); (try clear hi); (try clear ho0)))
   go_ret3
   exact ⟨_, by first | rfl | (simp [errW_none, errW_some] <;> rfl) | (simp [*, errW_none, errW_some] <;> rfl), by (with_reducible repeat (first | apply Kd.R_alloc | apply Kd.R_drewN | apply Kd.R_drew)); exact Kd.R_mono HO725.out (fun _ hk => trivial), by repeat (first | (with_reducible first | exact HB.out | apply below_alloc | apply pw_below_drewN | apply below_drew1) | exact HB.out)⟩
  ·rw [if_neg c3] at H
   exact absurd H (by simp)
 ·rw [if_neg c2] at H
  exact absurd H (by simp)
end Go.Proofs.YtldefhhfcbmbpaaDoor.T
-- PRINTED by print.py (a twelfth state) out of the translation. Not trusted: Lean checks it.
namespace Go.Proofs.YtldefhhfcbmbpaaDoor.T
open Go.RowKit Go.Proofs.YtldefhhfcbmbpaaDoorW.PrintWords Go.Proofs.YtldefhhfcbmbpaaDoorW.PrintLast Go.Proofs.YtldefhhfcbmbpaaDoorW.PrintMore
attribute [local go_sem] max2_int min2_int max_two min_two max_three min_three max_four min_four   -- for this text's walks alone
open YtldefhhfcbmbpaaDoor.Ex
set_option linter.unusedVariables false
set_option linter.unusedSimpArgs false

/-! ### reckonerlaw01_WordsBacks: function 9 -/
mutual
def reckonerlaw01_WordsBacks.j0 : Nat → Int → List Int → List Int → Int → Int → Int → Bool → Option (Bool)
  | 0, _, _, _, _, _, _, _ => none
  | k + 1, x4, x7, x8, x9, x11, x12, x93 => if x93 = true then (none) else ((words_AddMul.f x7 x8 x11).bind fun bt743 => ((words_SubMul.f bt743.1 x8 x11).bind fun bt748 => (if bt743.2.2 = 0 then (if bt748.2.2 = 0 then ((reckonerlaw01_same.f k bt748.1 x7).bind fun t753 => (if t753 = true then (reckonerlaw01_WordsBacks.j1 k x4 x7 x9 x11 x12 (bt743.2.1 != bt748.2.1)) else (reckonerlaw01_WordsBacks.j1 k x4 x7 x9 x11 x12 true))) else (reckonerlaw01_WordsBacks.j1 k x4 x7 x9 x11 x12 true)) else (reckonerlaw01_WordsBacks.j1 k x4 x7 x9 x11 x12 true))))
def reckonerlaw01_WordsBacks.j1 : Nat → Int → List Int → Int → Int → Int → Bool → Option (Bool)
  | 0, _, _, _, _, _, _ => none
  | k + 1, x4, x7, x9, x11, x12, x126 => if x126 = true then (none) else (if x11 = 0 then (none) else ((words_MulWord.f x7 x11 (Int.tmod x4 x11)).bind fun bt754 => ((words_DivWord.f bt754.1 x11 bt754.2.1).bind fun bt759 => (if bt754.2.2 = 0 then (if bt759.2.2 = 0 then ((reckonerlaw01_same.f k bt759.1 x7).bind fun t764 => (if t764 = true then (reckonerlaw01_WordsBacks.j2 k x7 x9 x12 (bt759.2.1 != (Int.tmod x4 x11))) else (reckonerlaw01_WordsBacks.j2 k x7 x9 x12 true))) else (reckonerlaw01_WordsBacks.j2 k x7 x9 x12 true)) else (reckonerlaw01_WordsBacks.j2 k x7 x9 x12 true)))))
def reckonerlaw01_WordsBacks.j2 : Nat → List Int → Int → Int → Bool → Option (Bool)
  | 0, _, _, _, _ => none
  | k + 1, x7, x9, x12, x165 => if x165 = true then (none) else ((words_Left.f x7 x12).bind fun bt765 => ((words_Right.f bt765.1 x12).bind fun bt770 => (if bt765.2.2 = 0 then (if bt770.2.2 = 0 then (reckonerlaw01_WordsBacks.j3 k x7 x9 x12 bt765.2.1 bt770.1 ((bt770.1.length : Int) != x9)) else (reckonerlaw01_WordsBacks.j3 k x7 x9 x12 bt765.2.1 bt770.1 true)) else (reckonerlaw01_WordsBacks.j3 k x7 x9 x12 bt765.2.1 bt770.1 true))))
def reckonerlaw01_WordsBacks.j3 : Nat → List Int → Int → Int → Int → List Int → Bool → Option (Bool)
  | 0, _, _, _, _, _, _ => none
  | k + 1, x7, x9, x12, x32, x34, x191 => if x191 = true then (none) else (if x9 > 0 then (reckonerlaw01_WordsBacks.j4 k x7 x9 x12 x32 x34 (decide (x12 > 0))) else (reckonerlaw01_WordsBacks.j4 k x7 x9 x12 x32 x34 false))
def reckonerlaw01_WordsBacks.j4 : Nat → List Int → Int → Int → Int → List Int → Bool → Option (Bool)
  | 0, _, _, _, _, _, _ => none
  | k + 1, x7, x9, x12, x32, x34, x197 => if x197 = true then (if 0 ≤ (wrap64 (x9 - 1)) then (if (wrap64 (x9 - 1)) < (x34.length : Int) then (if 0 ≤ (wrap64 (64 - x12)) then (reckonerlaw01_WordsBacks.j5 k x7 x9 (x34.set ((wrap64 (x9 - 1)) : Int).toNat (Go.bits .or .u64 (rd x34 (wrap64 (x9 - 1))) (shl .u64 x32 (wrap64 (64 - x12)))))) else (none)) else (none)) else (none)) else (reckonerlaw01_WordsBacks.j5 k x7 x9 x34)
def reckonerlaw01_WordsBacks.j5 : Nat → List Int → Int → List Int → Option (Bool)
  | 0, _, _, _ => none
  | k + 1, x7, x9, x34 => (words_Negate.f x7).bind fun bt777 => (if 0 ≤ x9 then (if (x9 : Int).toNat ≤ 35184372088832 then ((words_Sub.f (List.replicate (x9 : Int).toNat 0) x7 0).bind fun bt785 => ((reckonerlaw01_same.f k x34 x7).bind fun t790 => (if t790 = true then (if bt777.2.2 = 0 then (if bt785.2.2 = 0 then ((reckonerlaw01_same.f k bt777.1 bt785.1).bind fun t791 => (if t791 = true then (if (bt777.2.1 == (bt785.2.1 == 1)) = true then ((reckonerlaw01_awake.f k).bind fun t792 => (some t792)) else (none)) else (none))) else (none)) else (none)) else (none)))) else (none)) else (none))
end
def reckonerlaw01_WordsBacks.f (k : Nat) (l0 : List Int) (l1 : List Int) (a2 : Int) (a3 : Int) (a4 : Int) : Option (Bool) := (reckonerlaw01_equal.f l0 l1).bind fun bt726 => ((words_Add.f bt726.1 bt726.2 (Int.tmod a2 2)).bind fun bt732 => ((words_Sub.f bt732.1 bt726.2 (Int.tmod a2 2)).bind fun bt737 => (if bt732.2.2 = 0 then (if bt737.2.2 = 0 then ((reckonerlaw01_same.f k bt737.1 bt726.1).bind fun t742 => (if t742 = true then (reckonerlaw01_WordsBacks.j0 k a4 bt726.1 bt726.2 (bt726.1.length : Int) (mx a3 1) (wrap64 (Int.tmod a4 64)) (bt732.2.1 != bt737.2.1)) else (reckonerlaw01_WordsBacks.j0 k a4 bt726.1 bt726.2 (bt726.1.length : Int) (mx a3 1) (wrap64 (Int.tmod a4 64)) true))) else (reckonerlaw01_WordsBacks.j0 k a4 bt726.1 bt726.2 (bt726.1.length : Int) (mx a3 1) (wrap64 (Int.tmod a4 64)) true)) else (reckonerlaw01_WordsBacks.j0 k a4 bt726.1 bt726.2 (bt726.1.length : Int) (mx a3 1) (wrap64 (Int.tmod a4 64)) true))))
def reckonerlaw01_WordsBacks.T3 : Bool × List (List Nat × List Nat) := (true, [([], []), ([0], [0]), ([1], [1]), ([], []), ([3], [3]), ([4], [4]), ([2, 0, 1, 2], [2]), ([5, 6, 0, 1, 2, 3, 4, 5, 6], [5])])
def reckonerlaw01_WordsBacks.B3 : List Nat := [0, 1, 3, 0, 8, 24, 7, 127]
theorem reckonerlaw01_WordsBacks.tab3 : rtab .any (opsOf Tryd.f9 3) = reckonerlaw01_WordsBacks.T3 := by kernel_rfl
theorem reckonerlaw01_WordsBacks.bits3 : waitsOk reckonerlaw01_WordsBacks.T3.2 reckonerlaw01_WordsBacks.B3 = true := by kernel_rfl
def reckonerlaw01_WordsBacks.T22 : Bool × List (List Nat × List Nat) := (true, [([], []), ([], []), ([1], [1]), ([], []), ([], []), ([4], [4]), ([3, 5], [3, 5]), ([6], [6]), ([], []), ([], []), ([9], [9]), ([8, 10], [8, 10]), ([7, 11], [7, 11]), ([0, 2, 0, 1, 2, 3, 4, 5, 6, 7, 8, 9, 10, 11, 12], [0, 2]), ([13, 12, 0, 1, 2, 3, 4, 5, 6, 7, 8, 9, 10, 11, 12], [12, 13])])
def reckonerlaw01_WordsBacks.B22 : List Nat := [0, 0, 2, 0, 0, 16, 56, 120, 0, 0, 512, 1792, 4088, 8191, 16383]
theorem reckonerlaw01_WordsBacks.tab22 : rtab .any (opsOf Tryd.f9 22) = reckonerlaw01_WordsBacks.T22 := by kernel_rfl
theorem reckonerlaw01_WordsBacks.bits22 : waitsOk reckonerlaw01_WordsBacks.T22.2 reckonerlaw01_WordsBacks.B22 = true := by kernel_rfl
set_option maxHeartbeats 8000000 in
set_option maxRecDepth 100000 in
theorem reckonerlaw01_WordsBacks.calls (k : Nat) (A0 : Option Addr) (c0 : Nat) (l0 : List Int) (A1 : Option Addr) (c1 : Nat) (l1 : List Int) (a2 : Int) (a3 : Int) (a4 : Int) (r : Bool) (w : World) (hr0 : Kd.C (Kd.int .u64) w A0 l0.length l0) (hc0 : l0.length ≤ c0) (hr1 : Kd.C (Kd.int .u64) w A1 l1.length l1) (hc1 : l1.length ≤ c1) (hg : Laid w) (h : reckonerlaw01_WordsBacks.f k l0 l1 a2 a3 a4 = some r) :
  Calls Tryd.prog 9 #[.slice A0 l0.length c0, .slice A1 l1.length c1, .agg #[.int .u64 a2, .int .u64 a3, .int .u64 a4]] w fun e w' => e = .returned (.bool r) ∧ Below w.heap.size w w' := by
 have HLd := Aside0.mk hg
 clear hg
 have HR0 := Aside0.mk hr0
 have HC0 := Aside0.mk hc0
 clear hr0 hc0
 have HR1 := Aside0.mk hr1
 have HC1 := Aside0.mk hc1
 clear hr1 hc1
 have HB := Aside0.mk (Below.refl w.heap.size w)
 have H : ((reckonerlaw01_equal.f l0 l1).bind fun bt726 => ((words_Add.f bt726.1 bt726.2 (Int.tmod a2 2)).bind fun bt732 => ((words_Sub.f bt732.1 bt726.2 (Int.tmod a2 2)).bind fun bt737 => (if bt732.2.2 = 0 then (if bt737.2.2 = 0 then ((reckonerlaw01_same.f k bt737.1 bt726.1).bind fun t742 => (if t742 = true then (reckonerlaw01_WordsBacks.j0 k a4 bt726.1 bt726.2 (bt726.1.length : Int) (mx a3 1) (wrap64 (Int.tmod a4 64)) (bt732.2.1 != bt737.2.1)) else (reckonerlaw01_WordsBacks.j0 k a4 bt726.1 bt726.2 (bt726.1.length : Int) (mx a3 1) (wrap64 (Int.tmod a4 64)) true))) else (reckonerlaw01_WordsBacks.j0 k a4 bt726.1 bt726.2 (bt726.1.length : Int) (mx a3 1) (wrap64 (Int.tmod a4 64)) true)) else (reckonerlaw01_WordsBacks.j0 k a4 bt726.1 bt726.2 (bt726.1.length : Int) (mx a3 1) (wrap64 (Int.tmod a4 64)) true))))) = some r := h
 clear h
 replace H := Option.bind_eq_some_iff.mp H
 obtain ⟨⟨t726, t727⟩, A60, H⟩ := H
 replace H : ((words_Add.f t726 t727 (Int.tmod a2 2)).bind fun bt732 => ((words_Sub.f bt732.1 t727 (Int.tmod a2 2)).bind fun bt737 => (if bt732.2.2 = 0 then (if bt737.2.2 = 0 then ((reckonerlaw01_same.f k bt737.1 t726).bind fun t742 => (if t742 = true then (reckonerlaw01_WordsBacks.j0 k a4 t726 t727 (t726.length : Int) (mx a3 1) (wrap64 (Int.tmod a4 64)) (bt732.2.1 != bt737.2.1)) else (reckonerlaw01_WordsBacks.j0 k a4 t726 t727 (t726.length : Int) (mx a3 1) (wrap64 (Int.tmod a4 64)) true))) else (reckonerlaw01_WordsBacks.j0 k a4 t726 t727 (t726.length : Int) (mx a3 1) (wrap64 (Int.tmod a4 64)) true)) else (reckonerlaw01_WordsBacks.j0 k a4 t726 t727 (t726.length : Int) (mx a3 1) (wrap64 (Int.tmod a4 64)) true)))) = some r := H
 have A6 := Aside0.mk A60
 clear A60
 obtain ⟨ji7, hji7⟩ : ∃ j_ : Int, (mx a3 1) = j_ := ⟨_, rfl⟩
 replace H : ((words_Add.f t726 t727 (Int.tmod a2 2)).bind fun bt732 => ((words_Sub.f bt732.1 t727 (Int.tmod a2 2)).bind fun bt737 => (if bt732.2.2 = 0 then (if bt737.2.2 = 0 then ((reckonerlaw01_same.f k bt737.1 t726).bind fun t742 => (if t742 = true then (reckonerlaw01_WordsBacks.j0 k a4 t726 t727 (t726.length : Int) ji7 (wrap64 (Int.tmod a4 64)) (bt732.2.1 != bt737.2.1)) else (reckonerlaw01_WordsBacks.j0 k a4 t726 t727 (t726.length : Int) ji7 (wrap64 (Int.tmod a4 64)) true))) else (reckonerlaw01_WordsBacks.j0 k a4 t726 t727 (t726.length : Int) ji7 (wrap64 (Int.tmod a4 64)) true)) else (reckonerlaw01_WordsBacks.j0 k a4 t726 t727 (t726.length : Int) ji7 (wrap64 (Int.tmod a4 64)) true)))) = some r := by first | (rw [hji7] at H; exact H) | (simp only [hji7] at H ⊢; exact H)
 (try rw [hji7] at A6)
 (try (have hji7l : 1 ≤ ji7 := by (rw [← hji7]; unfold mx; (repeat' split) <;> omega)))
 (try (have hji7m : 0 ≤ ji7 := by omega))
 have hji7_ : (if a3 < 1 then 1 else a3) = ji7 := hji7
 replace H := Option.bind_eq_some_iff.mp H
 obtain ⟨⟨t732, t733, t734⟩, A80, H⟩ := H
 replace H : ((words_Sub.f t732 t727 (Int.tmod a2 2)).bind fun bt737 => (if t734 = 0 then (if bt737.2.2 = 0 then ((reckonerlaw01_same.f k bt737.1 t726).bind fun t742 => (if t742 = true then (reckonerlaw01_WordsBacks.j0 k a4 t726 t727 (t726.length : Int) ji7 (wrap64 (Int.tmod a4 64)) (t733 != bt737.2.1)) else (reckonerlaw01_WordsBacks.j0 k a4 t726 t727 (t726.length : Int) ji7 (wrap64 (Int.tmod a4 64)) true))) else (reckonerlaw01_WordsBacks.j0 k a4 t726 t727 (t726.length : Int) ji7 (wrap64 (Int.tmod a4 64)) true)) else (reckonerlaw01_WordsBacks.j0 k a4 t726 t727 (t726.length : Int) ji7 (wrap64 (Int.tmod a4 64)) true))) = some r := H
 have A8 := Aside0.mk A80
 clear A80
 replace H := Option.bind_eq_some_iff.mp H
 obtain ⟨⟨t737, t738, t739⟩, A90, H⟩ := H
 replace H : (if t734 = 0 then (if t739 = 0 then ((reckonerlaw01_same.f k t737 t726).bind fun t742 => (if t742 = true then (reckonerlaw01_WordsBacks.j0 k a4 t726 t727 (t726.length : Int) ji7 (wrap64 (Int.tmod a4 64)) (t733 != t738)) else (reckonerlaw01_WordsBacks.j0 k a4 t726 t727 (t726.length : Int) ji7 (wrap64 (Int.tmod a4 64)) true))) else (reckonerlaw01_WordsBacks.j0 k a4 t726 t727 (t726.length : Int) ji7 (wrap64 (Int.tmod a4 64)) true)) else (reckonerlaw01_WordsBacks.j0 k a4 t726 t727 (t726.length : Int) ji7 (wrap64 (Int.tmod a4 64)) true)) = some r := H
 have A9 := Aside0.mk A90
 clear A90
 have HC10 := Aside0.mk H
 clear H
 go_enter Tryd.func9, Tryd.ntmps9
 try simp only [List.append]
 go_upto_region 1 with (fail)
 have hBz := below_alloc (Below.refl w.heap.size w) (.cells #[.int .u64 a2, .int .u64 a3, .int .u64 a4] 54)
 have gz0 : (w.alloc (.cells #[.int .u64 a2, .int .u64 a3, .int .u64 a4] 54)).cell? ⟨w.heap.size, 0, none⟩ = some (.int .u64 a2) := by unfold World.cell?; rw [heap_alloc_new]; rfl
 have gz1 : (w.alloc (.cells #[.int .u64 a2, .int .u64 a3, .int .u64 a4] 54)).cell? ⟨w.heap.size, 1, none⟩ = some (.int .u64 a3) := by unfold World.cell?; rw [heap_alloc_new]; rfl
 have gz2 : (w.alloc (.cells #[.int .u64 a2, .int .u64 a3, .int .u64 a4] 54)).cell? ⟨w.heap.size, 2, none⟩ = some (.int .u64 a4) := by unfold World.cell?; rw [heap_alloc_new]; rfl
 have zHR0 := Aside0.mk (Kd.C_below HR0.out hBz)
 have zHR1 := Aside0.mk (Kd.C_below HR1.out hBz)
 have zHLd := Aside0.mk (Laid.below HLd.out hBz)
 clear HB HR0 HR1 HLd
 have HR0 := zHR0
 have HR1 := zHR1
 have HLd := zHLd
 clear zHR0 zHR1 zHLd
 rename World => w00
 generalize w00.alloc (.cells #[.int .u64 a2, .int .u64 a3, .int .u64 a4] 54) = w at *
 have HB00 := Aside0.mk hBz
 have HB := Aside0.mk (Below.refl w.heap.size w)
 have GZ0 := Aside0.mk gz0
 have GZ1 := Aside0.mk gz1
 have GZ2 := Aside0.mk gz2
 clear hBz
 try go_wp2_with (first | ((with_reducible refine gate_callee (f := 18) rfl ?_); refine goesL_ (some 46) rfl rfl Tryd.func18 (by kernel_rfl) rfl #[.slice A0 l0.length c0, .slice A1 l1.length c1] rfl (by (try simp only [List.map_toArray, List.map_cons, List.map_nil]); first | done | rfl | (simp only [List.length_drop, List.length_take]; rfl)) ?_; (with_reducible refine (reckonerlaw01_equal.calls _ _ l0 _ _ l1 t726 t727 _ ?side1 ?side2 ?side3 ?side4 A6.out).mono ?_); (case side1 => repeat (first | exact HR0.out | (with_reducible refine Kd.C_alloc ?_ _) | (with_reducible refine Kd.C_drewN ?_ _) | (with_reducible refine Kd.C_drew ?_))); (case side2 => exact HC0.out); (case side3 => repeat (first | exact HR1.out | (with_reducible refine Kd.C_alloc ?_ _) | (with_reducible refine Kd.C_drewN ?_ _) | (with_reducible refine Kd.C_drew ?_))); (case side4 => exact HC1.out); rintro e w11 ⟨v728, v730, rfl, ho0, ho1, hb⟩; refine ⟨_, rfl, ?_⟩; have n0_ := Aside0.mk (Kd.R_lower ho0 (below_size (by repeat (first | (with_reducible first | exact HB.out | apply below_alloc | apply pw_below_drewN | apply below_drew1) | exact HB.out)))); have n1_ := Aside0.mk (Kd.R_lower ho1 (below_size (by repeat (first | (with_reducible first | exact HB.out | apply below_alloc | apply pw_below_drewN | apply below_drew1) | exact HB.out)))); have n2_ := Aside0.mk (below_step (by repeat (first | (with_reducible first | exact HB.out | apply below_alloc | apply pw_below_drewN | apply below_drew1) | exact HB.out)) hb); clear HB; have HO729 := n0_; have HO731 := n1_; have HB := n2_; (try clear gz0); have gz0 := pw_cell_below HB.out GZ0.out; (try clear gz1); have gz1 := pw_cell_below HB.out GZ1.out; (try clear gz2); have gz2 := pw_cell_below HB.out GZ2.out; clear n0_ n1_ n2_; (try clear hb); (try clear hb2); (try clear hk); (try clear hi); (try clear ho0); (try clear ho1); obtain ⟨Ao12, co12, eo12⟩ := Kd.R_slice HO729.out; subst eo12))
 have n0_ := Aside0.mk (Kd.R_drew HO729.out)
 have n1_ := Aside0.mk (Kd.R_drew HO731.out)
 have n2_ := Aside0.mk (below_drew1 HB.out)
 clear HO729
 clear HO731
 clear HB
 have HO729 := n0_
 have HO731 := n1_
 have HB := n2_
 clear n0_ n1_ n2_
 refine start_ (n := 8) (S := fun w' => w'.cell? ⟨w00.heap.size, 0, none⟩ = some (.int .u64 a2) ∧ w'.cell? ⟨w00.heap.size, 1, none⟩ = some (.int .u64 a3) ∧ w'.cell? ⟨w00.heap.size, 2, none⟩ = some (.int .u64 a4)) (ds := []) #[false, false, false, false, false, false, false, false] (by kernel_rfl) rfl rfl ⟨gz0, gz1, gz2⟩ (fun hHeld => ?_); refine with_tabW reckonerlaw01_WordsBacks.tab3 reckonerlaw01_WordsBacks.bits3 (fun HT_ HW_ => ?_)
 generalize w11.drew = w13 at HO729 HO731 HB hHeld ⊢
 (try clear gz0)
 have gz0 := pw_cell_below HB.out GZ0.out
 (try clear gz1)
 have gz1 := pw_cell_below HB.out GZ1.out
 (try clear gz2)
 have gz2 := pw_cell_below HB.out GZ2.out
 refine pure_ (i := 0) (N := some 51) (v := ?_) (a' := ?_) #[true, false, false, false, false, false, false, false] rfl rfl (any_of HT_.out (by kernel_rfl)) (fun _ _ _ h => h) (Or.inl ⟨by rfl, ?_⟩) ?_ ?_
 rotate_left
 ·intro w'
  go_simp
  with_reducible rfl
 rotate_left
 ·simp only [Act.put, List.setIfInBounds_toArray, List.set_cons_zero, List.set_cons_succ, i64_w, i32_w]
  rfl
 refine take_ (i := 1) (N := some 52) (v := ?_) (a' := ?_) #[true, true, false, false, false, false, false, false] rfl rfl (take_ofW HT_.out HW_.out (by kernel_rfl)) (fun _ _ _ h => h) (Or.inl ⟨by rfl, ?_⟩) hHeld ?_ ?_
 rotate_left
 ·rintro w' ⟨s0, s1, s2⟩
  go_simp
  with_reducible rfl
 rotate_left
 ·simp only [Act.put, List.setIfInBounds_toArray, List.set_cons_zero, List.set_cons_succ, i64_w, i32_w]
  rfl
 refine pure_ (i := 2) (N := some 53) (v := ?_) (a' := ?_) #[true, true, true, false, false, false, false, false] rfl rfl (any_of HT_.out (by kernel_rfl)) (fun _ _ _ h => h) (Or.inl ⟨by rfl, ?_⟩) ?_ ?_
 rotate_left
 ·intro w'
  go_simp
  with_reducible rfl
 rotate_left
 ·simp only [Act.put, List.setIfInBounds_toArray, List.set_cons_zero, List.set_cons_succ, i64_w, i32_w]
  rfl
 refine pure_ (i := 3) (N := some 54) (v := ?_) (a' := ?_) #[true, true, true, true, false, false, false, false] rfl rfl (any_of HT_.out (by kernel_rfl)) (fun _ _ _ h => h) (Or.inl ⟨by rfl, ?_⟩) ?_ ?_
 rotate_left
 ·intro w'
  go_simp
  with_reducible rfl
 rotate_left
 ·simp only [Act.put, List.setIfInBounds_toArray, List.set_cons_zero, List.set_cons_succ, i64_w, i32_w]
  rfl
 refine take_ (i := 4) (N := some 55) (v := ?_) (a' := ?_) #[true, true, true, true, true, false, false, false] rfl rfl (take_ofW HT_.out HW_.out (by kernel_rfl)) (fun _ _ _ h => h) (Or.inl ⟨by rfl, ?_⟩) hHeld ?_ ?_
 rotate_left
 ·rintro w' ⟨s0, s1, s2⟩
  go_simp
  with_reducible rfl
 rotate_left
 ·simp only [Act.put, List.setIfInBounds_toArray, List.set_cons_zero, List.set_cons_succ, i64_w, i32_w]
  rfl
 refine pure_ (i := 5) (N := some 56) (v := ?_) (a' := ?_) #[true, true, true, true, true, true, false, false] rfl rfl (any_of HT_.out (by kernel_rfl)) (fun _ _ _ h => h) (Or.inl ⟨by rfl, ?_⟩) ?_ ?_
 rotate_left
 ·intro w'
  go_simp
  with_reducible rfl
 rotate_left
 ·simp only [Act.put, List.setIfInBounds_toArray, List.set_cons_zero, List.set_cons_succ, i64_w, i32_w]
  rfl
 refine pure_ (i := 6) (N := some 10) (v := ?_) (a' := ?_) #[true, true, true, true, true, true, true, false] rfl rfl (any_of HT_.out (by kernel_rfl)) (fun _ _ _ h => h) (Or.inl ⟨by rfl, ?_⟩) ?_ ?_
 rotate_left
 ·intro w'
  go_simp
  with_reducible rfl
 rotate_left
 ·simp only [Act.put, List.setIfInBounds_toArray, List.set_cons_zero, List.set_cons_succ, i64_w, i32_w]
  rfl
 refine pure_ (i := 7) (N := some 11) (v := ?_) (a' := ?_) #[true, true, true, true, true, true, true, true] rfl rfl (any_of HT_.out (by kernel_rfl)) (fun _ _ _ h => h) (Or.inl ⟨by rfl, ?_⟩) ?_ ?_
 rotate_left
 ·intro w'
  go_simp
  with_reducible rfl
 rotate_left
 ·simp only [Act.put, List.setIfInBounds_toArray, List.set_cons_zero, List.set_cons_succ, i64_w, i32_w]
  rfl
 refine done_ (done_of HT_.out (by kernel_rfl)) ?_
 obtain ⟨Ao14, co14, eo14⟩ := Kd.R_slice HO731.out
 subst eo14
 go_upto_region 7 with (first | ((with_reducible refine gate_callee (f := 13) rfl ?_); refine goesL_ (some 65) rfl rfl Tryd.func13 (by kernel_rfl) rfl #[.slice Ao12 t726.length co12, .slice Ao14 t727.length co14, .int .u64 (Int.tmod a2 2)] rfl (by (try simp only [List.map_toArray, List.map_cons, List.map_nil]); first | done | rfl | (simp only [List.length_drop, List.length_take]; rfl)) ?_; (with_reducible refine (words_Add.calls _ _ t726 _ _ t727 (Int.tmod a2 2) t732 t733 t734 _ ?side1 ?side2 ?side3 ?side4 A8.out).mono ?_); (case side1 => repeat (first | exact (Kd.R_reads' HO729.out).2.2 | (with_reducible refine Kd.C_alloc ?_ _) | (with_reducible refine Kd.C_drewN ?_ _) | (with_reducible refine Kd.C_drew ?_))); (case side2 => exact (Kd.R_reads' HO729.out).2.1); (case side3 => repeat (first | exact (Kd.R_reads' HO731.out).2.2 | (with_reducible refine Kd.C_alloc ?_ _) | (with_reducible refine Kd.C_drewN ?_ _) | (with_reducible refine Kd.C_drew ?_))); (case side4 => exact (Kd.R_reads' HO731.out).2.1); rintro e w15 ⟨v735, rfl, ho0, hb⟩; refine ⟨_, rfl, ?_⟩; have n0_ := Aside0.mk (Kd.R_elder' (by (with_reducible repeat (first | apply Kd.R_alloc | apply Kd.R_drewN | apply Kd.R_drew)); exact HO729.out) (Kd.R_base ho0) hb); have n1_ := Aside0.mk (Kd.R_elder' (by (with_reducible repeat (first | apply Kd.R_alloc | apply Kd.R_drewN | apply Kd.R_drew)); exact HO731.out) (Kd.R_base ho0) hb); have n2_ := Aside0.mk (Kd.R_lower (Kd.R_new' (Kd.R_new' ho0 (Kd.R_lt (by (with_reducible repeat (first | apply Kd.R_alloc | apply Kd.R_drewN | apply Kd.R_drew)); exact HO729.out))) (Kd.R_lt (by (with_reducible repeat (first | apply Kd.R_alloc | apply Kd.R_drewN | apply Kd.R_drew)); exact HO731.out))) (below_size (by repeat (first | (with_reducible first | exact HB.out | apply below_alloc | apply pw_below_drewN | apply below_drew1) | exact HB.out)))); have n3_ := Aside0.mk (below_step (by repeat (first | (with_reducible first | exact HB.out | apply below_alloc | apply pw_below_drewN | apply below_drew1) | exact HB.out)) hb); clear HO729; clear HO731; clear HB; have HO729 := n0_; have HO731 := n1_; have HO736 := n2_; have HB := n3_; (try clear gz0); have gz0 := pw_cell_below HB.out GZ0.out; (try clear gz1); have gz1 := pw_cell_below HB.out GZ1.out; (try clear gz2); have gz2 := pw_cell_below HB.out GZ2.out; clear n0_ n1_ n2_ n3_; (try clear hb); (try clear hb2); (try clear hk); (try clear hi); (try clear ho0); obtain ⟨Ao16, co16, eo16⟩ := Kd.R_slice HO736.out; subst eo16) | ((with_reducible refine gate_callee (f := 14) rfl ?_); refine goesL_ (some 73) rfl rfl Tryd.func14 (by kernel_rfl) rfl #[.slice Ao16 t732.length co16, .slice Ao14 t727.length co14, .int .u64 (Int.tmod a2 2)] rfl (by (try simp only [List.map_toArray, List.map_cons, List.map_nil]); first | done | rfl | (simp only [List.length_drop, List.length_take]; rfl)) ?_; (with_reducible refine (words_Sub.calls _ _ t732 _ _ t727 (Int.tmod a2 2) t737 t738 t739 _ ?side1 ?side2 ?side3 ?side4 A9.out).mono ?_); (case side1 => repeat (first | exact (Kd.R_reads' HO736.out).2.2 | (with_reducible refine Kd.C_alloc ?_ _) | (with_reducible refine Kd.C_drewN ?_ _) | (with_reducible refine Kd.C_drew ?_))); (case side2 => exact (Kd.R_reads' HO736.out).2.1); (case side3 => repeat (first | exact (Kd.R_reads' HO731.out).2.2 | (with_reducible refine Kd.C_alloc ?_ _) | (with_reducible refine Kd.C_drewN ?_ _) | (with_reducible refine Kd.C_drew ?_))); (case side4 => exact (Kd.R_reads' HO731.out).2.1); rintro e w17 ⟨v740, rfl, ho0, hb⟩; refine ⟨_, rfl, ?_⟩; have n0_ := Aside0.mk (Kd.R_elder' (by (with_reducible repeat (first | apply Kd.R_alloc | apply Kd.R_drewN | apply Kd.R_drew)); exact HO729.out) (Kd.R_base ho0) hb); have n1_ := Aside0.mk (Kd.R_elder' (by (with_reducible repeat (first | apply Kd.R_alloc | apply Kd.R_drewN | apply Kd.R_drew)); exact HO731.out) (Kd.R_base ho0) hb); have n2_ := Aside0.mk (Kd.R_elder' (by (with_reducible repeat (first | apply Kd.R_alloc | apply Kd.R_drewN | apply Kd.R_drew)); exact HO736.out) (Kd.R_base ho0) hb); have n3_ := Aside0.mk (Kd.R_lower (Kd.R_new' (Kd.R_new' (Kd.R_new' ho0 (Kd.R_lt (by (with_reducible repeat (first | apply Kd.R_alloc | apply Kd.R_drewN | apply Kd.R_drew)); exact HO729.out))) (Kd.R_lt (by (with_reducible repeat (first | apply Kd.R_alloc | apply Kd.R_drewN | apply Kd.R_drew)); exact HO731.out))) (Kd.R_lt (by (with_reducible repeat (first | apply Kd.R_alloc | apply Kd.R_drewN | apply Kd.R_drew)); exact HO736.out))) (below_size (by repeat (first | (with_reducible first | exact HB.out | apply below_alloc | apply pw_below_drewN | apply below_drew1) | exact HB.out)))); have n4_ := Aside0.mk (below_step (by repeat (first | (with_reducible first | exact HB.out | apply below_alloc | apply pw_below_drewN | apply below_drew1) | exact HB.out)) hb); clear HO729; clear HO731; clear HO736; clear HB; have HO729 := n0_; have HO731 := n1_; have HO736 := n2_; have HO741 := n3_; have HB := n4_; (try clear gz0); have gz0 := pw_cell_below HB.out GZ0.out; (try clear gz1); have gz1 := pw_cell_below HB.out GZ1.out; (try clear gz2); have gz2 := pw_cell_below HB.out GZ2.out; clear n0_ n1_ n2_ n3_ n4_; (try clear hb); (try clear hb2); (try clear hk); (try clear hi); (try clear ho0)))
 (try simp only [Act.put, List.setIfInBounds_toArray, List.set_cons_zero, List.set_cons_succ])
 go_cut [93] (fun v93 wc => ∃ (kq : Nat) (x93_9 : Bool), v93 = .bool x93_9 ∧ Aside0 (reckonerlaw01_WordsBacks.j0 kq a4 t726 t727 (t726.length : Int) ji7 (wrap64 (Int.tmod a4 64)) x93_9 = some r) ∧ Aside0 (kq ≤ k) ∧ Aside0 (Kd.R (Kd.int .u64) 23 wc w.heap.size (fun k_ => some k_ ≠ ((.slice Ao14 t727.length co14) : Value).ownBlock) (.slice Ao12 t726.length co12) t726) ∧ Aside0 (Kd.R (Kd.int .u64) 23 wc w.heap.size (fun k_ => some k_ ≠ ((.slice Ao12 t726.length co12) : Value).ownBlock) (.slice Ao14 t727.length co14) t727) ∧ Aside0 (Below w.heap.size w wc))
 case first => as_aux_lemma =>
  have H := HC10.out
  clear HC10
  by_cases c18 : t734 = 0
  ·rw [if_pos c18] at H
   have c18b0 : (t734 == 0) = true := beq_iff_eq.mpr c18
   have c18b1 : (t734 != 0) = false := bne_eq_false_iff_eq.mpr c18
   clear c18
   (first | rw [c18b0] | (simp only [i64_w, i32_w]; rw [c18b0]) | skip)
   by_cases c19 : t739 = 0
   ·rw [if_pos c19] at H
    have c19b0 : (t739 == 0) = true := beq_iff_eq.mpr c19
    have c19b1 : (t739 != 0) = false := bne_eq_false_iff_eq.mpr c19
    clear c19
    replace H := Option.bind_eq_some_iff.mp H
    obtain ⟨t742, A200, H⟩ := H
    replace H : (if t742 = true then (reckonerlaw01_WordsBacks.j0 k a4 t726 t727 (t726.length : Int) ji7 (wrap64 (Int.tmod a4 64)) (t733 != t738)) else (reckonerlaw01_WordsBacks.j0 k a4 t726 t727 (t726.length : Int) ji7 (wrap64 (Int.tmod a4 64)) true)) = some r := H
    have A20 := Aside0.mk A200
    clear A200
    by_cases c21 : t742 = true
    ·subst c21
     have H1 : (reckonerlaw01_WordsBacks.j0 k a4 t726 t727 (t726.length : Int) ji7 (wrap64 (Int.tmod a4 64)) (t733 != t738)) = some r := by rw [if_pos rfl] at H; exact H
     clear H
     have H := H1
     clear H1
     have H' := Aside0.mk H
     clear H
     obtain ⟨Ao22, co22, eo22⟩ := Kd.R_slice HO741.out
     subst eo22
     go_wp2_with (first | (go_at_call 17; (with_reducible refine (reckonerlaw01_same.calls k _ _ t737 _ _ t726 true _ ?side1 ?side2 ?side3 ?side4 A20.out).mono ?_); (case side1 => repeat (first | exact (Kd.R_reads' HO741.out).2.2 | (with_reducible refine Kd.C_alloc ?_ _) | (with_reducible refine Kd.C_drewN ?_ _) | (with_reducible refine Kd.C_drew ?_))); (case side2 => exact (Kd.R_reads' HO741.out).2.1); (case side3 => repeat (first | exact (Kd.R_reads' HO729.out).2.2 | (with_reducible refine Kd.C_alloc ?_ _) | (with_reducible refine Kd.C_drewN ?_ _) | (with_reducible refine Kd.C_drew ?_))); (case side4 => exact (Kd.R_reads' HO729.out).2.1); rintro e w' ⟨rfl, ⟨nd, rfl⟩⟩))
     go_meet
     case rel => exact ⟨_, ((t733 != t738)), (by first | rfl | (simp; done) | (simp [*]; done)), H', ⟨by first | omega | exact Nat.le_refl _⟩, ⟨by (with_reducible repeat (first | apply Kd.R_alloc | apply Kd.R_drewN | apply Kd.R_drew)); exact Kd.R_mono HO729.out (fun _ hk => hk.1.1)⟩, ⟨by (with_reducible repeat (first | apply Kd.R_alloc | apply Kd.R_drewN | apply Kd.R_drew)); exact Kd.R_mono HO731.out (fun _ hk => hk.1.1)⟩, ⟨by repeat (first | (with_reducible first | exact HB.out | apply below_alloc | apply pw_below_drewN | apply below_drew1) | exact HB.out)⟩⟩
    ·replace c21 := Bool.eq_false_iff.mpr c21
     subst c21
     have H1 : (reckonerlaw01_WordsBacks.j0 k a4 t726 t727 (t726.length : Int) ji7 (wrap64 (Int.tmod a4 64)) true) = some r := by rw [if_neg (show ¬ (false = true) by decide)] at H; exact H
     clear H
     have H := H1
     clear H1
     have H' := Aside0.mk H
     clear H
     obtain ⟨Ao23, co23, eo23⟩ := Kd.R_slice HO741.out
     subst eo23
     go_wp2_with (first | (go_at_call 17; (with_reducible refine (reckonerlaw01_same.calls k _ _ t737 _ _ t726 false _ ?side1 ?side2 ?side3 ?side4 A20.out).mono ?_); (case side1 => repeat (first | exact (Kd.R_reads' HO741.out).2.2 | (with_reducible refine Kd.C_alloc ?_ _) | (with_reducible refine Kd.C_drewN ?_ _) | (with_reducible refine Kd.C_drew ?_))); (case side2 => exact (Kd.R_reads' HO741.out).2.1); (case side3 => repeat (first | exact (Kd.R_reads' HO729.out).2.2 | (with_reducible refine Kd.C_alloc ?_ _) | (with_reducible refine Kd.C_drewN ?_ _) | (with_reducible refine Kd.C_drew ?_))); (case side4 => exact (Kd.R_reads' HO729.out).2.1); rintro e w' ⟨rfl, ⟨nd, rfl⟩⟩))
     go_meet
     case rel => exact ⟨_, (true), (by first | rfl | (simp; done) | (simp [*]; done)), H', ⟨by first | omega | exact Nat.le_refl _⟩, ⟨by (with_reducible repeat (first | apply Kd.R_alloc | apply Kd.R_drewN | apply Kd.R_drew)); exact Kd.R_mono HO729.out (fun _ hk => hk.1.1)⟩, ⟨by (with_reducible repeat (first | apply Kd.R_alloc | apply Kd.R_drewN | apply Kd.R_drew)); exact Kd.R_mono HO731.out (fun _ hk => hk.1.1)⟩, ⟨by repeat (first | (with_reducible first | exact HB.out | apply below_alloc | apply pw_below_drewN | apply below_drew1) | exact HB.out)⟩⟩
   ·rw [if_neg c19] at H
    have c19b0 : (t739 == 0) = false := beq_eq_false_iff_ne.mpr c19
    have c19b1 : (t739 != 0) = true := bne_iff_ne.mpr c19
    have H' := Aside0.mk H
    clear H
    go_wp2
    go_meet
    case rel => exact ⟨_, (true), (by first | rfl | (simp; done) | (simp [*]; done)), H', ⟨by first | omega | exact Nat.le_refl _⟩, ⟨by (with_reducible repeat (first | apply Kd.R_alloc | apply Kd.R_drewN | apply Kd.R_drew)); exact Kd.R_mono HO729.out (fun _ hk => hk.1.1)⟩, ⟨by (with_reducible repeat (first | apply Kd.R_alloc | apply Kd.R_drewN | apply Kd.R_drew)); exact Kd.R_mono HO731.out (fun _ hk => hk.1.1)⟩, ⟨by repeat (first | (with_reducible first | exact HB.out | apply below_alloc | apply pw_below_drewN | apply below_drew1) | exact HB.out)⟩⟩
  ·rw [if_neg c18] at H
   have c18b0 : (t734 == 0) = false := beq_eq_false_iff_ne.mpr c18
   have c18b1 : (t734 != 0) = true := bne_iff_ne.mpr c18
   (first | rw [c18b0] | (simp only [i64_w, i32_w]; rw [c18b0]) | skip)
   have H' := Aside0.mk H
   clear H
   go_wp2
   go_meet
   case rel => exact ⟨_, (true), (by first | rfl | (simp; done) | (simp [*]; done)), H', ⟨by first | omega | exact Nat.le_refl _⟩, ⟨by (with_reducible repeat (first | apply Kd.R_alloc | apply Kd.R_drewN | apply Kd.R_drew)); exact Kd.R_mono HO729.out (fun _ hk => hk.1.1)⟩, ⟨by (with_reducible repeat (first | apply Kd.R_alloc | apply Kd.R_drewN | apply Kd.R_drew)); exact Kd.R_mono HO731.out (fun _ hk => hk.1.1)⟩, ⟨by repeat (first | (with_reducible first | exact HB.out | apply below_alloc | apply pw_below_drewN | apply below_drew1) | exact HB.out)⟩⟩
 case rest => as_aux_lemma =>
  clear HC10
  try clear c1
  try clear c2
  try clear p2
  try clear p6
  try clear c9
  try clear c13
  try clear c14
  try clear c18
  try clear c18b0
  try clear c18b1
  try clear c19
  try clear c19b0
  try clear c19b1
  try clear c21
  obtain ⟨kq, x93_9, rfl, HA, HJ9, HO_7, HO_8, HB⟩ := hcut
  (try clear gz0)
  have gz0 := pw_cell_below HB.out GZ0.out
  (try clear gz1)
  have gz1 := pw_cell_below HB.out GZ1.out
  (try clear gz2)
  have gz2 := pw_cell_below HB.out GZ2.out
  cases kq with
  | zero => exact absurd HA.out (by simp [reckonerlaw01_WordsBacks.j0])
  | succ kj9 =>
   have H := HA.out
   clear HA
   simp only [reckonerlaw01_WordsBacks.j0] at H
   by_cases c24 : x93_9 = true
   ·subst c24
    have H1 : (none) = some r := by rw [if_pos rfl] at H; exact H
    clear H
    have H := H1
    clear H1
    exact absurd H (by simp)
   ·replace c24 := Bool.eq_false_iff.mpr c24
    subst c24
    have H1 : ((words_AddMul.f t726 t727 ji7).bind fun bt743 => ((words_SubMul.f bt743.1 t727 ji7).bind fun bt748 => (if bt743.2.2 = 0 then (if bt748.2.2 = 0 then ((reckonerlaw01_same.f kj9 bt748.1 t726).bind fun t753 => (if t753 = true then (reckonerlaw01_WordsBacks.j1 kj9 a4 t726 (t726.length : Int) ji7 (wrap64 (Int.tmod a4 64)) (bt743.2.1 != bt748.2.1)) else (reckonerlaw01_WordsBacks.j1 kj9 a4 t726 (t726.length : Int) ji7 (wrap64 (Int.tmod a4 64)) true))) else (reckonerlaw01_WordsBacks.j1 kj9 a4 t726 (t726.length : Int) ji7 (wrap64 (Int.tmod a4 64)) true)) else (reckonerlaw01_WordsBacks.j1 kj9 a4 t726 (t726.length : Int) ji7 (wrap64 (Int.tmod a4 64)) true)))) = some r := by rw [if_neg (show ¬ (false = true) by decide)] at H; exact H
    clear H
    have H := H1
    clear H1
    replace H := Option.bind_eq_some_iff.mp H
    obtain ⟨⟨t743, t744, t745⟩, A250, H⟩ := H
    replace H : ((words_SubMul.f t743 t727 ji7).bind fun bt748 => (if t745 = 0 then (if bt748.2.2 = 0 then ((reckonerlaw01_same.f kj9 bt748.1 t726).bind fun t753 => (if t753 = true then (reckonerlaw01_WordsBacks.j1 kj9 a4 t726 (t726.length : Int) ji7 (wrap64 (Int.tmod a4 64)) (t744 != bt748.2.1)) else (reckonerlaw01_WordsBacks.j1 kj9 a4 t726 (t726.length : Int) ji7 (wrap64 (Int.tmod a4 64)) true))) else (reckonerlaw01_WordsBacks.j1 kj9 a4 t726 (t726.length : Int) ji7 (wrap64 (Int.tmod a4 64)) true)) else (reckonerlaw01_WordsBacks.j1 kj9 a4 t726 (t726.length : Int) ji7 (wrap64 (Int.tmod a4 64)) true))) = some r := H
    have A25 := Aside0.mk A250
    clear A250
    replace H := Option.bind_eq_some_iff.mp H
    obtain ⟨⟨t748, t749, t750⟩, A260, H⟩ := H
    replace H : (if t745 = 0 then (if t750 = 0 then ((reckonerlaw01_same.f kj9 t748 t726).bind fun t753 => (if t753 = true then (reckonerlaw01_WordsBacks.j1 kj9 a4 t726 (t726.length : Int) ji7 (wrap64 (Int.tmod a4 64)) (t744 != t749)) else (reckonerlaw01_WordsBacks.j1 kj9 a4 t726 (t726.length : Int) ji7 (wrap64 (Int.tmod a4 64)) true))) else (reckonerlaw01_WordsBacks.j1 kj9 a4 t726 (t726.length : Int) ji7 (wrap64 (Int.tmod a4 64)) true)) else (reckonerlaw01_WordsBacks.j1 kj9 a4 t726 (t726.length : Int) ji7 (wrap64 (Int.tmod a4 64)) true)) = some r := H
    have A26 := Aside0.mk A260
    clear A260
    have HC27 := Aside0.mk H
    clear H
    go_upto_region 11 with (first | ((with_reducible refine gate_callee (f := 29) rfl ?_); refine goesL_ (some 98) rfl rfl Tryd.func29 (by kernel_rfl) rfl #[.slice Ao12 t726.length co12, .slice Ao14 t727.length co14, .int .u64 ji7] rfl (by (try simp only [List.map_toArray, List.map_cons, List.map_nil]); first | done | (simp only [hji7]; rfl) | rfl | (simp only [List.length_drop, List.length_take]; rfl)) ?_; (with_reducible refine (words_AddMul.calls _ _ t726 _ _ t727 ji7 t743 t744 t745 _ ?side1 ?side2 ?side3 ?side4 A25.out).mono ?_); (case side1 => repeat (first | exact (Kd.R_reads' HO_7.out).2.2 | (with_reducible refine Kd.C_alloc ?_ _) | (with_reducible refine Kd.C_drewN ?_ _) | (with_reducible refine Kd.C_drew ?_))); (case side2 => exact (Kd.R_reads' HO_7.out).2.1); (case side3 => repeat (first | exact (Kd.R_reads' HO_8.out).2.2 | (with_reducible refine Kd.C_alloc ?_ _) | (with_reducible refine Kd.C_drewN ?_ _) | (with_reducible refine Kd.C_drew ?_))); (case side4 => exact (Kd.R_reads' HO_8.out).2.1); rintro e w28 ⟨v746, rfl, ho0, hb⟩; refine ⟨_, rfl, ?_⟩; have n0_ := Aside0.mk (Kd.R_elder' (by (with_reducible repeat (first | apply Kd.R_alloc | apply Kd.R_drewN | apply Kd.R_drew)); exact HO_7.out) (Kd.R_base ho0) hb); have n1_ := Aside0.mk (Kd.R_elder' (by (with_reducible repeat (first | apply Kd.R_alloc | apply Kd.R_drewN | apply Kd.R_drew)); exact HO_8.out) (Kd.R_base ho0) hb); have n2_ := Aside0.mk (Kd.R_lower (Kd.R_new' (Kd.R_new' ho0 (Kd.R_lt (by (with_reducible repeat (first | apply Kd.R_alloc | apply Kd.R_drewN | apply Kd.R_drew)); exact HO_7.out))) (Kd.R_lt (by (with_reducible repeat (first | apply Kd.R_alloc | apply Kd.R_drewN | apply Kd.R_drew)); exact HO_8.out))) (below_size (by repeat (first | (with_reducible first | exact HB.out | apply below_alloc | apply pw_below_drewN | apply below_drew1) | exact HB.out)))); have n3_ := Aside0.mk (below_step (by repeat (first | (with_reducible first | exact HB.out | apply below_alloc | apply pw_below_drewN | apply below_drew1) | exact HB.out)) hb); clear HO_7; clear HO_8; clear HB; have HO_7 := n0_; have HO_8 := n1_; have HO747 := n2_; have HB := n3_; (try clear gz0); have gz0 := pw_cell_below HB.out GZ0.out; (try clear gz1); have gz1 := pw_cell_below HB.out GZ1.out; (try clear gz2); have gz2 := pw_cell_below HB.out GZ2.out; clear n0_ n1_ n2_ n3_; (try clear hb); (try clear hb2); (try clear hk); (try clear hi); (try clear ho0); obtain ⟨Ao29, co29, eo29⟩ := Kd.R_slice HO747.out; subst eo29) | ((with_reducible refine gate_callee (f := 30) rfl ?_); refine goesL_ (some 106) rfl rfl Tryd.func30 (by kernel_rfl) rfl #[.slice Ao29 t743.length co29, .slice Ao14 t727.length co14, .int .u64 ji7] rfl (by (try simp only [List.map_toArray, List.map_cons, List.map_nil]); first | done | (simp only [hji7]; rfl) | rfl | (simp only [List.length_drop, List.length_take]; rfl)) ?_; (with_reducible refine (words_SubMul.calls _ _ t743 _ _ t727 ji7 t748 t749 t750 _ ?side1 ?side2 ?side3 ?side4 A26.out).mono ?_); (case side1 => repeat (first | exact (Kd.R_reads' HO747.out).2.2 | (with_reducible refine Kd.C_alloc ?_ _) | (with_reducible refine Kd.C_drewN ?_ _) | (with_reducible refine Kd.C_drew ?_))); (case side2 => exact (Kd.R_reads' HO747.out).2.1); (case side3 => repeat (first | exact (Kd.R_reads' HO_8.out).2.2 | (with_reducible refine Kd.C_alloc ?_ _) | (with_reducible refine Kd.C_drewN ?_ _) | (with_reducible refine Kd.C_drew ?_))); (case side4 => exact (Kd.R_reads' HO_8.out).2.1); rintro e w30 ⟨v751, rfl, ho0, hb⟩; refine ⟨_, rfl, ?_⟩; have n0_ := Aside0.mk (Kd.R_elder' (by (with_reducible repeat (first | apply Kd.R_alloc | apply Kd.R_drewN | apply Kd.R_drew)); exact HO_7.out) (Kd.R_base ho0) hb); have n1_ := Aside0.mk (Kd.R_elder' (by (with_reducible repeat (first | apply Kd.R_alloc | apply Kd.R_drewN | apply Kd.R_drew)); exact HO_8.out) (Kd.R_base ho0) hb); have n2_ := Aside0.mk (Kd.R_elder' (by (with_reducible repeat (first | apply Kd.R_alloc | apply Kd.R_drewN | apply Kd.R_drew)); exact HO747.out) (Kd.R_base ho0) hb); have n3_ := Aside0.mk (Kd.R_lower (Kd.R_new' (Kd.R_new' (Kd.R_new' ho0 (Kd.R_lt (by (with_reducible repeat (first | apply Kd.R_alloc | apply Kd.R_drewN | apply Kd.R_drew)); exact HO_7.out))) (Kd.R_lt (by (with_reducible repeat (first | apply Kd.R_alloc | apply Kd.R_drewN | apply Kd.R_drew)); exact HO_8.out))) (Kd.R_lt (by (with_reducible repeat (first | apply Kd.R_alloc | apply Kd.R_drewN | apply Kd.R_drew)); exact HO747.out))) (below_size (by repeat (first | (with_reducible first | exact HB.out | apply below_alloc | apply pw_below_drewN | apply below_drew1) | exact HB.out)))); have n4_ := Aside0.mk (below_step (by repeat (first | (with_reducible first | exact HB.out | apply below_alloc | apply pw_below_drewN | apply below_drew1) | exact HB.out)) hb); clear HO_7; clear HO_8; clear HO747; clear HB; have HO_7 := n0_; have HO_8 := n1_; have HO747 := n2_; have HO752 := n3_; have HB := n4_; (try clear gz0); have gz0 := pw_cell_below HB.out GZ0.out; (try clear gz1); have gz1 := pw_cell_below HB.out GZ1.out; (try clear gz2); have gz2 := pw_cell_below HB.out GZ2.out; clear n0_ n1_ n2_ n3_ n4_; (try clear hb); (try clear hb2); (try clear hk); (try clear hi); (try clear ho0)))
    (try simp only [Act.put, List.setIfInBounds_toArray, List.set_cons_zero, List.set_cons_succ])
    go_cut [126] (fun v126 wc => ∃ (kq : Nat) (x126_26 : Bool), v126 = .bool x126_26 ∧ Aside0 (reckonerlaw01_WordsBacks.j1 kq a4 t726 (t726.length : Int) ji7 (wrap64 (Int.tmod a4 64)) x126_26 = some r) ∧ Aside0 (kq ≤ kj9) ∧ Aside0 (Kd.R (Kd.int .u64) 23 wc w.heap.size (fun _ => True) (.slice Ao12 t726.length co12) t726) ∧ Aside0 (Below w.heap.size w wc))
    case first => as_aux_lemma =>
     have H := HC27.out
     clear HC27
     by_cases c31 : t745 = 0
     ·rw [if_pos c31] at H
      have c31b0 : (t745 == 0) = true := beq_iff_eq.mpr c31
      have c31b1 : (t745 != 0) = false := bne_eq_false_iff_eq.mpr c31
      clear c31
      (first | rw [c31b0] | (simp only [i64_w, i32_w]; rw [c31b0]) | skip)
      by_cases c32 : t750 = 0
      ·rw [if_pos c32] at H
       have c32b0 : (t750 == 0) = true := beq_iff_eq.mpr c32
       have c32b1 : (t750 != 0) = false := bne_eq_false_iff_eq.mpr c32
       clear c32
       replace H := Option.bind_eq_some_iff.mp H
       obtain ⟨t753, A330, H⟩ := H
       replace H : (if t753 = true then (reckonerlaw01_WordsBacks.j1 kj9 a4 t726 (t726.length : Int) ji7 (wrap64 (Int.tmod a4 64)) (t744 != t749)) else (reckonerlaw01_WordsBacks.j1 kj9 a4 t726 (t726.length : Int) ji7 (wrap64 (Int.tmod a4 64)) true)) = some r := H
       have A33 := Aside0.mk A330
       clear A330
       by_cases c34 : t753 = true
       ·subst c34
        have H1 : (reckonerlaw01_WordsBacks.j1 kj9 a4 t726 (t726.length : Int) ji7 (wrap64 (Int.tmod a4 64)) (t744 != t749)) = some r := by rw [if_pos rfl] at H; exact H
        clear H
        have H := H1
        clear H1
        have H' := Aside0.mk H
        clear H
        obtain ⟨Ao35, co35, eo35⟩ := Kd.R_slice HO752.out
        subst eo35
        go_wp2_with (first | (go_at_call 17; (with_reducible refine (reckonerlaw01_same.calls kj9 _ _ t748 _ _ t726 true _ ?side1 ?side2 ?side3 ?side4 A33.out).mono ?_); (case side1 => repeat (first | exact (Kd.R_reads' HO752.out).2.2 | (with_reducible refine Kd.C_alloc ?_ _) | (with_reducible refine Kd.C_drewN ?_ _) | (with_reducible refine Kd.C_drew ?_))); (case side2 => exact (Kd.R_reads' HO752.out).2.1); (case side3 => repeat (first | exact (Kd.R_reads' HO_7.out).2.2 | (with_reducible refine Kd.C_alloc ?_ _) | (with_reducible refine Kd.C_drewN ?_ _) | (with_reducible refine Kd.C_drew ?_))); (case side4 => exact (Kd.R_reads' HO_7.out).2.1); rintro e w' ⟨rfl, ⟨nd, rfl⟩⟩))
        go_meet
        case rel => exact ⟨_, ((t744 != t749)), (by first | rfl | (simp; done) | (simp [*]; done)), H', ⟨by have := HJ9.out; first | omega | exact Nat.le_refl _⟩, ⟨by (with_reducible repeat (first | apply Kd.R_alloc | apply Kd.R_drewN | apply Kd.R_drew)); exact Kd.R_mono HO_7.out (fun _ hk => trivial)⟩, ⟨by repeat (first | (with_reducible first | exact HB.out | apply below_alloc | apply pw_below_drewN | apply below_drew1) | exact HB.out)⟩⟩
       ·replace c34 := Bool.eq_false_iff.mpr c34
        subst c34
        have H1 : (reckonerlaw01_WordsBacks.j1 kj9 a4 t726 (t726.length : Int) ji7 (wrap64 (Int.tmod a4 64)) true) = some r := by rw [if_neg (show ¬ (false = true) by decide)] at H; exact H
        clear H
        have H := H1
        clear H1
        have H' := Aside0.mk H
        clear H
        obtain ⟨Ao36, co36, eo36⟩ := Kd.R_slice HO752.out
        subst eo36
        go_wp2_with (first | (go_at_call 17; (with_reducible refine (reckonerlaw01_same.calls kj9 _ _ t748 _ _ t726 false _ ?side1 ?side2 ?side3 ?side4 A33.out).mono ?_); (case side1 => repeat (first | exact (Kd.R_reads' HO752.out).2.2 | (with_reducible refine Kd.C_alloc ?_ _) | (with_reducible refine Kd.C_drewN ?_ _) | (with_reducible refine Kd.C_drew ?_))); (case side2 => exact (Kd.R_reads' HO752.out).2.1); (case side3 => repeat (first | exact (Kd.R_reads' HO_7.out).2.2 | (with_reducible refine Kd.C_alloc ?_ _) | (with_reducible refine Kd.C_drewN ?_ _) | (with_reducible refine Kd.C_drew ?_))); (case side4 => exact (Kd.R_reads' HO_7.out).2.1); rintro e w' ⟨rfl, ⟨nd, rfl⟩⟩))
        go_meet
        case rel => exact ⟨_, (true), (by first | rfl | (simp; done) | (simp [*]; done)), H', ⟨by have := HJ9.out; first | omega | exact Nat.le_refl _⟩, ⟨by (with_reducible repeat (first | apply Kd.R_alloc | apply Kd.R_drewN | apply Kd.R_drew)); exact Kd.R_mono HO_7.out (fun _ hk => trivial)⟩, ⟨by repeat (first | (with_reducible first | exact HB.out | apply below_alloc | apply pw_below_drewN | apply below_drew1) | exact HB.out)⟩⟩
      ·rw [if_neg c32] at H
       have c32b0 : (t750 == 0) = false := beq_eq_false_iff_ne.mpr c32
       have c32b1 : (t750 != 0) = true := bne_iff_ne.mpr c32
       have H' := Aside0.mk H
       clear H
       go_wp2
       go_meet
       case rel => exact ⟨_, (true), (by first | rfl | (simp; done) | (simp [*]; done)), H', ⟨by have := HJ9.out; first | omega | exact Nat.le_refl _⟩, ⟨by (with_reducible repeat (first | apply Kd.R_alloc | apply Kd.R_drewN | apply Kd.R_drew)); exact Kd.R_mono HO_7.out (fun _ hk => trivial)⟩, ⟨by repeat (first | (with_reducible first | exact HB.out | apply below_alloc | apply pw_below_drewN | apply below_drew1) | exact HB.out)⟩⟩
     ·rw [if_neg c31] at H
      have c31b0 : (t745 == 0) = false := beq_eq_false_iff_ne.mpr c31
      have c31b1 : (t745 != 0) = true := bne_iff_ne.mpr c31
      (first | rw [c31b0] | (simp only [i64_w, i32_w]; rw [c31b0]) | skip)
      have H' := Aside0.mk H
      clear H
      go_wp2
      go_meet
      case rel => exact ⟨_, (true), (by first | rfl | (simp; done) | (simp [*]; done)), H', ⟨by have := HJ9.out; first | omega | exact Nat.le_refl _⟩, ⟨by (with_reducible repeat (first | apply Kd.R_alloc | apply Kd.R_drewN | apply Kd.R_drew)); exact Kd.R_mono HO_7.out (fun _ hk => trivial)⟩, ⟨by repeat (first | (with_reducible first | exact HB.out | apply below_alloc | apply pw_below_drewN | apply below_drew1) | exact HB.out)⟩⟩
    case rest => as_aux_lemma =>
     clear HC27
     try clear c1
     try clear c2
     try clear p2
     try clear c3
     try clear p6
     try clear c9
     try clear c13
     try clear c14
     try clear c18
     try clear c18b0
     try clear c18b1
     try clear c19
     try clear c19b0
     try clear c19b1
     try clear c21
     try clear c24
     try clear c29
     try clear c30
     try clear c31
     try clear c31b0
     try clear c31b1
     try clear c32
     try clear c32b0
     try clear c32b1
     try clear c34
     try clear p2
     try clear p6
     obtain ⟨kq, x126_26, rfl, HA, HJ26, HO_7, HB⟩ := hcut
     (try clear gz0)
     have gz0 := pw_cell_below HB.out GZ0.out
     (try clear gz1)
     have gz1 := pw_cell_below HB.out GZ1.out
     (try clear gz2)
     have gz2 := pw_cell_below HB.out GZ2.out
     cases kq with
     | zero => exact absurd HA.out (by simp [reckonerlaw01_WordsBacks.j1])
     | succ kj26 =>
      have H := HA.out
      clear HA
      simp only [reckonerlaw01_WordsBacks.j1] at H
      by_cases c37 : x126_26 = true
      ·subst c37
       have H1 : (none) = some r := by rw [if_pos rfl] at H; exact H
       clear H
       have H := H1
       clear H1
       exact absurd H (by simp)
      ·replace c37 := Bool.eq_false_iff.mpr c37
       subst c37
       have H1 : (if ji7 = 0 then (none) else ((words_MulWord.f t726 ji7 (Int.tmod a4 ji7)).bind fun bt754 => ((words_DivWord.f bt754.1 ji7 bt754.2.1).bind fun bt759 => (if bt754.2.2 = 0 then (if bt759.2.2 = 0 then ((reckonerlaw01_same.f kj26 bt759.1 t726).bind fun t764 => (if t764 = true then (reckonerlaw01_WordsBacks.j2 kj26 t726 (t726.length : Int) (wrap64 (Int.tmod a4 64)) (bt759.2.1 != (Int.tmod a4 ji7))) else (reckonerlaw01_WordsBacks.j2 kj26 t726 (t726.length : Int) (wrap64 (Int.tmod a4 64)) true))) else (reckonerlaw01_WordsBacks.j2 kj26 t726 (t726.length : Int) (wrap64 (Int.tmod a4 64)) true)) else (reckonerlaw01_WordsBacks.j2 kj26 t726 (t726.length : Int) (wrap64 (Int.tmod a4 64)) true))))) = some r := by rw [if_neg (show ¬ (false = true) by decide)] at H; exact H
       clear H
       have H := H1
       clear H1
       by_cases c38 : ji7 = 0
       ·rw [if_pos c38] at H
        exact absurd H (by simp)
       ·rw [if_neg c38] at H
        have c38b0 : (ji7 == 0) = false := beq_eq_false_iff_ne.mpr c38
        have c38b1 : (ji7 != 0) = true := bne_iff_ne.mpr c38
        replace H := Option.bind_eq_some_iff.mp H
        obtain ⟨⟨t754, t755, t756⟩, A390, H⟩ := H
        replace H : ((words_DivWord.f t754 ji7 t755).bind fun bt759 => (if t756 = 0 then (if bt759.2.2 = 0 then ((reckonerlaw01_same.f kj26 bt759.1 t726).bind fun t764 => (if t764 = true then (reckonerlaw01_WordsBacks.j2 kj26 t726 (t726.length : Int) (wrap64 (Int.tmod a4 64)) (bt759.2.1 != (Int.tmod a4 ji7))) else (reckonerlaw01_WordsBacks.j2 kj26 t726 (t726.length : Int) (wrap64 (Int.tmod a4 64)) true))) else (reckonerlaw01_WordsBacks.j2 kj26 t726 (t726.length : Int) (wrap64 (Int.tmod a4 64)) true)) else (reckonerlaw01_WordsBacks.j2 kj26 t726 (t726.length : Int) (wrap64 (Int.tmod a4 64)) true))) = some r := H
        have A39 := Aside0.mk A390
        clear A390
        replace H := Option.bind_eq_some_iff.mp H
        obtain ⟨⟨t759, t760, t761⟩, A400, H⟩ := H
        replace H : (if t756 = 0 then (if t761 = 0 then ((reckonerlaw01_same.f kj26 t759 t726).bind fun t764 => (if t764 = true then (reckonerlaw01_WordsBacks.j2 kj26 t726 (t726.length : Int) (wrap64 (Int.tmod a4 64)) (t760 != (Int.tmod a4 ji7))) else (reckonerlaw01_WordsBacks.j2 kj26 t726 (t726.length : Int) (wrap64 (Int.tmod a4 64)) true))) else (reckonerlaw01_WordsBacks.j2 kj26 t726 (t726.length : Int) (wrap64 (Int.tmod a4 64)) true)) else (reckonerlaw01_WordsBacks.j2 kj26 t726 (t726.length : Int) (wrap64 (Int.tmod a4 64)) true)) = some r := H
        have A40 := Aside0.mk A400
        clear A400
        have HC41 := Aside0.mk H
        clear H
        go_upto_region 15 with (first | ((with_reducible refine gate_callee (f := 28) rfl ?_); refine goesL_ (some 134) rfl rfl Tryd.func28 (by kernel_rfl) rfl #[.slice Ao12 t726.length co12, .int .u64 ji7, .int .u64 (Int.tmod a4 ji7)] rfl (by (try simp only [List.map_toArray, List.map_cons, List.map_nil]); first | done | (simp only [hji7]; rfl) | rfl | (simp only [List.length_drop, List.length_take]; rfl)) ?_; (with_reducible refine (words_MulWord.calls _ _ t726 ji7 (Int.tmod a4 ji7) t754 t755 t756 _ ?side1 ?side2 A39.out).mono ?_); (case side1 => repeat (first | exact (Kd.R_reads' HO_7.out).2.2 | (with_reducible refine Kd.C_alloc ?_ _) | (with_reducible refine Kd.C_drewN ?_ _) | (with_reducible refine Kd.C_drew ?_))); (case side2 => exact (Kd.R_reads' HO_7.out).2.1); rintro e w42 ⟨v757, rfl, ho0, hb⟩; refine ⟨_, rfl, ?_⟩; have n0_ := Aside0.mk (Kd.R_elder' (by (with_reducible repeat (first | apply Kd.R_alloc | apply Kd.R_drewN | apply Kd.R_drew)); exact HO_7.out) (Kd.R_base ho0) hb); have n1_ := Aside0.mk (Kd.R_lower (Kd.R_new' ho0 (Kd.R_lt (by (with_reducible repeat (first | apply Kd.R_alloc | apply Kd.R_drewN | apply Kd.R_drew)); exact HO_7.out))) (below_size (by repeat (first | (with_reducible first | exact HB.out | apply below_alloc | apply pw_below_drewN | apply below_drew1) | exact HB.out)))); have n2_ := Aside0.mk (below_step (by repeat (first | (with_reducible first | exact HB.out | apply below_alloc | apply pw_below_drewN | apply below_drew1) | exact HB.out)) hb); clear HO_7; clear HB; have HO_7 := n0_; have HO758 := n1_; have HB := n2_; (try clear gz0); have gz0 := pw_cell_below HB.out GZ0.out; (try clear gz1); have gz1 := pw_cell_below HB.out GZ1.out; (try clear gz2); have gz2 := pw_cell_below HB.out GZ2.out; clear n0_ n1_ n2_; (try clear hb); (try clear hb2); (try clear hk); (try clear hi); (try clear ho0); obtain ⟨Ao43, co43, eo43⟩ := Kd.R_slice HO758.out; subst eo43) | ((with_reducible refine gate_callee (f := 20) rfl ?_); refine goesL_ (some 142) rfl rfl Tryd.func20 (by kernel_rfl) rfl #[.slice Ao43 t754.length co43, .int .u64 ji7, .int .u64 t755] rfl (by (try simp only [List.map_toArray, List.map_cons, List.map_nil]); first | done | (simp only [hji7]; rfl) | rfl | (simp only [List.length_drop, List.length_take]; rfl)) ?_; (with_reducible refine (words_DivWord.calls _ _ t754 ji7 t755 t759 t760 t761 _ ?side1 ?side2 A40.out).mono ?_); (case side1 => repeat (first | exact (Kd.R_reads' HO758.out).2.2 | (with_reducible refine Kd.C_alloc ?_ _) | (with_reducible refine Kd.C_drewN ?_ _) | (with_reducible refine Kd.C_drew ?_))); (case side2 => exact (Kd.R_reads' HO758.out).2.1); rintro e w44 ⟨v762, rfl, ho0, hb⟩; refine ⟨_, rfl, ?_⟩; have n0_ := Aside0.mk (Kd.R_elder' (by (with_reducible repeat (first | apply Kd.R_alloc | apply Kd.R_drewN | apply Kd.R_drew)); exact HO_7.out) (Kd.R_base ho0) hb); have n1_ := Aside0.mk (Kd.R_elder' (by (with_reducible repeat (first | apply Kd.R_alloc | apply Kd.R_drewN | apply Kd.R_drew)); exact HO758.out) (Kd.R_base ho0) hb); have n2_ := Aside0.mk (Kd.R_lower (Kd.R_new' (Kd.R_new' ho0 (Kd.R_lt (by (with_reducible repeat (first | apply Kd.R_alloc | apply Kd.R_drewN | apply Kd.R_drew)); exact HO_7.out))) (Kd.R_lt (by (with_reducible repeat (first | apply Kd.R_alloc | apply Kd.R_drewN | apply Kd.R_drew)); exact HO758.out))) (below_size (by repeat (first | (with_reducible first | exact HB.out | apply below_alloc | apply pw_below_drewN | apply below_drew1) | exact HB.out)))); have n3_ := Aside0.mk (below_step (by repeat (first | (with_reducible first | exact HB.out | apply below_alloc | apply pw_below_drewN | apply below_drew1) | exact HB.out)) hb); clear HO_7; clear HO758; clear HB; have HO_7 := n0_; have HO758 := n1_; have HO763 := n2_; have HB := n3_; (try clear gz0); have gz0 := pw_cell_below HB.out GZ0.out; (try clear gz1); have gz1 := pw_cell_below HB.out GZ1.out; (try clear gz2); have gz2 := pw_cell_below HB.out GZ2.out; clear n0_ n1_ n2_ n3_; (try clear hb); (try clear hb2); (try clear hk); (try clear hi); (try clear ho0)))
        (try simp only [Act.put, List.setIfInBounds_toArray, List.set_cons_zero, List.set_cons_succ])
        go_cut [165] (fun v165 wc => ∃ (kq : Nat) (x165_40 : Bool), v165 = .bool x165_40 ∧ Aside0 (reckonerlaw01_WordsBacks.j2 kq t726 (t726.length : Int) (wrap64 (Int.tmod a4 64)) x165_40 = some r) ∧ Aside0 (kq ≤ kj26) ∧ Aside0 (Kd.R (Kd.int .u64) 23 wc w.heap.size (fun _ => True) (.slice Ao12 t726.length co12) t726) ∧ Aside0 (Below w.heap.size w wc))
        case first => as_aux_lemma =>
         have H := HC41.out
         clear HC41
         by_cases c45 : t756 = 0
         ·rw [if_pos c45] at H
          have c45b0 : (t756 == 0) = true := beq_iff_eq.mpr c45
          have c45b1 : (t756 != 0) = false := bne_eq_false_iff_eq.mpr c45
          clear c45
          (first | rw [c45b0] | (simp only [i64_w, i32_w]; rw [c45b0]) | skip)
          by_cases c46 : t761 = 0
          ·rw [if_pos c46] at H
           have c46b0 : (t761 == 0) = true := beq_iff_eq.mpr c46
           have c46b1 : (t761 != 0) = false := bne_eq_false_iff_eq.mpr c46
           clear c46
           replace H := Option.bind_eq_some_iff.mp H
           obtain ⟨t764, A470, H⟩ := H
           replace H : (if t764 = true then (reckonerlaw01_WordsBacks.j2 kj26 t726 (t726.length : Int) (wrap64 (Int.tmod a4 64)) (t760 != (Int.tmod a4 ji7))) else (reckonerlaw01_WordsBacks.j2 kj26 t726 (t726.length : Int) (wrap64 (Int.tmod a4 64)) true)) = some r := H
           have A47 := Aside0.mk A470
           clear A470
           by_cases c48 : t764 = true
           ·subst c48
            have H1 : (reckonerlaw01_WordsBacks.j2 kj26 t726 (t726.length : Int) (wrap64 (Int.tmod a4 64)) (t760 != (Int.tmod a4 ji7))) = some r := by rw [if_pos rfl] at H; exact H
            clear H
            have H := H1
            clear H1
            have H' := Aside0.mk H
            clear H
            obtain ⟨Ao49, co49, eo49⟩ := Kd.R_slice HO763.out
            subst eo49
            go_wp2_with (first | (go_at_call 17; (with_reducible refine (reckonerlaw01_same.calls kj26 _ _ t759 _ _ t726 true _ ?side1 ?side2 ?side3 ?side4 A47.out).mono ?_); (case side1 => repeat (first | exact (Kd.R_reads' HO763.out).2.2 | (with_reducible refine Kd.C_alloc ?_ _) | (with_reducible refine Kd.C_drewN ?_ _) | (with_reducible refine Kd.C_drew ?_))); (case side2 => exact (Kd.R_reads' HO763.out).2.1); (case side3 => repeat (first | exact (Kd.R_reads' HO_7.out).2.2 | (with_reducible refine Kd.C_alloc ?_ _) | (with_reducible refine Kd.C_drewN ?_ _) | (with_reducible refine Kd.C_drew ?_))); (case side4 => exact (Kd.R_reads' HO_7.out).2.1); rintro e w' ⟨rfl, ⟨nd, rfl⟩⟩))
            go_meet
            case rel => exact ⟨_, ((t760 != (Int.tmod a4 ji7))), (by first | rfl | (simp; done) | (simp only [← hji7] <;> (first | rfl | simp)) | (simp [*]; done)), H', ⟨by have := HJ9.out; have := HJ26.out; first | omega | exact Nat.le_refl _⟩, ⟨by (with_reducible repeat (first | apply Kd.R_alloc | apply Kd.R_drewN | apply Kd.R_drew)); exact Kd.R_mono HO_7.out (fun _ hk => trivial)⟩, ⟨by repeat (first | (with_reducible first | exact HB.out | apply below_alloc | apply pw_below_drewN | apply below_drew1) | exact HB.out)⟩⟩
           ·replace c48 := Bool.eq_false_iff.mpr c48
            subst c48
            have H1 : (reckonerlaw01_WordsBacks.j2 kj26 t726 (t726.length : Int) (wrap64 (Int.tmod a4 64)) true) = some r := by rw [if_neg (show ¬ (false = true) by decide)] at H; exact H
            clear H
            have H := H1
            clear H1
            have H' := Aside0.mk H
            clear H
            obtain ⟨Ao50, co50, eo50⟩ := Kd.R_slice HO763.out
            subst eo50
            go_wp2_with (first | (go_at_call 17; (with_reducible refine (reckonerlaw01_same.calls kj26 _ _ t759 _ _ t726 false _ ?side1 ?side2 ?side3 ?side4 A47.out).mono ?_); (case side1 => repeat (first | exact (Kd.R_reads' HO763.out).2.2 | (with_reducible refine Kd.C_alloc ?_ _) | (with_reducible refine Kd.C_drewN ?_ _) | (with_reducible refine Kd.C_drew ?_))); (case side2 => exact (Kd.R_reads' HO763.out).2.1); (case side3 => repeat (first | exact (Kd.R_reads' HO_7.out).2.2 | (with_reducible refine Kd.C_alloc ?_ _) | (with_reducible refine Kd.C_drewN ?_ _) | (with_reducible refine Kd.C_drew ?_))); (case side4 => exact (Kd.R_reads' HO_7.out).2.1); rintro e w' ⟨rfl, ⟨nd, rfl⟩⟩))
            go_meet
            case rel => exact ⟨_, (true), (by first | rfl | (simp; done) | (simp [*]; done)), H', ⟨by have := HJ9.out; have := HJ26.out; first | omega | exact Nat.le_refl _⟩, ⟨by (with_reducible repeat (first | apply Kd.R_alloc | apply Kd.R_drewN | apply Kd.R_drew)); exact Kd.R_mono HO_7.out (fun _ hk => trivial)⟩, ⟨by repeat (first | (with_reducible first | exact HB.out | apply below_alloc | apply pw_below_drewN | apply below_drew1) | exact HB.out)⟩⟩
          ·rw [if_neg c46] at H
           have c46b0 : (t761 == 0) = false := beq_eq_false_iff_ne.mpr c46
           have c46b1 : (t761 != 0) = true := bne_iff_ne.mpr c46
           have H' := Aside0.mk H
           clear H
           go_wp2
           go_meet
           case rel => exact ⟨_, (true), (by first | rfl | (simp; done) | (simp [*]; done)), H', ⟨by have := HJ9.out; have := HJ26.out; first | omega | exact Nat.le_refl _⟩, ⟨by (with_reducible repeat (first | apply Kd.R_alloc | apply Kd.R_drewN | apply Kd.R_drew)); exact Kd.R_mono HO_7.out (fun _ hk => trivial)⟩, ⟨by repeat (first | (with_reducible first | exact HB.out | apply below_alloc | apply pw_below_drewN | apply below_drew1) | exact HB.out)⟩⟩
         ·rw [if_neg c45] at H
          have c45b0 : (t756 == 0) = false := beq_eq_false_iff_ne.mpr c45
          have c45b1 : (t756 != 0) = true := bne_iff_ne.mpr c45
          (first | rw [c45b0] | (simp only [i64_w, i32_w]; rw [c45b0]) | skip)
          have H' := Aside0.mk H
          clear H
          go_wp2
          go_meet
          case rel => exact ⟨_, (true), (by first | rfl | (simp; done) | (simp [*]; done)), H', ⟨by have := HJ9.out; have := HJ26.out; first | omega | exact Nat.le_refl _⟩, ⟨by (with_reducible repeat (first | apply Kd.R_alloc | apply Kd.R_drewN | apply Kd.R_drew)); exact Kd.R_mono HO_7.out (fun _ hk => trivial)⟩, ⟨by repeat (first | (with_reducible first | exact HB.out | apply below_alloc | apply pw_below_drewN | apply below_drew1) | exact HB.out)⟩⟩
        case rest => as_aux_lemma =>
         clear HC41
         try clear c1
         try clear c2
         try clear p2
         try clear c3
         try clear c4
         try clear p6
         try clear c9
         try clear c13
         try clear c14
         try clear c18
         try clear c18b0
         try clear c18b1
         try clear c19
         try clear c19b0
         try clear c19b1
         try clear c20
         try clear c21
         try clear c24
         try clear c28
         try clear c29
         try clear c30
         try clear c31
         try clear c31b0
         try clear c31b1
         try clear c32
         try clear c32b0
         try clear c32b1
         try clear c34
         try clear c37
         try clear c38
         try clear c38b0
         try clear c38b1
         try clear c45
         try clear c45b0
         try clear c45b1
         try clear c46
         try clear c46b0
         try clear c46b1
         try clear c48
         try clear p2
         try clear p6
         obtain ⟨kq, x165_40, rfl, HA, HJ40, HO_7, HB⟩ := hcut
         (try clear gz0)
         have gz0 := pw_cell_below HB.out GZ0.out
         (try clear gz1)
         have gz1 := pw_cell_below HB.out GZ1.out
         (try clear gz2)
         have gz2 := pw_cell_below HB.out GZ2.out
         cases kq with
         | zero => exact absurd HA.out (by simp [reckonerlaw01_WordsBacks.j2])
         | succ kj40 =>
          have H := HA.out
          clear HA
          simp only [reckonerlaw01_WordsBacks.j2] at H
          by_cases c51 : x165_40 = true
          ·subst c51
           have H1 : (none) = some r := by rw [if_pos rfl] at H; exact H
           clear H
           have H := H1
           clear H1
           exact absurd H (by simp)
          ·replace c51 := Bool.eq_false_iff.mpr c51
           subst c51
           have H1 : ((words_Left.f t726 (wrap64 (Int.tmod a4 64))).bind fun bt765 => ((words_Right.f bt765.1 (wrap64 (Int.tmod a4 64))).bind fun bt770 => (if bt765.2.2 = 0 then (if bt770.2.2 = 0 then (reckonerlaw01_WordsBacks.j3 kj40 t726 (t726.length : Int) (wrap64 (Int.tmod a4 64)) bt765.2.1 bt770.1 ((bt770.1.length : Int) != (t726.length : Int))) else (reckonerlaw01_WordsBacks.j3 kj40 t726 (t726.length : Int) (wrap64 (Int.tmod a4 64)) bt765.2.1 bt770.1 true)) else (reckonerlaw01_WordsBacks.j3 kj40 t726 (t726.length : Int) (wrap64 (Int.tmod a4 64)) bt765.2.1 bt770.1 true)))) = some r := by rw [if_neg (show ¬ (false = true) by decide)] at H; exact H
           clear H
           have H := H1
           clear H1
           replace H := Option.bind_eq_some_iff.mp H
           obtain ⟨⟨t765, t766, t767⟩, A520, H⟩ := H
           replace H : ((words_Right.f t765 (wrap64 (Int.tmod a4 64))).bind fun bt770 => (if t767 = 0 then (if bt770.2.2 = 0 then (reckonerlaw01_WordsBacks.j3 kj40 t726 (t726.length : Int) (wrap64 (Int.tmod a4 64)) t766 bt770.1 ((bt770.1.length : Int) != (t726.length : Int))) else (reckonerlaw01_WordsBacks.j3 kj40 t726 (t726.length : Int) (wrap64 (Int.tmod a4 64)) t766 bt770.1 true)) else (reckonerlaw01_WordsBacks.j3 kj40 t726 (t726.length : Int) (wrap64 (Int.tmod a4 64)) t766 bt770.1 true))) = some r := H
           have A52 := Aside0.mk A520
           clear A520
           replace H := Option.bind_eq_some_iff.mp H
           obtain ⟨⟨t770, t771, t772⟩, A530, H⟩ := H
           replace H : (if t767 = 0 then (if t772 = 0 then (reckonerlaw01_WordsBacks.j3 kj40 t726 (t726.length : Int) (wrap64 (Int.tmod a4 64)) t766 t770 ((t770.length : Int) != (t726.length : Int))) else (reckonerlaw01_WordsBacks.j3 kj40 t726 (t726.length : Int) (wrap64 (Int.tmod a4 64)) t766 t770 true)) else (reckonerlaw01_WordsBacks.j3 kj40 t726 (t726.length : Int) (wrap64 (Int.tmod a4 64)) t766 t770 true)) = some r := H
           have A53 := Aside0.mk A530
           clear A530
           have HC54 := Aside0.mk H
           clear H
           go_upto_region 19 with (first | ((with_reducible refine gate_callee (f := 24) rfl ?_); refine goesL_ (some 169) rfl rfl Tryd.func24 (by kernel_rfl) rfl #[.slice Ao12 t726.length co12, .int .i64 (wrap64 (Int.tmod a4 64))] rfl (by (try simp only [List.map_toArray, List.map_cons, List.map_nil]); first | done | rfl | (simp only [List.length_drop, List.length_take]; rfl)) ?_; (with_reducible refine (words_Left.calls _ _ t726 (wrap64 (Int.tmod a4 64)) t765 t766 t767 _ ?side1 ?side2 A52.out).mono ?_); (case side1 => repeat (first | exact (Kd.R_reads' HO_7.out).2.2 | (with_reducible refine Kd.C_alloc ?_ _) | (with_reducible refine Kd.C_drewN ?_ _) | (with_reducible refine Kd.C_drew ?_))); (case side2 => exact (Kd.R_reads' HO_7.out).2.1); rintro e w55 ⟨v768, rfl, ho0, hb⟩; refine ⟨_, rfl, ?_⟩; have n0_ := Aside0.mk (Kd.R_elder' (by (with_reducible repeat (first | apply Kd.R_alloc | apply Kd.R_drewN | apply Kd.R_drew)); exact HO_7.out) (Kd.R_base ho0) hb); have n1_ := Aside0.mk (Kd.R_lower (Kd.R_new' ho0 (Kd.R_lt (by (with_reducible repeat (first | apply Kd.R_alloc | apply Kd.R_drewN | apply Kd.R_drew)); exact HO_7.out))) (below_size (by repeat (first | (with_reducible first | exact HB.out | apply below_alloc | apply pw_below_drewN | apply below_drew1) | exact HB.out)))); have n2_ := Aside0.mk (below_step (by repeat (first | (with_reducible first | exact HB.out | apply below_alloc | apply pw_below_drewN | apply below_drew1) | exact HB.out)) hb); clear HO_7; clear HB; have HO_7 := n0_; have HO769 := n1_; have HB := n2_; (try clear gz0); have gz0 := pw_cell_below HB.out GZ0.out; (try clear gz1); have gz1 := pw_cell_below HB.out GZ1.out; (try clear gz2); have gz2 := pw_cell_below HB.out GZ2.out; clear n0_ n1_ n2_; (try clear hb); (try clear hb2); (try clear hk); (try clear hi); (try clear ho0); obtain ⟨Ao56, co56, eo56⟩ := Kd.R_slice HO769.out; subst eo56) | ((with_reducible refine gate_callee (f := 25) rfl ?_); refine goesL_ (some 176) rfl rfl Tryd.func25 (by kernel_rfl) rfl #[.slice Ao56 t765.length co56, .int .i64 (wrap64 (Int.tmod a4 64))] rfl (by (try simp only [List.map_toArray, List.map_cons, List.map_nil]); first | done | rfl | (simp only [List.length_drop, List.length_take]; rfl)) ?_; (with_reducible refine (words_Right.calls _ _ t765 (wrap64 (Int.tmod a4 64)) t770 t771 t772 _ ?side1 ?side2 A53.out).mono ?_); (case side1 => repeat (first | exact (Kd.R_reads' HO769.out).2.2 | (with_reducible refine Kd.C_alloc ?_ _) | (with_reducible refine Kd.C_drewN ?_ _) | (with_reducible refine Kd.C_drew ?_))); (case side2 => exact (Kd.R_reads' HO769.out).2.1); rintro e w57 ⟨v773, rfl, ho0, hb⟩; refine ⟨_, rfl, ?_⟩; have n0_ := Aside0.mk (Kd.R_elder' (by (with_reducible repeat (first | apply Kd.R_alloc | apply Kd.R_drewN | apply Kd.R_drew)); exact HO_7.out) (Kd.R_base ho0) hb); have n1_ := Aside0.mk (Kd.R_elder' (by (with_reducible repeat (first | apply Kd.R_alloc | apply Kd.R_drewN | apply Kd.R_drew)); exact HO769.out) (Kd.R_base ho0) hb); have n2_ := Aside0.mk (Kd.R_lower (Kd.R_new' (Kd.R_new' ho0 (Kd.R_lt (by (with_reducible repeat (first | apply Kd.R_alloc | apply Kd.R_drewN | apply Kd.R_drew)); exact HO_7.out))) (Kd.R_lt (by (with_reducible repeat (first | apply Kd.R_alloc | apply Kd.R_drewN | apply Kd.R_drew)); exact HO769.out))) (below_size (by repeat (first | (with_reducible first | exact HB.out | apply below_alloc | apply pw_below_drewN | apply below_drew1) | exact HB.out)))); have n3_ := Aside0.mk (below_step (by repeat (first | (with_reducible first | exact HB.out | apply below_alloc | apply pw_below_drewN | apply below_drew1) | exact HB.out)) hb); clear HO_7; clear HO769; clear HB; have HO_7 := n0_; have HO769 := n1_; have HO774 := n2_; have HB := n3_; (try clear gz0); have gz0 := pw_cell_below HB.out GZ0.out; (try clear gz1); have gz1 := pw_cell_below HB.out GZ1.out; (try clear gz2); have gz2 := pw_cell_below HB.out GZ2.out; clear n0_ n1_ n2_ n3_; (try clear hb); (try clear hb2); (try clear hk); (try clear hi); (try clear ho0)))
           (try simp only [Act.put, List.setIfInBounds_toArray, List.set_cons_zero, List.set_cons_succ])
           go_cut [191] (fun v191 wc => ∃ (kq : Nat) (x191_53 : Bool), v191 = .bool x191_53 ∧ Aside0 (reckonerlaw01_WordsBacks.j3 kq t726 (t726.length : Int) (wrap64 (Int.tmod a4 64)) t766 t770 x191_53 = some r) ∧ Aside0 (kq ≤ kj40) ∧ Aside0 (Kd.R (Kd.int .u64) 23 wc w.heap.size (fun k_ => some k_ ≠ (v773 : Value).ownBlock) (.slice Ao12 t726.length co12) t726) ∧ Aside0 (Kd.R (Kd.int .u64) 23 wc w.heap.size (fun k_ => some k_ ≠ ((.slice Ao12 t726.length co12) : Value).ownBlock) v773 t770) ∧ Aside0 (Below w.heap.size w wc))
           case first => as_aux_lemma =>
            have H := HC54.out
            clear HC54
            by_cases c58 : t767 = 0
            ·rw [if_pos c58] at H
             have c58b0 : (t767 == 0) = true := beq_iff_eq.mpr c58
             have c58b1 : (t767 != 0) = false := bne_eq_false_iff_eq.mpr c58
             clear c58
             (first | rw [c58b0] | (simp only [i64_w, i32_w]; rw [c58b0]) | skip)
             by_cases c59 : t772 = 0
             ·rw [if_pos c59] at H
              have c59b0 : (t772 == 0) = true := beq_iff_eq.mpr c59
              have c59b1 : (t772 != 0) = false := bne_eq_false_iff_eq.mpr c59
              clear c59
              have H' := Aside0.mk H
              clear H
              obtain ⟨Ao60, co60, eo60⟩ := Kd.R_slice HO774.out
              subst eo60
              go_wp2
              go_meet
              case rel => exact ⟨_, (((t770.length : Int) != (t726.length : Int))), (by first | rfl | (simp; done) | (simp [*]; done)), H', ⟨by have := HJ9.out; have := HJ26.out; have := HJ40.out; first | omega | exact Nat.le_refl _⟩, ⟨by (with_reducible repeat (first | apply Kd.R_alloc | apply Kd.R_drewN | apply Kd.R_drew)); exact Kd.R_mono HO_7.out (fun _ hk => hk.2)⟩, ⟨by (with_reducible repeat (first | apply Kd.R_alloc | apply Kd.R_drewN | apply Kd.R_drew)); exact Kd.R_mono HO774.out (fun _ hk => hk.1.2)⟩, ⟨by repeat (first | (with_reducible first | exact HB.out | apply below_alloc | apply pw_below_drewN | apply below_drew1) | exact HB.out)⟩⟩
             ·rw [if_neg c59] at H
              have c59b0 : (t772 == 0) = false := beq_eq_false_iff_ne.mpr c59
              have c59b1 : (t772 != 0) = true := bne_iff_ne.mpr c59
              have H' := Aside0.mk H
              clear H
              go_wp2
              go_meet
              case rel => exact ⟨_, (true), (by first | rfl | (simp; done) | (simp [*]; done)), H', ⟨by have := HJ9.out; have := HJ26.out; have := HJ40.out; first | omega | exact Nat.le_refl _⟩, ⟨by (with_reducible repeat (first | apply Kd.R_alloc | apply Kd.R_drewN | apply Kd.R_drew)); exact Kd.R_mono HO_7.out (fun _ hk => hk.2)⟩, ⟨by (with_reducible repeat (first | apply Kd.R_alloc | apply Kd.R_drewN | apply Kd.R_drew)); exact Kd.R_mono HO774.out (fun _ hk => hk.1.2)⟩, ⟨by repeat (first | (with_reducible first | exact HB.out | apply below_alloc | apply pw_below_drewN | apply below_drew1) | exact HB.out)⟩⟩
            ·rw [if_neg c58] at H
             have c58b0 : (t767 == 0) = false := beq_eq_false_iff_ne.mpr c58
             have c58b1 : (t767 != 0) = true := bne_iff_ne.mpr c58
             (first | rw [c58b0] | (simp only [i64_w, i32_w]; rw [c58b0]) | skip)
             have H' := Aside0.mk H
             clear H
             go_wp2
             go_meet
             case rel => exact ⟨_, (true), (by first | rfl | (simp; done) | (simp [*]; done)), H', ⟨by have := HJ9.out; have := HJ26.out; have := HJ40.out; first | omega | exact Nat.le_refl _⟩, ⟨by (with_reducible repeat (first | apply Kd.R_alloc | apply Kd.R_drewN | apply Kd.R_drew)); exact Kd.R_mono HO_7.out (fun _ hk => hk.2)⟩, ⟨by (with_reducible repeat (first | apply Kd.R_alloc | apply Kd.R_drewN | apply Kd.R_drew)); exact Kd.R_mono HO774.out (fun _ hk => hk.1.2)⟩, ⟨by repeat (first | (with_reducible first | exact HB.out | apply below_alloc | apply pw_below_drewN | apply below_drew1) | exact HB.out)⟩⟩
           case rest => as_aux_lemma =>
            clear HC54
            try clear c1
            try clear c2
            try clear p2
            try clear c3
            try clear c4
            try clear c5
            try clear p6
            try clear c9
            try clear c13
            try clear c14
            try clear c18
            try clear c18b0
            try clear c18b1
            try clear c19
            try clear c19b0
            try clear c19b1
            try clear c20
            try clear c21
            try clear c24
            try clear c25
            try clear c28
            try clear c29
            try clear c30
            try clear c31
            try clear c31b0
            try clear c31b1
            try clear c32
            try clear c32b0
            try clear c32b1
            try clear c34
            try clear c37
            try clear c38
            try clear c38b0
            try clear c38b1
            try clear c45
            try clear c45b0
            try clear c45b1
            try clear c46
            try clear c46b0
            try clear c46b1
            try clear c48
            try clear c51
            try clear c58
            try clear c58b0
            try clear c58b1
            try clear c59
            try clear c59b0
            try clear c59b1
            try clear p2
            try clear p6
            obtain ⟨kq, x191_53, rfl, HA, HJ53, HO_7, HO_34, HB⟩ := hcut
            (try clear gz0)
            have gz0 := pw_cell_below HB.out GZ0.out
            (try clear gz1)
            have gz1 := pw_cell_below HB.out GZ1.out
            (try clear gz2)
            have gz2 := pw_cell_below HB.out GZ2.out
            cases kq with
            | zero => exact absurd HA.out (by simp [reckonerlaw01_WordsBacks.j3])
            | succ kj53 =>
             have H := HA.out
             clear HA
             simp only [reckonerlaw01_WordsBacks.j3] at H
             by_cases c61 : x191_53 = true
             ·subst c61
              have H1 : (none) = some r := by rw [if_pos rfl] at H; exact H
              clear H
              have H := H1
              clear H1
              exact absurd H (by simp)
             ·replace c61 := Bool.eq_false_iff.mpr c61
              subst c61
              have H1 : (if (t726.length : Int) > 0 then (reckonerlaw01_WordsBacks.j4 kj53 t726 (t726.length : Int) (wrap64 (Int.tmod a4 64)) t766 t770 (decide ((wrap64 (Int.tmod a4 64)) > 0))) else (reckonerlaw01_WordsBacks.j4 kj53 t726 (t726.length : Int) (wrap64 (Int.tmod a4 64)) t766 t770 false)) = some r := by rw [if_neg (show ¬ (false = true) by decide)] at H; exact H
              clear H
              have H := H1
              clear H1
              have HC62 := Aside0.mk H
              clear H
              go_upto_region 21 with (fail)
              go_cut [197] (fun v197 wc => ∃ (kq : Nat) (x197_61 : Bool), v197 = .bool x197_61 ∧ Aside0 (reckonerlaw01_WordsBacks.j4 kq t726 (t726.length : Int) (wrap64 (Int.tmod a4 64)) t766 t770 x197_61 = some r) ∧ Aside0 (kq ≤ kj53) ∧ Aside0 (Kd.R (Kd.int .u64) 23 wc w.heap.size (fun k_ => some k_ ≠ (v773 : Value).ownBlock) (.slice Ao12 t726.length co12) t726) ∧ Aside0 (Kd.R (Kd.int .u64) 23 wc w.heap.size (fun k_ => some k_ ≠ ((.slice Ao12 t726.length co12) : Value).ownBlock) v773 t770) ∧ Aside0 (Below w.heap.size w wc))
              case first => as_aux_lemma =>
               have H := HC62.out
               clear HC62
               by_cases c63 : (t726.length : Int) > 0
               ·rw [if_pos c63] at H
                have c63b0 : decide (0 < (t726.length : Int)) = true := decide_eq_true c63
                have c63b1 : decide (0 < t726.length) = true := decide_eq_true (by omega)
                clear c63
                (first | rw [c63b0] | (simp only [i64_w, i32_w]; rw [c63b0]) | skip)
                have H' := Aside0.mk H
                clear H
                go_wp2
                go_meet
                case rel => exact ⟨_, (decide ((wrap64 (Int.tmod a4 64)) > 0)), (by first | rfl | (simp; done) | (simp [*]; done)), H', ⟨by have := HJ9.out; have := HJ26.out; have := HJ40.out; have := HJ53.out; first | omega | exact Nat.le_refl _⟩, ⟨by (with_reducible repeat (first | apply Kd.R_alloc | apply Kd.R_drewN | apply Kd.R_drew)); exact HO_7.out⟩, ⟨by (with_reducible repeat (first | apply Kd.R_alloc | apply Kd.R_drewN | apply Kd.R_drew)); exact HO_34.out⟩, ⟨by repeat (first | (with_reducible first | exact HB.out | apply below_alloc | apply pw_below_drewN | apply below_drew1) | exact HB.out)⟩⟩
               ·rw [if_neg c63] at H
                have c63b0 : decide (0 < (t726.length : Int)) = false := decide_eq_false c63
                have c63b1 : decide (0 < t726.length) = false := decide_eq_false (by omega)
                clear c63
                (first | rw [c63b0] | (simp only [i64_w, i32_w]; rw [c63b0]) | skip)
                have H' := Aside0.mk H
                clear H
                go_wp2
                go_meet
                case rel => exact ⟨_, (false), (by first | rfl | (simp; done) | (simp [*]; done)), H', ⟨by have := HJ9.out; have := HJ26.out; have := HJ40.out; have := HJ53.out; first | omega | exact Nat.le_refl _⟩, ⟨by (with_reducible repeat (first | apply Kd.R_alloc | apply Kd.R_drewN | apply Kd.R_drew)); exact HO_7.out⟩, ⟨by (with_reducible repeat (first | apply Kd.R_alloc | apply Kd.R_drewN | apply Kd.R_drew)); exact HO_34.out⟩, ⟨by repeat (first | (with_reducible first | exact HB.out | apply below_alloc | apply pw_below_drewN | apply below_drew1) | exact HB.out)⟩⟩
              case rest => as_aux_lemma =>
               clear HC62
               try clear c1
               try clear c2
               try clear p2
               try clear c3
               try clear c4
               try clear c5
               try clear c6
               try clear p6
               try clear c9
               try clear c13
               try clear c14
               try clear c18
               try clear c18b0
               try clear c18b1
               try clear c19
               try clear c19b0
               try clear c19b1
               try clear c20
               try clear c21
               try clear c24
               try clear c25
               try clear c28
               try clear c29
               try clear c30
               try clear c31
               try clear c31b0
               try clear c31b1
               try clear c32
               try clear c32b0
               try clear c32b1
               try clear c34
               try clear c37
               try clear c38
               try clear c38b0
               try clear c38b1
               try clear c45
               try clear c45b0
               try clear c45b1
               try clear c46
               try clear c46b0
               try clear c46b1
               try clear c48
               try clear c51
               try clear c58
               try clear c58b0
               try clear c58b1
               try clear c59
               try clear c59b0
               try clear c59b1
               try clear c61
               try clear c63
               try clear c63b0
               try clear c63b1
               try clear p2
               try clear p6
               obtain ⟨kq, x197_61, rfl, HA, HJ61, HO_7, HO_34, HB⟩ := hcut
               (try clear gz0)
               have gz0 := pw_cell_below HB.out GZ0.out
               (try clear gz1)
               have gz1 := pw_cell_below HB.out GZ1.out
               (try clear gz2)
               have gz2 := pw_cell_below HB.out GZ2.out
               cases kq with
               | zero => exact absurd HA.out (by simp [reckonerlaw01_WordsBacks.j4])
               | succ kj61 =>
                have H := HA.out
                clear HA
                simp only [reckonerlaw01_WordsBacks.j4] at H
                have HC64 := Aside0.mk H
                clear H
                go_upto_if 197 with (fail)
                go_cut [] (fun wc => ∃ (kq : Nat) (x34_63 : List Int), Aside0 (reckonerlaw01_WordsBacks.j5 kq t726 (t726.length : Int) x34_63 = some r) ∧ Aside0 (kq ≤ kj61) ∧ Aside0 (Kd.R (Kd.int .u64) 23 wc w.heap.size (fun k_ => some k_ ≠ (v773 : Value).ownBlock) (.slice Ao12 t726.length co12) t726) ∧ Aside0 (Kd.R (Kd.int .u64) 23 wc w.heap.size (fun k_ => some k_ ≠ ((.slice Ao12 t726.length co12) : Value).ownBlock) v773 x34_63) ∧ Aside0 (Below w.heap.size w wc))
                case first => as_aux_lemma =>
                 have H := HC64.out
                 clear HC64
                 by_cases c65 : x197_61 = true
                 ·subst c65
                  have H1 : (if 0 ≤ (wrap64 ((t726.length : Int) - 1)) then (if (wrap64 ((t726.length : Int) - 1)) < (t770.length : Int) then (if 0 ≤ (wrap64 (64 - (wrap64 (Int.tmod a4 64)))) then (reckonerlaw01_WordsBacks.j5 kj61 t726 (t726.length : Int) (t770.set ((wrap64 ((t726.length : Int) - 1)) : Int).toNat (Go.bits .or .u64 (rd t770 (wrap64 ((t726.length : Int) - 1))) (shl .u64 t766 (wrap64 (64 - (wrap64 (Int.tmod a4 64)))))))) else (none)) else (none)) else (none)) = some r := by rw [if_pos rfl] at H; exact H
                  clear H
                  have H := H1
                  clear H1
                  obtain ⟨ji66, hji66⟩ : ∃ j_ : Int, (wrap64 ((t726.length : Int) - 1)) = j_ := ⟨_, rfl⟩
                  replace H : (if 0 ≤ (ji66) then (if (ji66) < (t770.length : Int) then (if 0 ≤ (wrap64 (64 - (wrap64 (Int.tmod a4 64)))) then (reckonerlaw01_WordsBacks.j5 kj61 t726 (t726.length : Int) (t770.set ((ji66) : Int).toNat (Go.bits .or .u64 (rd t770 (ji66)) (shl .u64 t766 (wrap64 (64 - (wrap64 (Int.tmod a4 64)))))))) else (none)) else (none)) else (none)) = some r := by first | (rw [hji66] at H; exact H) | (simp only [hji66] at H ⊢; exact H)
                  have hji66w : (IntKind.i64.wrap ((t726.length : Int) - 1)) = ji66 := (i64_w _).trans hji66
                  by_cases c67 : 0 ≤ (ji66)
                  ·rw [if_pos c67] at H
                   have c67b0 : decide (0 ≤ (ji66)) = true := decide_eq_true c67
                   clear c67
                   (first | rw [c67b0] | (simp only [i64_w, i32_w]; rw [c67b0]) | skip)
                   by_cases c68 : (ji66) < (t770.length : Int)
                   ·rw [if_pos c68] at H
                    have c68b0 : decide ((ji66) < (t770.length : Int)) = true := decide_eq_true c68
                    clear c68
                    obtain ⟨ji69, hji69⟩ : ∃ j_ : Int, (wrap64 (64 - (wrap64 (Int.tmod a4 64)))) = j_ := ⟨_, rfl⟩
                    replace H : (if 0 ≤ (ji69) then (reckonerlaw01_WordsBacks.j5 kj61 t726 (t726.length : Int) (t770.set ((ji66) : Int).toNat (Go.bits .or .u64 (rd t770 (ji66)) (shl .u64 t766 (ji69))))) else (none)) = some r := by first | (rw [hji69] at H; exact H) | (simp only [hji69] at H ⊢; exact H)
                    have hji69w : (IntKind.i64.wrap (64 - (wrap64 (Int.tmod a4 64)))) = ji69 := (i64_w _).trans hji69
                    by_cases c70 : 0 ≤ (ji69)
                    ·rw [if_pos c70] at H
                     have c70b0 := eq_true c70
                     have c70b1 : decide (0 ≤ (ji69)) = true := decide_eq_true c70
                     clear c70
                     obtain ⟨ji71, hji71⟩ : ∃ j_ : Int, (shl .u64 t766 (ji69)) = j_ := ⟨_, rfl⟩
                     replace H : (reckonerlaw01_WordsBacks.j5 kj61 t726 (t726.length : Int) (t770.set ((ji66) : Int).toNat (Go.bits .or .u64 (rd t770 (ji66)) (ji71)))) = some r := by first | (rw [hji71] at H; exact H) | (simp only [hji71] at H ⊢; exact H)
                     have hji71_ : (IntKind.u64.wrap (t766 * 2 ^ min (ji69).toNat 64)) = ji71 := hji71
                     have hji71z : (ji69) ≤ 64 → (IntKind.u64.wrap (t766 * 2 ^ (ji69).toNat)) = ji71 := shl_small hji71
                     obtain ⟨y776, hy776⟩ : ∃ y_ : List Int, y_ = (t770.set ((ji66) : Int).toNat (Go.bits .or .u64 (rd t770 (ji66)) (ji71))) := ⟨_, rfl⟩
                     replace H : (reckonerlaw01_WordsBacks.j5 kj61 t726 (t726.length : Int) y776) = some r := by first | (rw [hy776]; with_reducible exact H) | (have H2_ := (Option.bind_some _ _).symm.trans H; rw [hy776]; with_reducible exact H2_) | (have H2_ := (Option.bind_some _ _).symm.trans H; with_reducible exact H2_) | with_reducible exact H | (rw [hy776]; exact H) | exact H
                     have Ny776 := Aside0.mk hy776
                     clear hy776
                     have H' := Aside0.mk H
                     clear H
                     try go_wp2
                     have n0_ := Aside0.mk (Kd.R_drew HO_7.out)
                     have n1_ := Aside0.mk (Kd.R_drew HO_34.out)
                     have n2_ := Aside0.mk (below_drew1 HB.out)
                     clear HO_7
                     clear HO_34
                     clear HB
                     have HO_7 := n0_
                     have HO_34 := n1_
                     have HB := n2_
                     clear n0_ n1_ n2_
                     obtain ⟨Ao74, co74, eo74⟩ := Kd.R_slice HO_34.out
                     (first | subst eo74 | (injection eo74 with f1_ f2_ f3_; have f4_ := f1_.symm; have f5_ := f3_.symm; clear f1_ f2_ f3_; subst f4_; subst f5_))
                     have p775 : 0 ≤ ((ji66) : Int) := of_decide_eq_true (by first | (with_reducible assumption) | assumption)
                     have q775 : (ji66) < (t770.length : Int) := of_decide_eq_true (by first | (with_reducible assumption) | assumption)
                     obtain ⟨ad775, e775, hx775_0⟩ := Kd.at_int (Kd.R_reads' HO_34.out).2.2 (ji66) p775 q775
                     cases e775
                     replace p775 := eq_true p775
                     replace q775 := eq_true q775
                     have p72 : 0 ≤ ((ji66) : Int) := of_decide_eq_true (by first | (with_reducible assumption) | assumption)
                     have q72 : ((ji66) : Int) < ((t770.length : Int) : Int) := of_decide_eq_true (by first | (with_reducible assumption) | assumption)
                     obtain ⟨go72, co72, eo72, gb72, gl72, cl72, HG72⟩ := Kd.R_form HO_34.out (by omega)
                     (first | cases eo72 | (injection eo72 with ea_ en_ ec_; (first | subst ea_ | (injection ea_ with ea_; subst ea_)); subst ec_; clear en_))
                     have GB72 := Aside0.mk gb72
                     have GG72 := Aside0.mk HG72
                     clear gb72 gl72 HG72
                     (first | simp only [add_plain] at hx775_0 | skip)
                     obtain ⟨hx72_0, hf72_0⟩ := Kd.R_celln 0 HO_34.out ((ji66) : Int) p72 q72
                     replace p72 := eq_true p72
                     replace q72 := eq_true q72
                     have HP75 := Kd.R_putn HO_34.out ((ji66) : Int) (Go.bits .or .u64 (rd t770 (ji66)) (ji71))
                     rw [← Ny776.out] at HP75
                     have HQ75 := Aside0.mk HP75
                     clear HP75
                     refine start_ (n := 15) (S := fun w' => w'.cell? ⟨go72, ((ji66)).toNat, none⟩ = some (.int .u64 (rd t770 (ji66)))) (ds := [14]) #[false, false, false, false, false, false, false, false, false, false, false, false, false, false, false] (by kernel_rfl) rfl rfl (hx775_0) (fun hHeld => ?_); refine with_tabW reckonerlaw01_WordsBacks.tab22 reckonerlaw01_WordsBacks.bits22 (fun HT_ HW_ => ?_)
                     generalize wc.drew = w73 at HO_7 HO_34 HB GG72 HQ75 hf72_0 hx72_0 hx775_0 hHeld ⊢
                     refine pure_ (i := 0) (N := some 198) (v := ?_) (a' := ?_) #[true, false, false, false, false, false, false, false, false, false, false, false, false, false, false] rfl rfl (any_of HT_.out (by kernel_rfl)) (fun _ _ _ h => h) (Or.inl ⟨by rfl, ?_⟩) ?_ ?_
                     rotate_left
                     ·intro w'
                      go_simp
                      with_reducible rfl
                     rotate_left
                     ·simp only [Act.put, List.setIfInBounds_toArray, List.set_cons_zero, List.set_cons_succ, i64_w, i32_w]
                      rfl
                     refine pure_ (i := 1) (N := some 199) (v := ?_) (a' := ?_) #[true, true, false, false, false, false, false, false, false, false, false, false, false, false, false] rfl rfl (any_of HT_.out (by kernel_rfl)) (fun _ _ _ h => h) (Or.inl ⟨by rfl, ?_⟩) ?_ ?_
                     rotate_left
                     ·intro w'
                      go_simp
                      with_reducible rfl
                     rotate_left
                     ·simp only [Act.put, List.setIfInBounds_toArray, List.set_cons_zero, List.set_cons_succ, i64_w, i32_w]
                      rfl
                     refine pure_ (i := 2) (N := some 200) (v := ?_) (a' := ?_) #[true, true, true, false, false, false, false, false, false, false, false, false, false, false, false] rfl rfl (any_of HT_.out (by kernel_rfl)) (fun _ _ _ h => h) (Or.inl ⟨by rfl, ?_⟩) ?_ ?_
                     rotate_left
                     ·intro w'
                      go_simp
                      with_reducible rfl
                     rotate_left
                     ·simp only [Act.put, List.setIfInBounds_toArray, List.set_cons_zero, List.set_cons_succ, i64_w, i32_w]
                      rfl
                     refine pure_ (i := 3) (N := some 201) (v := ?_) (a' := ?_) #[true, true, true, true, false, false, false, false, false, false, false, false, false, false, false] rfl rfl (any_of HT_.out (by kernel_rfl)) (fun _ _ _ h => h) (Or.inl ⟨by rfl, ?_⟩) ?_ ?_
                     rotate_left
                     ·intro w'
                      go_simp
                      with_reducible rfl
                     rotate_left
                     ·simp only [Act.put, List.setIfInBounds_toArray, List.set_cons_zero, List.set_cons_succ, i64_w, i32_w]
                      rfl
                     refine pure_ (i := 4) (N := some 202) (v := ?_) (a' := ?_) #[true, true, true, true, true, false, false, false, false, false, false, false, false, false, false] rfl rfl (any_of HT_.out (by kernel_rfl)) (fun _ _ _ h => h) (Or.inl ⟨by rfl, ?_⟩) ?_ ?_
                     rotate_left
                     ·intro w'
                      go_simp
                      with_reducible rfl
                     rotate_left
                     ·simp only [Act.put, List.setIfInBounds_toArray, List.set_cons_zero, List.set_cons_succ, i64_w, i32_w]
                      rfl
                     refine pure_ (i := 5) (N := some 203) (v := ?_) (a' := ?_) #[true, true, true, true, true, true, false, false, false, false, false, false, false, false, false] rfl rfl (any_of HT_.out (by kernel_rfl)) (fun _ _ _ h => h) (Or.inl ⟨by rfl, ?_⟩) ?_ ?_
                     rotate_left
                     ·intro w'
                      go_simp
                      with_reducible rfl
                     rotate_left
                     ·simp only [Act.put, List.setIfInBounds_toArray, List.set_cons_zero, List.set_cons_succ, i64_w, i32_w]
                      rfl
                     refine pure_ (i := 6) (N := some 204) (v := ?_) (a' := ?_) #[true, true, true, true, true, true, true, false, false, false, false, false, false, false, false] rfl rfl (any_of HT_.out (by kernel_rfl)) (fun _ _ _ h => h) (Or.inl ⟨by rfl, ?_⟩) ?_ ?_
                     rotate_left
                     ·intro w'
                      go_simp
                      with_reducible rfl
                     rotate_left
                     ·simp only [Act.put, List.setIfInBounds_toArray, List.set_cons_zero, List.set_cons_succ, i64_w, i32_w]
                      rfl
                     refine pure_ (i := 8) (N := some 206) (v := ?_) (a' := ?_) #[true, true, true, true, true, true, true, false, true, false, false, false, false, false, false] rfl rfl (any_of HT_.out (by kernel_rfl)) (fun _ _ _ h => h) (Or.inl ⟨by rfl, ?_⟩) ?_ ?_
                     rotate_left
                     ·intro w'
                      go_simp
                      with_reducible rfl
                     rotate_left
                     ·simp only [Act.put, List.setIfInBounds_toArray, List.set_cons_zero, List.set_cons_succ, i64_w, i32_w]
                      rfl
                     refine pure_ (i := 9) (N := some 207) (v := ?_) (a' := ?_) #[true, true, true, true, true, true, true, false, true, true, false, false, false, false, false] rfl rfl (any_of HT_.out (by kernel_rfl)) (fun _ _ _ h => h) (Or.inl ⟨by rfl, ?_⟩) ?_ ?_
                     rotate_left
                     ·intro w'
                      go_simp
                      with_reducible rfl
                     rotate_left
                     ·simp only [Act.put, List.setIfInBounds_toArray, List.set_cons_zero, List.set_cons_succ, i64_w, i32_w]
                      rfl
                     refine pure_ (i := 10) (N := some 208) (v := ?_) (a' := ?_) #[true, true, true, true, true, true, true, false, true, true, true, false, false, false, false] rfl rfl (any_of HT_.out (by kernel_rfl)) (fun _ _ _ h => h) (Or.inl ⟨by rfl, ?_⟩) ?_ ?_
                     rotate_left
                     ·intro w'
                      go_simp
                      with_reducible rfl
                     rotate_left
                     ·simp only [Act.put, List.setIfInBounds_toArray, List.set_cons_zero, List.set_cons_succ, i64_w, i32_w]
                      rfl
                     refine pure_ (i := 11) (N := some 209) (v := ?_) (a' := ?_) #[true, true, true, true, true, true, true, false, true, true, true, true, false, false, false] rfl rfl (any_of HT_.out (by kernel_rfl)) (fun _ _ _ h => h) (Or.inl ⟨by rfl, ?_⟩) ?_ ?_
                     rotate_left
                     ·intro w'
                      go_simp
                      with_reducible rfl
                     rotate_left
                     ·simp only [Act.put, List.setIfInBounds_toArray, List.set_cons_zero, List.set_cons_succ, i64_w, i32_w]
                      rfl
                     refine take_ (i := 7) (N := some 205) (v := ?_) (a' := ?_) #[true, true, true, true, true, true, true, true, true, true, true, true, false, false, false] rfl rfl (take_ofW HT_.out HW_.out (by kernel_rfl)) (fun _ _ _ h => h) (Or.inl ⟨by rfl, ?_⟩) hHeld ?_ ?_
                     rotate_left
                     ·intro w' s0
                      go_simp
                      with_reducible rfl
                     rotate_left
                     ·simp only [Act.put, List.setIfInBounds_toArray, List.set_cons_zero, List.set_cons_succ, i64_w, i32_w]
                      rfl
                     refine pure_ (i := 12) (N := some 210) (v := ?_) (a' := ?_) #[true, true, true, true, true, true, true, true, true, true, true, true, true, false, false] rfl rfl (any_of HT_.out (by kernel_rfl)) (fun _ _ _ h => h) (Or.inl ⟨by rfl, ?_⟩) ?_ ?_
                     rotate_left
                     ·intro w'
                      go_simp
                      with_reducible rfl
                     rotate_left
                     ·simp only [Act.put, List.setIfInBounds_toArray, List.set_cons_zero, List.set_cons_succ, i64_w, i32_w]
                      rfl
                     refine pure_ (i := 13) (N := some 211) (v := ?_) (a' := ?_) #[true, true, true, true, true, true, true, true, true, true, true, true, true, true, false] rfl rfl (any_of HT_.out (by kernel_rfl)) (fun _ _ _ h => h) (Or.inl ⟨by rfl, ?_⟩) ?_ ?_
                     rotate_left
                     ·intro w'
                      go_simp
                      with_reducible rfl
                     rotate_left
                     ·simp only [Act.put, List.setIfInBounds_toArray, List.set_cons_zero, List.set_cons_succ, i64_w, i32_w]
                      rfl
                     refine last_ (i := 14) (N := none) #[true, true, true, true, true, true, true, true, true, true, true, true, true, true, true] rfl rfl (one_of HT_.out (by kernel_rfl)) (by decide) (fun K hK => ?_)
                     refine skip_ (w1 := ?_) (by rfl) rfl ?_ ?_
                     rotate_left
                     ·go_simp
                      rfl
                     refine hK.out _ _ ?_
                     clear hK K
                     refine done_ (done_of HT_.out (by kernel_rfl)) ?_
                     try go_wp2
                     go_meet
                     case rel => exact ⟨_, (y776), H', ⟨by have := HJ9.out; have := HJ26.out; have := HJ40.out; have := HJ53.out; have := HJ61.out; first | omega | exact Nat.le_refl _⟩, ⟨by (with_reducible repeat (first | apply Kd.R_alloc | apply Kd.R_drewN | apply Kd.R_drew)); exact Kd.R_mono (Kd.R_far (p := ⟨go72, ((ji66) : Int).toNat, none⟩) (Kd.R_mono HO_7.out (fun k_ hk => (⟨hk, fun e_ => hk (by rw [e_]; rfl)⟩ : _ ∧ k_ ≠ go72))) (fun _ hk => hk.2) (.int .u64 (Go.bits .or .u64 (rd t770 (ji66)) (ji71)))) (fun _ hk => hk.1)⟩, ⟨by (with_reducible repeat (first | apply Kd.R_alloc | apply Kd.R_drewN | apply Kd.R_drew)); exact HQ75.out⟩, ⟨by repeat (first | (with_reducible first | exact HB.out | apply below_alloc | apply pw_below_drewN | apply below_drew1 | refine below_set ?_ GB72.out) | exact HB.out)⟩⟩
                    ·rw [if_neg c70] at H
                     exact absurd H (by simp)
                   ·rw [if_neg c68] at H
                    exact absurd H (by simp)
                  ·rw [if_neg c67] at H
                   exact absurd H (by simp)
                 ·replace c65 := Bool.eq_false_iff.mpr c65
                  subst c65
                  have H1 : (reckonerlaw01_WordsBacks.j5 kj61 t726 (t726.length : Int) t770) = some r := by rw [if_neg (show ¬ (false = true) by decide)] at H; exact H
                  clear H
                  have H := H1
                  clear H1
                  have H' := Aside0.mk H
                  clear H
                  go_wp2
                  go_meet
                  case rel => exact ⟨_, (t770), H', ⟨by have := HJ9.out; have := HJ26.out; have := HJ40.out; have := HJ53.out; have := HJ61.out; first | omega | exact Nat.le_refl _⟩, ⟨by (with_reducible repeat (first | apply Kd.R_alloc | apply Kd.R_drewN | apply Kd.R_drew)); exact HO_7.out⟩, ⟨by (with_reducible repeat (first | apply Kd.R_alloc | apply Kd.R_drewN | apply Kd.R_drew)); exact HO_34.out⟩, ⟨by repeat (first | (with_reducible first | exact HB.out | apply below_alloc | apply pw_below_drewN | apply below_drew1) | exact HB.out)⟩⟩
                case rest => as_aux_lemma =>
                 clear HC64
                 try clear c1
                 try clear c2
                 try clear p2
                 try clear c3
                 try clear c4
                 try clear c5
                 try clear c6
                 try clear p6
                 try clear c7
                 try clear p7
                 try clear q7
                 try clear hx7
                 try clear hf7
                 try clear c9
                 try clear c13
                 try clear c14
                 try clear c18
                 try clear c18b0
                 try clear c18b1
                 try clear c19
                 try clear c19b0
                 try clear c19b1
                 try clear c20
                 try clear c21
                 try clear c24
                 try clear c25
                 try clear c28
                 try clear c29
                 try clear c30
                 try clear c31
                 try clear c31b0
                 try clear c31b1
                 try clear c32
                 try clear c32b0
                 try clear c32b1
                 try clear c34
                 try clear c37
                 try clear c38
                 try clear c38b0
                 try clear c38b1
                 try clear c45
                 try clear c45b0
                 try clear c45b1
                 try clear c46
                 try clear c46b0
                 try clear c46b1
                 try clear c48
                 try clear c51
                 try clear c58
                 try clear c58b0
                 try clear c58b1
                 try clear c59
                 try clear c59b0
                 try clear c59b1
                 try clear c61
                 try clear c63
                 try clear c63b0
                 try clear c63b1
                 try clear p64
                 try clear c65
                 try clear c67
                 try clear c67b0
                 try clear c68
                 try clear c68b0
                 try clear c70
                 try clear c70b0
                 try clear c70b1
                 try clear p72
                 try clear q72
                 try clear hx72
                 try clear hf72
                 try clear hx72_0
                 try clear hx775_0
                 try clear p2
                 try clear p6
                 try clear p72
                 try clear p775
                 try clear q72
                 try clear q775
                 obtain ⟨kq, x34_63, HA, HJ63, HO_7, HO_34, HB⟩ := hcut
                 (try clear gz0)
                 have gz0 := pw_cell_below HB.out GZ0.out
                 (try clear gz1)
                 have gz1 := pw_cell_below HB.out GZ1.out
                 (try clear gz2)
                 have gz2 := pw_cell_below HB.out GZ2.out
                 cases kq with
                 | zero => exact absurd HA.out (by simp [reckonerlaw01_WordsBacks.j5])
                 | succ kj63 =>
                  have H := HA.out
                  clear HA
                  simp only [reckonerlaw01_WordsBacks.j5] at H
                  replace H := Option.bind_eq_some_iff.mp H
                  obtain ⟨⟨t777, t778, t779⟩, A760, H⟩ := H
                  replace H : (if 0 ≤ (t726.length : Int) then (if ((t726.length : Int) : Int).toNat ≤ 35184372088832 then ((words_Sub.f (List.replicate ((t726.length : Int) : Int).toNat 0) t726 0).bind fun bt785 => ((reckonerlaw01_same.f kj63 x34_63 t726).bind fun t790 => (if t790 = true then (if t779 = 0 then (if bt785.2.2 = 0 then ((reckonerlaw01_same.f kj63 t777 bt785.1).bind fun t791 => (if t791 = true then (if (t778 == (bt785.2.1 == 1)) = true then ((reckonerlaw01_awake.f kj63).bind fun t792 => (some t792)) else (none)) else (none))) else (none)) else (none)) else (none)))) else (none)) else (none)) = some r := H
                  have A76 := Aside0.mk A760
                  clear A760
                  by_cases c77 : 0 ≤ (t726.length : Int)
                  ·rw [if_pos c77] at H
                   have c77b0 := eq_true c77
                   have c77b1 : decide (0 ≤ (t726.length : Int)) = true := decide_eq_true c77
                   clear c77
                   by_cases c78 : ((t726.length : Int) : Int).toNat ≤ 35184372088832
                   ·rw [if_pos c78] at H
                    have c78b0 := eq_true c78
                    have c78b1 : decide (((t726.length : Int) : Int).toNat ≤ 35184372088832) = true := decide_eq_true c78
                    clear c78
                    obtain ⟨y782, hy782⟩ : ∃ y_ : List Int, y_ = (List.replicate ((t726.length : Int) : Int).toNat 0) := ⟨_, rfl⟩
                    replace H : ((words_Sub.f y782 t726 0).bind fun bt785 => ((reckonerlaw01_same.f kj63 x34_63 t726).bind fun t790 => (if t790 = true then (if t779 = 0 then (if bt785.2.2 = 0 then ((reckonerlaw01_same.f kj63 t777 bt785.1).bind fun t791 => (if t791 = true then (if (t778 == (bt785.2.1 == 1)) = true then ((reckonerlaw01_awake.f kj63).bind fun t792 => (some t792)) else (none)) else (none))) else (none)) else (none)) else (none)))) = some r := by first | (rw [hy782]; with_reducible exact H) | (have H2_ := (Option.bind_some _ _).symm.trans H; rw [hy782]; with_reducible exact H2_) | (have H2_ := (Option.bind_some _ _).symm.trans H; with_reducible exact H2_) | with_reducible exact H | (rw [hy782]; exact H) | exact H
                    have Ny782 := Aside0.mk hy782
                    clear hy782
                    replace H := Option.bind_eq_some_iff.mp H
                    obtain ⟨⟨t785, t786, t787⟩, A790, H⟩ := H
                    replace H : ((reckonerlaw01_same.f kj63 x34_63 t726).bind fun t790 => (if t790 = true then (if t779 = 0 then (if t787 = 0 then ((reckonerlaw01_same.f kj63 t777 t785).bind fun t791 => (if t791 = true then (if (t778 == (t786 == 1)) = true then ((reckonerlaw01_awake.f kj63).bind fun t792 => (some t792)) else (none)) else (none))) else (none)) else (none)) else (none))) = some r := H
                    have A79 := Aside0.mk A790
                    clear A790
                    replace H := Option.bind_eq_some_iff.mp H
                    obtain ⟨t790, A800, H⟩ := H
                    replace H : (if t790 = true then (if t779 = 0 then (if t787 = 0 then ((reckonerlaw01_same.f kj63 t777 t785).bind fun t791 => (if t791 = true then (if (t778 == (t786 == 1)) = true then ((reckonerlaw01_awake.f kj63).bind fun t792 => (some t792)) else (none)) else (none))) else (none)) else (none)) else (none)) = some r := H
                    have A80 := Aside0.mk A800
                    clear A800
                    by_cases c81 : t790 = true
                    ·subst c81
                     have H1 : (if t779 = 0 then (if t787 = 0 then ((reckonerlaw01_same.f kj63 t777 t785).bind fun t791 => (if t791 = true then (if (t778 == (t786 == 1)) = true then ((reckonerlaw01_awake.f kj63).bind fun t792 => (some t792)) else (none)) else (none))) else (none)) else (none)) = some r := by rw [if_pos rfl] at H; exact H
                     clear H
                     have H := H1
                     clear H1
                     by_cases c82 : t779 = 0
                     ·rw [if_pos c82] at H
                      have c82b0 : (t779 == 0) = true := beq_iff_eq.mpr c82
                      have c82b1 : (t779 != 0) = false := bne_eq_false_iff_eq.mpr c82
                      clear c82
                      by_cases c83 : t787 = 0
                      ·rw [if_pos c83] at H
                       have c83b0 : (t787 == 0) = true := beq_iff_eq.mpr c83
                       have c83b1 : (t787 != 0) = false := bne_eq_false_iff_eq.mpr c83
                       clear c83
                       replace H := Option.bind_eq_some_iff.mp H
                       obtain ⟨t791, A840, H⟩ := H
                       replace H : (if t791 = true then (if (t778 == (t786 == 1)) = true then ((reckonerlaw01_awake.f kj63).bind fun t792 => (some t792)) else (none)) else (none)) = some r := H
                       have A84 := Aside0.mk A840
                       clear A840
                       by_cases c85 : t791 = true
                       ·subst c85
                        have H1 : (if (t778 == (t786 == 1)) = true then ((reckonerlaw01_awake.f kj63).bind fun t792 => (some t792)) else (none)) = some r := by rw [if_pos rfl] at H; exact H
                        clear H
                        have H := H1
                        clear H1
                        by_cases c86 : (t778 == (t786 == 1)) = true
                        ·rw [if_pos c86] at H
                         have c86b0 : (t778 == (t786 == 1)) = true := c86
                         (try (have c86b1 : decide (t778 = (t786 == 1)) = true := by simpa using c86))
                         (try (have c86b2 : (t778 == (t786 == 1)) = true := by simpa using c86))
                         clear c86
                         replace H := Option.bind_eq_some_iff.mp H
                         obtain ⟨t792, A870, H⟩ := H
                         replace H : (some t792) = some r := H
                         have A87 := Aside0.mk A870
                         clear A870
                         obtain rfl := Option.some.inj H
                         go_wp2_with (first | ((with_reducible refine gate_callee (f := 39) rfl ?_); refine goesL_ (some 214) rfl rfl Tryd.func39 (by kernel_rfl) rfl #[.slice Ao12 t726.length co12] rfl (by (try simp only [List.map_toArray, List.map_cons, List.map_nil]); first | done | rfl | (simp only [List.length_drop, List.length_take]; rfl)) ?_; (with_reducible refine (words_Negate.calls _ _ t726 t777 t778 t779 _ ?side1 ?side2 A76.out).mono ?_); (case side1 => repeat (first | exact (Kd.R_reads' HO_7.out).2.2 | (with_reducible refine Kd.C_alloc ?_ _) | (with_reducible refine Kd.C_drewN ?_ _) | (with_reducible refine Kd.C_drew ?_))); (case side2 => exact (Kd.R_reads' HO_7.out).2.1); rintro e w88 ⟨v780, rfl, ho0, hb⟩; refine ⟨_, rfl, ?_⟩; have n0_ := Aside0.mk (Kd.R_elder' (by (with_reducible repeat (first | apply Kd.R_alloc | apply Kd.R_drewN | apply Kd.R_drew)); exact HO_7.out) (Kd.R_base ho0) hb); have n1_ := Aside0.mk (Kd.R_elder' (by (with_reducible repeat (first | apply Kd.R_alloc | apply Kd.R_drewN | apply Kd.R_drew)); exact HO_34.out) (Kd.R_base ho0) hb); have n2_ := Aside0.mk (Kd.R_lower (Kd.R_new' (Kd.R_new' ho0 (Kd.R_lt (by (with_reducible repeat (first | apply Kd.R_alloc | apply Kd.R_drewN | apply Kd.R_drew)); exact HO_7.out))) (Kd.R_lt (by (with_reducible repeat (first | apply Kd.R_alloc | apply Kd.R_drewN | apply Kd.R_drew)); exact HO_34.out))) (below_size (by repeat (first | (with_reducible first | exact HB.out | apply below_alloc | apply pw_below_drewN | apply below_drew1) | exact HB.out)))); have n3_ := Aside0.mk (below_step (by repeat (first | (with_reducible first | exact HB.out | apply below_alloc | apply pw_below_drewN | apply below_drew1) | exact HB.out)) hb); clear HO_7; clear HO_34; clear HB; have HO_7 := n0_; have HO_34 := n1_; have HO781 := n2_; have HB := n3_; (try clear gz0); have gz0 := pw_cell_below HB.out GZ0.out; (try clear gz1); have gz1 := pw_cell_below HB.out GZ1.out; (try clear gz2); have gz2 := pw_cell_below HB.out GZ2.out; clear n0_ n1_ n2_ n3_; (try clear hb); (try clear hb2); (try clear hk); (try clear hi); (try clear ho0)) | ((with_reducible refine gate_dst (N := 220) rfl ?_); (try (refine gate_guard (by rfl) ?_; dsimp only)); refine Kd.R_make (Kd.int .u64) _ 23 rfl (N := 220) rfl 22 _ _ rfl (t726.length : Int) rfl rfl Tryd.underlying22 (.int .u64 0) 8 info23 rfl (by decide) (by omega) 0 (ok := fun _ => True) (okp := fun _ => True) rfl (fun _ hk => hk) trivial (of_decide_eq_true (by first | (with_reducible assumption) | assumption)) (Nat.le_trans (Nat.mul_le_mul_right _ (of_decide_eq_true (by first | (with_reducible assumption) | assumption) : (t726.length : Int).toNat ≤ 35184372088832)) (by omega)) (Below.refl _ _) (Nat.le_refl _) ?_; intro v783 w89 ho90 hb hg_ hnew_; clear hg_ hnew_; (first | rw [← Ny782.out] at ho90 | (simp only [Int.reduceToNat] at ho90; rw [← Ny782.out] at ho90)); have n0_ := Aside0.mk (Kd.R_elder' (by (with_reducible repeat (first | apply Kd.R_alloc | apply Kd.R_drewN | apply Kd.R_drew)); exact HO_7.out) (Kd.R_base ho90) hb); have n1_ := Aside0.mk (Kd.R_elder' (by (with_reducible repeat (first | apply Kd.R_alloc | apply Kd.R_drewN | apply Kd.R_drew)); exact HO_34.out) (Kd.R_base ho90) hb); have n2_ := Aside0.mk (Kd.R_elder' (by (with_reducible repeat (first | apply Kd.R_alloc | apply Kd.R_drewN | apply Kd.R_drew)); exact HO781.out) (Kd.R_base ho90) hb); have n3_ := Aside0.mk (Kd.R_lower (Kd.R_new' (Kd.R_new' (Kd.R_new' ho90 (Kd.R_lt (by (with_reducible repeat (first | apply Kd.R_alloc | apply Kd.R_drewN | apply Kd.R_drew)); exact HO_7.out))) (Kd.R_lt (by (with_reducible repeat (first | apply Kd.R_alloc | apply Kd.R_drewN | apply Kd.R_drew)); exact HO_34.out))) (Kd.R_lt (by (with_reducible repeat (first | apply Kd.R_alloc | apply Kd.R_drewN | apply Kd.R_drew)); exact HO781.out))) (below_size (by repeat (first | (with_reducible first | exact HB.out | apply below_alloc | apply pw_below_drewN | apply below_drew1) | exact HB.out)))); have n4_ := Aside0.mk (below_step (by repeat (first | (with_reducible first | exact HB.out | apply below_alloc | apply pw_below_drewN | apply below_drew1) | exact HB.out)) hb); clear HO_7; clear HO_34; clear HO781; clear HB; have HO_7 := n0_; have HO_34 := n1_; have HO781 := n2_; have HO784 := n3_; have HB := n4_; (try clear gz0); have gz0 := pw_cell_below HB.out GZ0.out; (try clear gz1); have gz1 := pw_cell_below HB.out GZ1.out; (try clear gz2); have gz2 := pw_cell_below HB.out GZ2.out; clear n0_ n1_ n2_ n3_ n4_; clear hb ho90; obtain ⟨Ao91, co91, eo91⟩ := Kd.R_slice HO784.out; subst eo91) | ((with_reducible refine gate_callee (f := 14) rfl ?_); refine goesL_ (some 222) rfl rfl Tryd.func14 (by kernel_rfl) rfl #[.slice Ao91 y782.length co91, .slice Ao12 t726.length co12, .int .u64 0] rfl (by (try simp only [List.map_toArray, List.map_cons, List.map_nil]); first | done | rfl | (simp only [List.length_drop, List.length_take]; rfl)) ?_; (with_reducible refine (words_Sub.calls _ _ y782 _ _ t726 0 t785 t786 t787 _ ?side1 ?side2 ?side3 ?side4 A79.out).mono ?_); (case side1 => repeat (first | exact (Kd.R_reads' HO784.out).2.2 | (with_reducible refine Kd.C_alloc ?_ _) | (with_reducible refine Kd.C_drewN ?_ _) | (with_reducible refine Kd.C_drew ?_))); (case side2 => exact (Kd.R_reads' HO784.out).2.1); (case side3 => repeat (first | exact (Kd.R_reads' HO_7.out).2.2 | (with_reducible refine Kd.C_alloc ?_ _) | (with_reducible refine Kd.C_drewN ?_ _) | (with_reducible refine Kd.C_drew ?_))); (case side4 => exact (Kd.R_reads' HO_7.out).2.1); rintro e w92 ⟨v788, rfl, ho0, hb⟩; refine ⟨_, rfl, ?_⟩; have n0_ := Aside0.mk (Kd.R_elder' (by (with_reducible repeat (first | apply Kd.R_alloc | apply Kd.R_drewN | apply Kd.R_drew)); exact HO_7.out) (Kd.R_base ho0) hb); have n1_ := Aside0.mk (Kd.R_elder' (by (with_reducible repeat (first | apply Kd.R_alloc | apply Kd.R_drewN | apply Kd.R_drew)); exact HO_34.out) (Kd.R_base ho0) hb); have n2_ := Aside0.mk (Kd.R_elder' (by (with_reducible repeat (first | apply Kd.R_alloc | apply Kd.R_drewN | apply Kd.R_drew)); exact HO781.out) (Kd.R_base ho0) hb); have n3_ := Aside0.mk (Kd.R_elder' (by (with_reducible repeat (first | apply Kd.R_alloc | apply Kd.R_drewN | apply Kd.R_drew)); exact HO784.out) (Kd.R_base ho0) hb); have n4_ := Aside0.mk (Kd.R_lower (Kd.R_new' (Kd.R_new' (Kd.R_new' (Kd.R_new' ho0 (Kd.R_lt (by (with_reducible repeat (first | apply Kd.R_alloc | apply Kd.R_drewN | apply Kd.R_drew)); exact HO_7.out))) (Kd.R_lt (by (with_reducible repeat (first | apply Kd.R_alloc | apply Kd.R_drewN | apply Kd.R_drew)); exact HO_34.out))) (Kd.R_lt (by (with_reducible repeat (first | apply Kd.R_alloc | apply Kd.R_drewN | apply Kd.R_drew)); exact HO781.out))) (Kd.R_lt (by (with_reducible repeat (first | apply Kd.R_alloc | apply Kd.R_drewN | apply Kd.R_drew)); exact HO784.out))) (below_size (by repeat (first | (with_reducible first | exact HB.out | apply below_alloc | apply pw_below_drewN | apply below_drew1) | exact HB.out)))); have n5_ := Aside0.mk (below_step (by repeat (first | (with_reducible first | exact HB.out | apply below_alloc | apply pw_below_drewN | apply below_drew1) | exact HB.out)) hb); clear HO_7; clear HO_34; clear HO781; clear HO784; clear HB; have HO_7 := n0_; have HO_34 := n1_; have HO781 := n2_; have HO784 := n3_; have HO789 := n4_; have HB := n5_; (try clear gz0); have gz0 := pw_cell_below HB.out GZ0.out; (try clear gz1); have gz1 := pw_cell_below HB.out GZ1.out; (try clear gz2); have gz2 := pw_cell_below HB.out GZ2.out; clear n0_ n1_ n2_ n3_ n4_ n5_; (try clear hb); (try clear hb2); (try clear hk); (try clear hi); (try clear ho0); obtain ⟨Ao93, co93, eo93⟩ := Kd.R_slice HO_34.out; subst eo93) | ((with_reducible refine gate_callee (f := 17) rfl ?_); refine goesL_ (some 228) rfl rfl Tryd.func17 (by kernel_rfl) rfl #[.slice Ao93 x34_63.length co93, .slice Ao12 t726.length co12] rfl (by (try simp only [List.map_toArray, List.map_cons, List.map_nil]); first | done | rfl | (simp only [List.length_drop, List.length_take]; rfl)) ?_; (with_reducible refine (reckonerlaw01_same.calls kj63 _ _ x34_63 _ _ t726 true _ ?side1 ?side2 ?side3 ?side4 A80.out).mono ?_); (case side1 => repeat (first | exact (Kd.R_reads' HO_34.out).2.2 | (with_reducible refine Kd.C_alloc ?_ _) | (with_reducible refine Kd.C_drewN ?_ _) | (with_reducible refine Kd.C_drew ?_))); (case side2 => exact (Kd.R_reads' HO_34.out).2.1); (case side3 => repeat (first | exact (Kd.R_reads' HO_7.out).2.2 | (with_reducible refine Kd.C_alloc ?_ _) | (with_reducible refine Kd.C_drewN ?_ _) | (with_reducible refine Kd.C_drew ?_))); (case side4 => exact (Kd.R_reads' HO_7.out).2.1); rintro e w' ⟨rfl, ⟨nd, rfl⟩⟩; refine ⟨_, rfl, ?_⟩; obtain ⟨Ao94, co94, eo94⟩ := Kd.R_slice HO781.out; subst eo94; obtain ⟨Ao95, co95, eo95⟩ := Kd.R_slice HO789.out; subst eo95) | (go_at_call 17; (with_reducible refine (reckonerlaw01_same.calls kj63 _ _ t777 _ _ t785 true _ ?side1 ?side2 ?side3 ?side4 A84.out).mono ?_); (case side1 => repeat (first | exact (Kd.R_reads' HO781.out).2.2 | (with_reducible refine Kd.C_alloc ?_ _) | (with_reducible refine Kd.C_drewN ?_ _) | (with_reducible refine Kd.C_drew ?_))); (case side2 => exact (Kd.R_reads' HO781.out).2.1); (case side3 => repeat (first | exact (Kd.R_reads' HO789.out).2.2 | (with_reducible refine Kd.C_alloc ?_ _) | (with_reducible refine Kd.C_drewN ?_ _) | (with_reducible refine Kd.C_drew ?_))); (case side4 => exact (Kd.R_reads' HO789.out).2.1); rintro e w' ⟨rfl, ⟨nd, rfl⟩⟩) | (go_at_call 19; (with_reducible refine (reckonerlaw01_awake.calls kj63  t792 _ (Laid.below HLd.out (by repeat (first | (with_reducible first | exact HB.out | apply below_alloc | apply pw_below_drewN | apply below_drew1) | exact HB.out))) A87.out).mono ?_); rintro e w96 ⟨rfl, hb⟩; have n0_ := Aside0.mk (Kd.R_below (by (with_reducible repeat (first | apply Kd.R_alloc | apply Kd.R_drewN | apply Kd.R_drew)); exact HO_7.out) hb); have n1_ := Aside0.mk (Kd.R_below (by (with_reducible repeat (first | apply Kd.R_alloc | apply Kd.R_drewN | apply Kd.R_drew)); exact HO_34.out) hb); have n2_ := Aside0.mk (Kd.R_below (by (with_reducible repeat (first | apply Kd.R_alloc | apply Kd.R_drewN | apply Kd.R_drew)); exact HO781.out) hb); have n3_ := Aside0.mk (Kd.R_below (by (with_reducible repeat (first | apply Kd.R_alloc | apply Kd.R_drewN | apply Kd.R_drew)); exact HO784.out) hb); have n4_ := Aside0.mk (Kd.R_below (by (with_reducible repeat (first | apply Kd.R_alloc | apply Kd.R_drewN | apply Kd.R_drew)); exact HO789.out) hb); have n5_ := Aside0.mk (below_step (by repeat (first | (with_reducible first | exact HB.out | apply below_alloc | apply pw_below_drewN | apply below_drew1) | exact HB.out)) hb); clear HO_7; clear HO_34; clear HO781; clear HO784; clear HO789; clear HB; have HO_7 := n0_; have HO_34 := n1_; have HO781 := n2_; have HO784 := n3_; have HO789 := n4_; have HB := n5_; (try clear gz0); have gz0 := pw_cell_below HB.out GZ0.out; (try clear gz1); have gz1 := pw_cell_below HB.out GZ1.out; (try clear gz2); have gz2 := pw_cell_below HB.out GZ2.out; clear n0_ n1_ n2_ n3_ n4_ n5_; (try clear hb); (try clear hb2); (try clear hk); (try clear hi)))
                         go_ret
                         exact ⟨by first | rfl | (simp [errW_none, errW_some] <;> rfl) | (simp only [← hji7]; first | rfl | (simp [errW_none, errW_some] <;> rfl)) | (simp [*, errW_none, errW_some] <;> rfl), below_step HB00.out (by repeat (first | (with_reducible first | exact HB.out | apply below_alloc | apply pw_below_drewN | apply below_drew1) | exact HB.out))⟩
                        ·rw [if_neg c86] at H
                         exact absurd H (by simp)
                       ·replace c85 := Bool.eq_false_iff.mpr c85
                        subst c85
                        have H1 : (none) = some r := by rw [if_neg (show ¬ (false = true) by decide)] at H; exact H
                        clear H
                        have H := H1
                        clear H1
                        exact absurd H (by simp)
                      ·rw [if_neg c83] at H
                       exact absurd H (by simp)
                     ·rw [if_neg c82] at H
                      exact absurd H (by simp)
                    ·replace c81 := Bool.eq_false_iff.mpr c81
                     subst c81
                     have H1 : (none) = some r := by rw [if_neg (show ¬ (false = true) by decide)] at H; exact H
                     clear H
                     have H := H1
                     clear H1
                     exact absurd H (by simp)
                   ·rw [if_neg c78] at H
                    exact absurd H (by simp)
                  ·rw [if_neg c77] at H
                   exact absurd H (by simp)
/-- THE ONE PURE STATEMENT of reckonerlaw01_WordsBacks: yours. -/
def reckonerlaw01_WordsBacks.Pure : Prop := ∀ (l0 : List Int) (l1 : List Int) (a2 : Int) (a3 : Int) (a4 : Int), l0.length ≤ maxLen → l0.length * 8 ≤ 140737488351232 → (∀ x ∈ l0, (Lit.int .u64 x).wf = true) → l1.length ≤ maxLen → l1.length * 8 ≤ 140737488351232 → (∀ x ∈ l1, (Lit.int .u64 x).wf = true) → (Lit.int .u64 a2).wf = true → (Lit.int .u64 a3).wf = true → (Lit.int .u64 a4).wf = true → ∃ k, reckonerlaw01_WordsBacks.f k l0 l1 a2 a3 a4 = some true
theorem reckonerlaw01_WordsBacks.walk (P : reckonerlaw01_WordsBacks.Pure) (a0 : Option Addr) (len0 cap0 : Nat) (z0 : List Int) (a1 : Option Addr) (len1 cap1 : Nat) (z1 : List Int) (a2 : Int) (a3 : Int) (a4 : Int) (w : World) (w0 : (a0 = none ∧ len0 = 0 ∧ cap0 = 0 ∧ z0 = []) ∨ ∃ x, a0 = some x ∧ len0 ≤ cap0 ∧ cap0 ≤ maxLen ∧ z0.length = cap0 ∧ (∀ i, i < z0.length → w.cell? (x.add i) = some (.int .u64 (z0.getD i 0))) ∧ ∀ n ∈ z0, (Lit.int .u64 n).wf = true) (y0 : len0 * 8 ≤ 140737488351232) (w1 : (a1 = none ∧ len1 = 0 ∧ cap1 = 0 ∧ z1 = []) ∨ ∃ x, a1 = some x ∧ len1 ≤ cap1 ∧ cap1 ≤ maxLen ∧ z1.length = cap1 ∧ (∀ i, i < z1.length → w.cell? (x.add i) = some (.int .u64 (z1.getD i 0))) ∧ ∀ n ∈ z1, (Lit.int .u64 n).wf = true) (y1 : len1 * 8 ≤ 140737488351232) (w2 : (Lit.int .u64 a2).wf = true) (w3 : (Lit.int .u64 a3).wf = true) (w4 : (Lit.int .u64 a4).wf = true) (hg : Laid w) :
    Calls Tryd.prog 9 #[.slice a0 len0 cap0, .slice a1 len1 cap1, .agg #[.int .u64 a2, .int .u64 a3, .int .u64 a4]] w fun e w' => e = .returned (.bool true) ∧ Below w.heap.size w w' := by
  obtain ⟨l0, rfl, hr0, hm0, hw0, hc0⟩ := ReadsInt.ofRowC w0
  obtain ⟨l1, rfl, hr1, hm1, hw1, hc1⟩ := ReadsInt.ofRowC w1
  obtain ⟨k, h⟩ := P l0 l1 a2 a3 a4 hm0 y0 hw0 hm1 y1 hw1 w2 w3 w4
  refine (reckonerlaw01_WordsBacks.calls k _ _ l0 _ _ l1 a2 a3 a4 true w (Kd.C_of_reads (d := (0 : Int)) (h1 := fun _ => rfl) hr0) hc0 (Kd.C_of_reads (d := (0 : Int)) (h1 := fun _ => rfl) hr1) hc1 hg h).mono ?_
  rintro e w' ⟨rfl, hd⟩
  exact ⟨rfl, hd⟩
end Go.Proofs.YtldefhhfcbmbpaaDoor.T
/- Values of rows of digits: no program here. -/
namespace Go.Proofs.YtldefhhfcbmbpaaDoor.Ex
set_option linter.unusedVariables false

/-- The value of a row of digits, the lowest first. -/
def valB (B : Int) : List Int → Int
  | [] => 0
  | x :: l => x + B * valB B l
/-- All are digits. -/
def inB (B : Int) (l : List Int) : Prop := ∀ x ∈ l, 0 ≤ x ∧ x < B
theorem inB_cons {B x : Int} {l : List Int} : inB B (x :: l) ↔ (0 ≤ x ∧ x < B) ∧ inB B l := by simp [inB]
theorem inB_nil {B : Int} : inB B [] := fun _ h => by cases h
theorem inB_set {B : Int} {l : List Int} (h : inB B l) (i : Nat) {x : Int} (hx : 0 ≤ x ∧ x < B) : inB B (l.set i x) := fun y hy => by
  rcases List.mem_or_eq_of_mem_set hy with h1 | h1
  · exact h y h1
  · rw [h1]; exact hx
theorem valB_append (B : Int) : ∀ a b : List Int, valB B (a ++ b) = valB B a + B ^ a.length * valB B b
  | [], b => by simp [valB]
  | x :: a, b => by
    show x + B * valB B (a ++ b) = x + B * valB B a + B ^ (a.length + 1) * valB B b
    rw [valB_append B a b, Int.mul_add, Int.pow_succ, Int.mul_comm (B ^ a.length) B, Int.mul_assoc, Int.add_assoc]
theorem valB_nonneg {B : Int} (hB : 0 < B) : ∀ {l : List Int}, inB B l → 0 ≤ valB B l
  | [], _ => Int.le_refl 0
  | x :: l, h => by
    have h1 := inB_cons.1 h
    have h2 := valB_nonneg hB h1.2
    have h3 := Int.mul_nonneg (Int.le_of_lt hB) h2
    show 0 ≤ x + B * valB B l
    omega
theorem valB_lt {B : Int} (hB : 0 < B) : ∀ {l : List Int}, inB B l → valB B l < B ^ l.length
  | [], _ => by simp [valB]
  | x :: l, h => by
    have h1 := inB_cons.1 h
    have h2 := valB_lt hB h1.2
    have h3 : B * (valB B l + 1) ≤ B * B ^ l.length := Int.mul_le_mul_of_nonneg_left h2 (Int.le_of_lt hB)
    rw [Int.mul_add, Int.mul_one] at h3
    show x + B * valB B l < B ^ (l.length + 1)
    rw [Int.pow_succ, Int.mul_comm (B ^ l.length)]
    omega
theorem valB_inj {B : Int} (hB : 0 < B) : ∀ {a b : List Int}, inB B a → inB B b → a.length = b.length → valB B a = valB B b → a = b
  | [], [], _, _, _, _ => rfl
  | x :: a, y :: b, ha, hb, hl, hv => by
    have h1 := inB_cons.1 ha
    have h2 := inB_cons.1 hb
    have hv' : x + B * valB B a = y + B * valB B b := hv
    have e1 : (x + B * valB B a) % B = x := by rw [Int.add_mul_emod_self_left]; exact Int.emod_eq_of_lt h1.1.1 h1.1.2
    have e2 : (y + B * valB B b) % B = y := by rw [Int.add_mul_emod_self_left]; exact Int.emod_eq_of_lt h2.1.1 h2.1.2
    have e3 : x = y := by rw [← e1, hv', e2]
    subst e3
    have e4 : B * valB B a = B * valB B b := by omega
    have e5 : valB B a = valB B b := Int.eq_of_mul_eq_mul_left (by omega) e4
    rw [valB_inj hB h1.2 h2.2 (by simpa using hl) e5]
  | [], _ :: _, _, _, hl, _ => by simp at hl
  | _ :: _, [], _, _, hl, _ => by simp at hl
theorem pow_posB {B : Int} (hB : 0 < B) (n : Nat) : 0 < B ^ n := Int.pow_pos hB
/-- A digit is set. -/
theorem valB_set (B : Int) : ∀ (l : List Int) (j : Nat) (x : Int), j < l.length → valB B (l.set j x) = valB B l + B ^ j * (x - l.getD j 0)
  | [], j, x, h => by simp at h
  | y :: l, 0, x, _ => by
    show x + B * valB B l = y + B * valB B l + B ^ 0 * (x - y)
    rw [Int.pow_zero, Int.one_mul]
    omega
  | y :: l, j + 1, x, h => by
    show y + B * valB B (l.set j x) = y + B * valB B l + B ^ (j + 1) * (x - l.getD j 0)
    rw [valB_set B l j x (by simpa using h), Int.mul_add, Int.pow_succ, Int.mul_comm (B ^ j) B, Int.mul_assoc]
    omega
theorem valB_take_succ (B : Int) (l : List Int) (i : Nat) (h : i < l.length) : valB B (l.take (i + 1)) = valB B (l.take i) + B ^ i * l.getD i 0 := by
  rw [List.take_succ_eq_append_getElem h, valB_append, List.length_take, Nat.min_eq_left (by omega)]
  simp [valB, List.getD_eq_getElem?_getD, List.getElem?_eq_getElem h]
/-- Two numbers of the form a + M b, a below M, are equal in both. -/
theorem div_unique {M a b a' b' : Int} (ha : 0 ≤ a) (ha' : a < M) (hb : 0 ≤ a') (hb' : a' < M) (h : a + M * b = a' + M * b') : a = a' ∧ b = b' := by
  have e1 : (a + M * b) % M = a := by rw [Int.add_mul_emod_self_left]; exact Int.emod_eq_of_lt ha ha'
  have e2 : (a' + M * b') % M = a' := by rw [Int.add_mul_emod_self_left]; exact Int.emod_eq_of_lt hb hb'
  have e3 : a = a' := by rw [← e1, h, e2]
  refine ⟨e3, ?_⟩
  subst e3
  exact Int.eq_of_mul_eq_mul_left (by omega) (by omega : M * b = M * b')
/-- The sum of n terms from i on, each times a power. -/
def sumB (B : Int) (t : Nat → Int) : Nat → Nat → Int
  | _, 0 => 0
  | i, n + 1 => t i + B * sumB B t (i + 1) n
theorem sumB_val (B : Int) (l : List Int) : ∀ n i, i + n = l.length → sumB B (fun j => l.getD j 0) i n = valB B (l.drop i)
  | 0, i, h => by rw [List.drop_of_length_le (by omega)]; rfl
  | n + 1, i, h => by
    have hi : i < l.length := by omega
    rw [List.drop_eq_getElem_cons hi]
    show l.getD i 0 + B * sumB B _ (i + 1) n = l[i] + B * valB B (l.drop (i + 1))
    rw [sumB_val B l n (i + 1) (by omega)]
    congr 1
    simp [List.getD_eq_getElem?_getD, List.getElem?_eq_getElem hi]
theorem sumB_add (B : Int) (t u : Nat → Int) : ∀ n i, sumB B (fun j => t j + u j) i n = sumB B t i n + sumB B u i n
  | 0, _ => rfl
  | n + 1, i => by
    show (t i + u i) + B * sumB B _ (i + 1) n = (t i + B * sumB B t (i + 1) n) + (u i + B * sumB B u (i + 1) n)
    rw [sumB_add B t u n (i + 1), Int.mul_add]
    omega
theorem sumB_smul (B : Int) (t : Nat → Int) (w : Int) : ∀ n i, sumB B (fun j => t j * w) i n = sumB B t i n * w
  | 0, _ => by simp [sumB]
  | n + 1, i => by
    show t i * w + B * sumB B _ (i + 1) n = (t i + B * sumB B t (i + 1) n) * w
    rw [sumB_smul B t w n (i + 1), Int.add_mul, Int.mul_assoc]
theorem sumB_all (B : Int) (l : List Int) : sumB B (fun j => l.getD j 0) 0 l.length = valB B l := by
  rw [sumB_val B l l.length 0 (by omega), List.drop_zero]
/-- What a step for each word makes of what is carried: σ is 1, or -1 where it is borrowed. -/
theorem carryL_val (B : Int) (f : Nat → Int → Int × Int) (t : Nat → Int) (σ : Int) (I : Int → Prop) :
    ∀ n i c, I c → (∀ j, i ≤ j → j < i + n → ∀ c, I c → I (f j c).2 ∧ (0 ≤ (f j c).1 ∧ (f j c).1 < B) ∧ (f j c).1 + B * (σ * (f j c).2) = t j + σ * c) →
      I (carryL f n i c).2 ∧ inB B (carryL f n i c).1 ∧ valB B (carryL f n i c).1 + B ^ n * (σ * (carryL f n i c).2) = sumB B t i n + σ * c
  | 0, i, c, hc, _ => ⟨hc, inB_nil, by simp [carryL, valB, sumB]⟩
  | n + 1, i, c, hc, h => by
    obtain ⟨h1, h2, h3⟩ := h i (Nat.le_refl _) (by omega) c hc
    obtain ⟨k1, k2, k3⟩ := carryL_val B f t σ I n (i + 1) (f i c).2 h1 (fun j a b => h j (by omega) (by omega))
    refine ⟨k1, inB_cons.2 ⟨h2, k2⟩, ?_⟩
    show (f i c).1 + B * valB B (carryL f n (i + 1) (f i c).2).1 + B ^ (n + 1) * (σ * (carryL f n (i + 1) (f i c).2).2) = t i + B * sumB B t (i + 1) n + σ * c
    have e : B * (valB B (carryL f n (i + 1) (f i c).2).1 + B ^ n * (σ * (carryL f n (i + 1) (f i c).2).2)) = B * (sumB B t (i + 1) n + σ * (f i c).2) := by rw [k3]
    rw [Int.mul_add, Int.mul_add, ← Int.mul_assoc B (B ^ n), ← Int.pow_succ'] at e
    omega
end Go.Proofs.YtldefhhfcbmbpaaDoor.Ex
/- The values of what the functions on rows of words hand back: no program here. -/
namespace Go.Proofs.YtldefhhfcbmbpaaDoor.Ex
set_option linter.unusedVariables false

theorem inB_of_inW {l : List Int} (h : inW l) : inB W64 l := h
theorem W64_mul (a b : Int) (ha : isW a) (hb : isW b) : 0 ≤ a * b ∧ a * b ≤ W64 * W64 - 2 * W64 + 1 := by
  have h1 : a * b ≤ (W64 - 1) * (W64 - 1) := Int.mul_le_mul (by have := ha.2; omega) (by have := hb.2; omega) hb.1 (by decide)
  refine ⟨Int.mul_nonneg ha.1 hb.1, ?_⟩
  have h2 : (W64 - 1) * (W64 - 1) = W64 * W64 - 2 * W64 + 1 := by decide
  omega
theorem WW : W64 * W64 = 340282366920938463463374607431768211456 := by decide
theorem addS_ok {x y c : Int} (hx : isW x) (hy : isW y) (hc : 0 ≤ c ∧ c ≤ 1) : (0 ≤ (addS x y c).2 ∧ (addS x y c).2 ≤ 1) ∧ (0 ≤ (addS x y c).1 ∧ (addS x y c).1 < W64) ∧ (addS x y c).1 + W64 * (1 * (addS x y c).2) = (x + y) + 1 * c := by
  have h1 := hx.1
  have h2 := hx.2
  have h3 := hy.1
  have h4 := hy.2
  unfold addS
  simp only [W64_eq] at *
  omega
theorem subS_ok {x y c : Int} (hx : isW x) (hy : isW y) (hc : 0 ≤ c ∧ c ≤ 1) : (0 ≤ (subS x y c).2 ∧ (subS x y c).2 ≤ 1) ∧ (0 ≤ (subS x y c).1 ∧ (subS x y c).1 < W64) ∧ (subS x y c).1 + W64 * (-1 * (subS x y c).2) = (x + y * (-1)) + -1 * c := by
  have h1 := hx.1
  have h2 := hx.2
  have h3 := hy.1
  have h4 := hy.2
  unfold subS
  simp only [W64_eq] at *
  split <;> omega
theorem moreS_ok {a b c d : Int} (ha : isW a) (hb : isW b) (hc : isW c) (hd : isW d) : isW (moreS a b c d).2 ∧ (0 ≤ (moreS a b c d).1 ∧ (moreS a b c d).1 < W64) ∧ (moreS a b c d).1 + W64 * (moreS a b c d).2 = a * b + c + d := by
  obtain ⟨h1, h2⟩ := W64_mul a b ha hb
  rw [WW] at h2
  have h3 := hc.1
  have h4 := hc.2
  have h5 := hd.1
  have h6 := hd.2
  unfold moreS isW
  generalize a * b = p at *
  simp only [W64_eq] at *
  omega
theorem lessS_ok {z a b c : Int} (hz : isW z) (ha : isW a) (hb : isW b) (hc : isW c) : isW (lessS z a b c).2 ∧ (0 ≤ (lessS z a b c).1 ∧ (lessS z a b c).1 < W64) ∧ (lessS z a b c).1 + W64 * (-1 * (lessS z a b c).2) = z + (a * b) * (-1) + -1 * c := by
  obtain ⟨h1, h2⟩ := W64_mul a b ha hb
  rw [WW] at h2
  have h3 := hc.1
  have h4 := hc.2
  have h5 := hz.1
  have h6 := hz.2
  unfold lessS isW
  generalize a * b = p at *
  by_cases h : z < (p + c) % W64
  · rw [if_pos h]
    simp only [W64_eq] at *
    omega
  · rw [if_neg h]
    simp only [W64_eq] at *
    omega
theorem add_val (x y : List Int) (c : Int) (hx : inW x) (hy : inW y) (hl : y.length = x.length) (hc : 0 ≤ c ∧ c ≤ 1) :
    let r := carryL (fun i c => addS (x.getD i 0) (y.getD i 0) c) x.length 0 c
    (0 ≤ r.2 ∧ r.2 ≤ 1) ∧ inB W64 r.1 ∧ valB W64 r.1 + W64 ^ x.length * r.2 = valB W64 x + valB W64 y + c := by
  have h := carryL_val W64 (fun i c => addS (x.getD i 0) (y.getD i 0) c) (fun i => x.getD i 0 + y.getD i 0) 1 (fun c => 0 ≤ c ∧ c ≤ 1) x.length 0 c hc
    (fun j _ _ c hc => addS_ok (isW_get hx j) (isW_get hy j) hc)
  rw [sumB_add, sumB_all, ← hl, sumB_all, Int.one_mul, Int.one_mul] at h
  rw [← hl]
  exact h
theorem sub_val (x y : List Int) (c : Int) (hx : inW x) (hy : inW y) (hl : y.length = x.length) (hc : 0 ≤ c ∧ c ≤ 1) :
    let r := carryL (fun i c => subS (x.getD i 0) (y.getD i 0) c) x.length 0 c
    (0 ≤ r.2 ∧ r.2 ≤ 1) ∧ inB W64 r.1 ∧ valB W64 r.1 - W64 ^ x.length * r.2 = valB W64 x - valB W64 y - c := by
  have h := carryL_val W64 (fun i c => subS (x.getD i 0) (y.getD i 0) c) (fun i => x.getD i 0 + y.getD i 0 * (-1)) (-1) (fun c => 0 ≤ c ∧ c ≤ 1) x.length 0 c hc
    (fun j _ _ c hc => subS_ok (isW_get hx j) (isW_get hy j) hc)
  rw [sumB_add, sumB_smul, sumB_all, ← hl, sumB_all] at h
  rw [← hl]
  refine ⟨h.1, h.2.1, ?_⟩
  have h3 := h.2.2
  rw [Int.neg_mul, Int.one_mul, Int.mul_neg] at h3
  omega
theorem mul_val (x : List Int) (w c : Int) (hx : inW x) (hw : isW w) (hc : isW c) :
    let r := carryL (fun i c => moreS (x.getD i 0) w c 0) x.length 0 c
    isW r.2 ∧ inB W64 r.1 ∧ valB W64 r.1 + W64 ^ x.length * r.2 = valB W64 x * w + c := by
  have h := carryL_val W64 (fun i c => moreS (x.getD i 0) w c 0) (fun i => x.getD i 0 * w) 1 isW x.length 0 c hc
    (fun j _ _ c hc => by
      have h1 := moreS_ok (isW_get hx j) hw hc ⟨Int.le_refl 0, W64_pos⟩
      rw [Int.add_zero] at h1
      rw [Int.one_mul, Int.one_mul]
      exact h1)
  rw [sumB_smul, sumB_all, Int.one_mul, Int.one_mul] at h
  exact h
theorem addMul_val (z x : List Int) (w : Int) (hz : inW z) (hx : inW x) (hw : isW w) (hl : z.length = x.length) :
    let r := carryL (fun i c => moreS (x.getD i 0) w (z.getD i 0) c) x.length 0 0
    isW r.2 ∧ inB W64 r.1 ∧ valB W64 r.1 + W64 ^ x.length * r.2 = valB W64 x * w + valB W64 z := by
  have h := carryL_val W64 (fun i c => moreS (x.getD i 0) w (z.getD i 0) c) (fun i => x.getD i 0 * w + z.getD i 0) 1 isW x.length 0 0 ⟨Int.le_refl 0, W64_pos⟩
    (fun j _ _ c hc => by
      rw [Int.one_mul, Int.one_mul]
      exact moreS_ok (isW_get hx j) hw (isW_get hz j) hc)
  rw [sumB_add, sumB_smul, sumB_all, ← hl, sumB_all, Int.one_mul, Int.one_mul, Int.add_zero] at h
  rw [← hl]
  exact h
theorem subMul_val (z x : List Int) (w : Int) (hz : inW z) (hx : inW x) (hw : isW w) (hl : z.length = x.length) :
    let r := carryL (fun i c => lessS (z.getD i 0) (x.getD i 0) w c) x.length 0 0
    isW r.2 ∧ inB W64 r.1 ∧ valB W64 r.1 - W64 ^ x.length * r.2 = valB W64 z - valB W64 x * w := by
  have h := carryL_val W64 (fun i c => lessS (z.getD i 0) (x.getD i 0) w c) (fun i => z.getD i 0 + (x.getD i 0 * w) * (-1)) (-1) isW x.length 0 0 ⟨Int.le_refl 0, W64_pos⟩
    (fun j _ _ c hc => lessS_ok (isW_get hz j) (isW_get hx j) hw hc)
  rw [sumB_add, sumB_smul, sumB_smul, sumB_all, ← hl, sumB_all] at h
  rw [← hl]
  refine ⟨h.1, h.2.1, ?_⟩
  have h3 := h.2.2
  rw [Int.neg_mul, Int.one_mul, Int.mul_neg] at h3
  omega
end Go.Proofs.YtldefhhfcbmbpaaDoor.Ex
