/- For every input that fits memory, with the table of words laid as its text says, the law WordsSums returns true and each argument reads as before: the tied card. (Part 3 of 4.) -/
import Derived.Test.YtldefhhfcbmbpaaDoorCSums1
-- PRINTED by print.py (a twelfth state) out of the translation. Not trusted: Lean checks it.
namespace Go.Proofs.YtldefhhfcbmbpaaDoor.T
open Go.RowKit Go.Proofs.YtldefhhfcbmbpaaDoorW.PrintWords Go.Proofs.YtldefhhfcbmbpaaDoorW.PrintLast Go.Proofs.YtldefhhfcbmbpaaDoorW.PrintMore
attribute [local go_sem] max2_int min2_int max_two min_two max_three min_three max_four min_four   -- for this text's walks alone
open YtldefhhfcbmbpaaDoor.Ex
set_option linter.unusedVariables false
set_option linter.unusedSimpArgs false

/-! ### reckonerlaw01_equal: function 18 -/
def reckonerlaw01_equal.f (l0 : List Int) (l1 : List Int) : Option (List Int × List Int) := if (l1.length : Int) < (l0.length : Int) then (if 40 < (l1.length : Int) then ((reckonerlaw01_few.f l0 40).bind fun t201 => ((reckonerlaw01_few.f l1 40).bind fun t204 => (some (t201, t204)))) else ((reckonerlaw01_few.f l0 (l1.length : Int)).bind fun t207 => ((reckonerlaw01_few.f l1 (l1.length : Int)).bind fun t210 => (some (t207, t210))))) else (if 40 < (l0.length : Int) then ((reckonerlaw01_few.f l0 40).bind fun t213 => ((reckonerlaw01_few.f l1 40).bind fun t216 => (some (t213, t216)))) else ((reckonerlaw01_few.f l0 (l0.length : Int)).bind fun t219 => ((reckonerlaw01_few.f l1 (l0.length : Int)).bind fun t222 => (some (t219, t222)))))
set_option maxHeartbeats 8000000 in
set_option maxRecDepth 100000 in
theorem reckonerlaw01_equal.calls (A0 : Option Addr) (c0 : Nat) (l0 : List Int) (A1 : Option Addr) (c1 : Nat) (l1 : List Int) (r1 : List Int) (r2 : List Int) (w : World) (hr0 : Kd.C (Kd.int .u64) w A0 l0.length l0) (hc0 : l0.length ≤ c0) (hr1 : Kd.C (Kd.int .u64) w A1 l1.length l1) (hc1 : l1.length ≤ c1) (h : reckonerlaw01_equal.f l0 l1 = some (r1, r2)) :
    Calls Tryd.prog 18 #[.slice A0 l0.length c0, .slice A1 l1.length c1] w fun e w' => ∃ v0_ v1_ : Value, e = .returned (.tuple #[v0_, v1_]) ∧ Kd.R (Kd.int .u64) 23 w' w.heap.size (fun k_ => some k_ ≠ (v1_ : Value).ownBlock) v0_ r1 ∧ Kd.R (Kd.int .u64) 23 w' w.heap.size (fun k_ => some k_ ≠ (v0_ : Value).ownBlock) v1_ r2 ∧ Below w.heap.size w w' := by
  have HR0 := Aside0.mk hr0
  have HC0 := Aside0.mk hc0
  clear hr0 hc0
  have HR1 := Aside0.mk hr1
  have HC1 := Aside0.mk hc1
  clear hr1 hc1
  have HB := Aside0.mk (Below.refl w.heap.size w)
  have H : (if (l1.length : Int) < (l0.length : Int) then (if 40 < (l1.length : Int) then ((reckonerlaw01_few.f l0 40).bind fun t201 => ((reckonerlaw01_few.f l1 40).bind fun t204 => (some (t201, t204)))) else ((reckonerlaw01_few.f l0 (l1.length : Int)).bind fun t207 => ((reckonerlaw01_few.f l1 (l1.length : Int)).bind fun t210 => (some (t207, t210))))) else (if 40 < (l0.length : Int) then ((reckonerlaw01_few.f l0 40).bind fun t213 => ((reckonerlaw01_few.f l1 40).bind fun t216 => (some (t213, t216)))) else ((reckonerlaw01_few.f l0 (l0.length : Int)).bind fun t219 => ((reckonerlaw01_few.f l1 (l0.length : Int)).bind fun t222 => (some (t219, t222)))))) = some (r1, r2) := h
  clear h
  by_cases c3 : (l1.length : Int) < (l0.length : Int)
  · rw [if_pos c3] at H
    have c3i := eq_true c3
    have c3b0 : decide ((l1.length : Int) < (l0.length : Int)) = true := decide_eq_true c3
    have c3b1 : decide (l1.length < l0.length) = true := decide_eq_true (Int.ofNat_lt.mp c3)
    clear c3
    by_cases c4 : 40 < (l1.length : Int)
    · rw [if_pos c4] at H
      have c4i := eq_true c4
      have c4b0 : decide (40 < (l1.length : Int)) = true := decide_eq_true c4
      have c4b1 : decide (40 < l1.length) = true := decide_eq_true (by omega)
      clear c4
      replace H := Option.bind_eq_some_iff.mp H
      obtain ⟨t201, A50, H⟩ := H
      replace H : ((reckonerlaw01_few.f l1 40).bind fun t204 => (some (t201, t204))) = some (r1, r2) := H
      have A5 := Aside0.mk A50
      clear A50
      replace H := Option.bind_eq_some_iff.mp H
      obtain ⟨t204, A60, H⟩ := H
      replace H : (some (t201, t204)) = some (r1, r2) := H
      have A6 := Aside0.mk A60
      clear A60
      simp only [Option.some.injEq, Prod.mk.injEq] at H
      obtain ⟨rfl, rfl⟩ := H
      go_enter Tryd.func18, Tryd.ntmps18
      go_wp2_with (first | ((with_reducible refine gate_callee (f := 12) rfl ?_); refine goesL_ (some 14) rfl rfl Tryd.func12 (by kernel_rfl) rfl #[.slice A0 l0.length c0, .int .i64 40] rfl (by (try simp only [List.map_toArray, List.map_cons, List.map_nil]); first | done | rfl | (simp only [List.length_drop, List.length_take]; rfl)) ?_; (with_reducible refine (reckonerlaw01_few.calls _ _ l0 40 t201 _ ?side1 ?side2 A5.out).mono ?_); (case side1 => repeat (first | exact HR0.out | (with_reducible refine Kd.C_alloc ?_ _) | (with_reducible refine Kd.C_drewN ?_ _) | (with_reducible refine Kd.C_drew ?_))); (case side2 => exact HC0.out); rintro e w7 ⟨v202, rfl, ho0, hb⟩; refine ⟨_, rfl, ?_⟩; have n0_ := Aside0.mk (Kd.R_lower ho0 (below_size (by repeat (first | (with_reducible first | exact HB.out | apply below_alloc | apply pw_below_drewN | apply below_drew1) | exact HB.out)))); have n1_ := Aside0.mk (below_step (by repeat (first | (with_reducible first | exact HB.out | apply below_alloc | apply pw_below_drewN | apply below_drew1) | exact HB.out)) hb); clear HB; have HO203 := n0_; have HB := n1_; clear n0_ n1_; (try clear hb); (try clear hb2); (try clear hk); (try clear hi); (try clear ho0)) | ((with_reducible refine gate_callee (f := 12) rfl ?_); refine goesL_ (some 17) rfl rfl Tryd.func12 (by kernel_rfl) rfl #[.slice A1 l1.length c1, .int .i64 40] rfl (by (try simp only [List.map_toArray, List.map_cons, List.map_nil]); first | done | rfl | (simp only [List.length_drop, List.length_take]; rfl)) ?_; (with_reducible refine (reckonerlaw01_few.calls _ _ l1 40 t204 _ ?side1 ?side2 A6.out).mono ?_); (case side1 => repeat (first | exact (Kd.C_below HR1.out HB.out) | (with_reducible refine Kd.C_alloc ?_ _) | (with_reducible refine Kd.C_drewN ?_ _) | (with_reducible refine Kd.C_drew ?_))); (case side2 => exact HC1.out); rintro e w8 ⟨v205, rfl, ho0, hb⟩; refine ⟨_, rfl, ?_⟩; have n0_ := Aside0.mk (Kd.R_elder' (by (with_reducible repeat (first | apply Kd.R_alloc | apply Kd.R_drewN | apply Kd.R_drew)); exact HO203.out) (Kd.R_base ho0) hb); have n1_ := Aside0.mk (Kd.R_lower (Kd.R_new' ho0 (Kd.R_lt (by (with_reducible repeat (first | apply Kd.R_alloc | apply Kd.R_drewN | apply Kd.R_drew)); exact HO203.out))) (below_size (by repeat (first | (with_reducible first | exact HB.out | apply below_alloc | apply pw_below_drewN | apply below_drew1) | exact HB.out)))); have n2_ := Aside0.mk (below_step (by repeat (first | (with_reducible first | exact HB.out | apply below_alloc | apply pw_below_drewN | apply below_drew1) | exact HB.out)) hb); clear HO203; clear HB; have HO203 := n0_; have HO206 := n1_; have HB := n2_; clear n0_ n1_ n2_; (try clear hb); (try clear hb2); (try clear hk); (try clear hi); (try clear ho0)))
      go_ret2
      exact ⟨_, _, by first | rfl | (simp [errW_none, errW_some] <;> rfl) | (simp [*, errW_none, errW_some] <;> rfl), by (with_reducible repeat (first | apply Kd.R_alloc | apply Kd.R_drewN | apply Kd.R_drew)); exact Kd.R_mono HO203.out (fun _ hk => hk.2), by (with_reducible repeat (first | apply Kd.R_alloc | apply Kd.R_drewN | apply Kd.R_drew)); exact Kd.R_mono HO206.out (fun _ hk => hk.2), by repeat (first | (with_reducible first | exact HB.out | apply below_alloc | apply pw_below_drewN | apply below_drew1) | exact HB.out)⟩
    · rw [if_neg c4] at H
      have c4i := eq_false c4
      have c4b0 : decide (40 < (l1.length : Int)) = false := decide_eq_false c4
      have c4b1 : decide (40 < l1.length) = false := decide_eq_false (by omega)
      clear c4
      replace H := Option.bind_eq_some_iff.mp H
      obtain ⟨t207, A90, H⟩ := H
      replace H : ((reckonerlaw01_few.f l1 (l1.length : Int)).bind fun t210 => (some (t207, t210))) = some (r1, r2) := H
      have A9 := Aside0.mk A90
      clear A90
      replace H := Option.bind_eq_some_iff.mp H
      obtain ⟨t210, A100, H⟩ := H
      replace H : (some (t207, t210)) = some (r1, r2) := H
      have A10 := Aside0.mk A100
      clear A100
      simp only [Option.some.injEq, Prod.mk.injEq] at H
      obtain ⟨rfl, rfl⟩ := H
      go_enter Tryd.func18, Tryd.ntmps18
      go_wp2_with (first | ((with_reducible refine gate_callee (f := 12) rfl ?_); refine goesL_ (some 14) rfl rfl Tryd.func12 (by kernel_rfl) rfl #[.slice A0 l0.length c0, .int .i64 (l1.length : Int)] rfl (by (try simp only [List.map_toArray, List.map_cons, List.map_nil]); first | done | rfl | (simp only [List.length_drop, List.length_take]; rfl)) ?_; (with_reducible refine (reckonerlaw01_few.calls _ _ l0 (l1.length : Int) t207 _ ?side1 ?side2 A9.out).mono ?_); (case side1 => repeat (first | exact HR0.out | (with_reducible refine Kd.C_alloc ?_ _) | (with_reducible refine Kd.C_drewN ?_ _) | (with_reducible refine Kd.C_drew ?_))); (case side2 => exact HC0.out); rintro e w11 ⟨v208, rfl, ho0, hb⟩; refine ⟨_, rfl, ?_⟩; have n0_ := Aside0.mk (Kd.R_lower ho0 (below_size (by repeat (first | (with_reducible first | exact HB.out | apply below_alloc | apply pw_below_drewN | apply below_drew1) | exact HB.out)))); have n1_ := Aside0.mk (below_step (by repeat (first | (with_reducible first | exact HB.out | apply below_alloc | apply pw_below_drewN | apply below_drew1) | exact HB.out)) hb); clear HB; have HO209 := n0_; have HB := n1_; clear n0_ n1_; (try clear hb); (try clear hb2); (try clear hk); (try clear hi); (try clear ho0)) | ((with_reducible refine gate_callee (f := 12) rfl ?_); refine goesL_ (some 17) rfl rfl Tryd.func12 (by kernel_rfl) rfl #[.slice A1 l1.length c1, .int .i64 (l1.length : Int)] rfl (by (try simp only [List.map_toArray, List.map_cons, List.map_nil]); first | done | rfl | (simp only [List.length_drop, List.length_take]; rfl)) ?_; (with_reducible refine (reckonerlaw01_few.calls _ _ l1 (l1.length : Int) t210 _ ?side1 ?side2 A10.out).mono ?_); (case side1 => repeat (first | exact (Kd.C_below HR1.out HB.out) | (with_reducible refine Kd.C_alloc ?_ _) | (with_reducible refine Kd.C_drewN ?_ _) | (with_reducible refine Kd.C_drew ?_))); (case side2 => exact HC1.out); rintro e w12 ⟨v211, rfl, ho0, hb⟩; refine ⟨_, rfl, ?_⟩; have n0_ := Aside0.mk (Kd.R_elder' (by (with_reducible repeat (first | apply Kd.R_alloc | apply Kd.R_drewN | apply Kd.R_drew)); exact HO209.out) (Kd.R_base ho0) hb); have n1_ := Aside0.mk (Kd.R_lower (Kd.R_new' ho0 (Kd.R_lt (by (with_reducible repeat (first | apply Kd.R_alloc | apply Kd.R_drewN | apply Kd.R_drew)); exact HO209.out))) (below_size (by repeat (first | (with_reducible first | exact HB.out | apply below_alloc | apply pw_below_drewN | apply below_drew1) | exact HB.out)))); have n2_ := Aside0.mk (below_step (by repeat (first | (with_reducible first | exact HB.out | apply below_alloc | apply pw_below_drewN | apply below_drew1) | exact HB.out)) hb); clear HO209; clear HB; have HO209 := n0_; have HO212 := n1_; have HB := n2_; clear n0_ n1_ n2_; (try clear hb); (try clear hb2); (try clear hk); (try clear hi); (try clear ho0)))
      go_ret2
      exact ⟨_, _, by first | rfl | (simp [errW_none, errW_some] <;> rfl) | (simp [*, errW_none, errW_some] <;> rfl), by (with_reducible repeat (first | apply Kd.R_alloc | apply Kd.R_drewN | apply Kd.R_drew)); exact Kd.R_mono HO209.out (fun _ hk => hk.2), by (with_reducible repeat (first | apply Kd.R_alloc | apply Kd.R_drewN | apply Kd.R_drew)); exact Kd.R_mono HO212.out (fun _ hk => hk.2), by repeat (first | (with_reducible first | exact HB.out | apply below_alloc | apply pw_below_drewN | apply below_drew1) | exact HB.out)⟩
  · rw [if_neg c3] at H
    have c3i := eq_false c3
    have c3b0 : decide ((l1.length : Int) < (l0.length : Int)) = false := decide_eq_false c3
    have c3b1 : decide (l1.length < l0.length) = false := decide_eq_false (fun h => c3 (Int.ofNat_lt.mpr h))
    clear c3
    by_cases c13 : 40 < (l0.length : Int)
    · rw [if_pos c13] at H
      have c13i := eq_true c13
      have c13b0 : decide (40 < (l0.length : Int)) = true := decide_eq_true c13
      have c13b1 : decide (40 < l0.length) = true := decide_eq_true (by omega)
      clear c13
      replace H := Option.bind_eq_some_iff.mp H
      obtain ⟨t213, A140, H⟩ := H
      replace H : ((reckonerlaw01_few.f l1 40).bind fun t216 => (some (t213, t216))) = some (r1, r2) := H
      have A14 := Aside0.mk A140
      clear A140
      replace H := Option.bind_eq_some_iff.mp H
      obtain ⟨t216, A150, H⟩ := H
      replace H : (some (t213, t216)) = some (r1, r2) := H
      have A15 := Aside0.mk A150
      clear A150
      simp only [Option.some.injEq, Prod.mk.injEq] at H
      obtain ⟨rfl, rfl⟩ := H
      go_enter Tryd.func18, Tryd.ntmps18
      go_wp2_with (first | ((with_reducible refine gate_callee (f := 12) rfl ?_); refine goesL_ (some 14) rfl rfl Tryd.func12 (by kernel_rfl) rfl #[.slice A0 l0.length c0, .int .i64 40] rfl (by (try simp only [List.map_toArray, List.map_cons, List.map_nil]); first | done | rfl | (simp only [List.length_drop, List.length_take]; rfl)) ?_; (with_reducible refine (reckonerlaw01_few.calls _ _ l0 40 t213 _ ?side1 ?side2 A14.out).mono ?_); (case side1 => repeat (first | exact HR0.out | (with_reducible refine Kd.C_alloc ?_ _) | (with_reducible refine Kd.C_drewN ?_ _) | (with_reducible refine Kd.C_drew ?_))); (case side2 => exact HC0.out); rintro e w16 ⟨v214, rfl, ho0, hb⟩; refine ⟨_, rfl, ?_⟩; have n0_ := Aside0.mk (Kd.R_lower ho0 (below_size (by repeat (first | (with_reducible first | exact HB.out | apply below_alloc | apply pw_below_drewN | apply below_drew1) | exact HB.out)))); have n1_ := Aside0.mk (below_step (by repeat (first | (with_reducible first | exact HB.out | apply below_alloc | apply pw_below_drewN | apply below_drew1) | exact HB.out)) hb); clear HB; have HO215 := n0_; have HB := n1_; clear n0_ n1_; (try clear hb); (try clear hb2); (try clear hk); (try clear hi); (try clear ho0)) | ((with_reducible refine gate_callee (f := 12) rfl ?_); refine goesL_ (some 17) rfl rfl Tryd.func12 (by kernel_rfl) rfl #[.slice A1 l1.length c1, .int .i64 40] rfl (by (try simp only [List.map_toArray, List.map_cons, List.map_nil]); first | done | rfl | (simp only [List.length_drop, List.length_take]; rfl)) ?_; (with_reducible refine (reckonerlaw01_few.calls _ _ l1 40 t216 _ ?side1 ?side2 A15.out).mono ?_); (case side1 => repeat (first | exact (Kd.C_below HR1.out HB.out) | (with_reducible refine Kd.C_alloc ?_ _) | (with_reducible refine Kd.C_drewN ?_ _) | (with_reducible refine Kd.C_drew ?_))); (case side2 => exact HC1.out); rintro e w17 ⟨v217, rfl, ho0, hb⟩; refine ⟨_, rfl, ?_⟩; have n0_ := Aside0.mk (Kd.R_elder' (by (with_reducible repeat (first | apply Kd.R_alloc | apply Kd.R_drewN | apply Kd.R_drew)); exact HO215.out) (Kd.R_base ho0) hb); have n1_ := Aside0.mk (Kd.R_lower (Kd.R_new' ho0 (Kd.R_lt (by (with_reducible repeat (first | apply Kd.R_alloc | apply Kd.R_drewN | apply Kd.R_drew)); exact HO215.out))) (below_size (by repeat (first | (with_reducible first | exact HB.out | apply below_alloc | apply pw_below_drewN | apply below_drew1) | exact HB.out)))); have n2_ := Aside0.mk (below_step (by repeat (first | (with_reducible first | exact HB.out | apply below_alloc | apply pw_below_drewN | apply below_drew1) | exact HB.out)) hb); clear HO215; clear HB; have HO215 := n0_; have HO218 := n1_; have HB := n2_; clear n0_ n1_ n2_; (try clear hb); (try clear hb2); (try clear hk); (try clear hi); (try clear ho0)))
      go_ret2
      exact ⟨_, _, by first | rfl | (simp [errW_none, errW_some] <;> rfl) | (simp [*, errW_none, errW_some] <;> rfl), by (with_reducible repeat (first | apply Kd.R_alloc | apply Kd.R_drewN | apply Kd.R_drew)); exact Kd.R_mono HO215.out (fun _ hk => hk.2), by (with_reducible repeat (first | apply Kd.R_alloc | apply Kd.R_drewN | apply Kd.R_drew)); exact Kd.R_mono HO218.out (fun _ hk => hk.2), by repeat (first | (with_reducible first | exact HB.out | apply below_alloc | apply pw_below_drewN | apply below_drew1) | exact HB.out)⟩
    · rw [if_neg c13] at H
      have c13i := eq_false c13
      have c13b0 : decide (40 < (l0.length : Int)) = false := decide_eq_false c13
      have c13b1 : decide (40 < l0.length) = false := decide_eq_false (by omega)
      clear c13
      replace H := Option.bind_eq_some_iff.mp H
      obtain ⟨t219, A180, H⟩ := H
      replace H : ((reckonerlaw01_few.f l1 (l0.length : Int)).bind fun t222 => (some (t219, t222))) = some (r1, r2) := H
      have A18 := Aside0.mk A180
      clear A180
      replace H := Option.bind_eq_some_iff.mp H
      obtain ⟨t222, A190, H⟩ := H
      replace H : (some (t219, t222)) = some (r1, r2) := H
      have A19 := Aside0.mk A190
      clear A190
      simp only [Option.some.injEq, Prod.mk.injEq] at H
      obtain ⟨rfl, rfl⟩ := H
      go_enter Tryd.func18, Tryd.ntmps18
      go_wp2_with (first | ((with_reducible refine gate_callee (f := 12) rfl ?_); refine goesL_ (some 14) rfl rfl Tryd.func12 (by kernel_rfl) rfl #[.slice A0 l0.length c0, .int .i64 (l0.length : Int)] rfl (by (try simp only [List.map_toArray, List.map_cons, List.map_nil]); first | done | rfl | (simp only [List.length_drop, List.length_take]; rfl)) ?_; (with_reducible refine (reckonerlaw01_few.calls _ _ l0 (l0.length : Int) t219 _ ?side1 ?side2 A18.out).mono ?_); (case side1 => repeat (first | exact HR0.out | (with_reducible refine Kd.C_alloc ?_ _) | (with_reducible refine Kd.C_drewN ?_ _) | (with_reducible refine Kd.C_drew ?_))); (case side2 => exact HC0.out); rintro e w20 ⟨v220, rfl, ho0, hb⟩; refine ⟨_, rfl, ?_⟩; have n0_ := Aside0.mk (Kd.R_lower ho0 (below_size (by repeat (first | (with_reducible first | exact HB.out | apply below_alloc | apply pw_below_drewN | apply below_drew1) | exact HB.out)))); have n1_ := Aside0.mk (below_step (by repeat (first | (with_reducible first | exact HB.out | apply below_alloc | apply pw_below_drewN | apply below_drew1) | exact HB.out)) hb); clear HB; have HO221 := n0_; have HB := n1_; clear n0_ n1_; (try clear hb); (try clear hb2); (try clear hk); (try clear hi); (try clear ho0)) | ((with_reducible refine gate_callee (f := 12) rfl ?_); refine goesL_ (some 17) rfl rfl Tryd.func12 (by kernel_rfl) rfl #[.slice A1 l1.length c1, .int .i64 (l0.length : Int)] rfl (by (try simp only [List.map_toArray, List.map_cons, List.map_nil]); first | done | rfl | (simp only [List.length_drop, List.length_take]; rfl)) ?_; (with_reducible refine (reckonerlaw01_few.calls _ _ l1 (l0.length : Int) t222 _ ?side1 ?side2 A19.out).mono ?_); (case side1 => repeat (first | exact (Kd.C_below HR1.out HB.out) | (with_reducible refine Kd.C_alloc ?_ _) | (with_reducible refine Kd.C_drewN ?_ _) | (with_reducible refine Kd.C_drew ?_))); (case side2 => exact HC1.out); rintro e w21 ⟨v223, rfl, ho0, hb⟩; refine ⟨_, rfl, ?_⟩; have n0_ := Aside0.mk (Kd.R_elder' (by (with_reducible repeat (first | apply Kd.R_alloc | apply Kd.R_drewN | apply Kd.R_drew)); exact HO221.out) (Kd.R_base ho0) hb); have n1_ := Aside0.mk (Kd.R_lower (Kd.R_new' ho0 (Kd.R_lt (by (with_reducible repeat (first | apply Kd.R_alloc | apply Kd.R_drewN | apply Kd.R_drew)); exact HO221.out))) (below_size (by repeat (first | (with_reducible first | exact HB.out | apply below_alloc | apply pw_below_drewN | apply below_drew1) | exact HB.out)))); have n2_ := Aside0.mk (below_step (by repeat (first | (with_reducible first | exact HB.out | apply below_alloc | apply pw_below_drewN | apply below_drew1) | exact HB.out)) hb); clear HO221; clear HB; have HO221 := n0_; have HO224 := n1_; have HB := n2_; clear n0_ n1_ n2_; (try clear hb); (try clear hb2); (try clear hk); (try clear hi); (try clear ho0)))
      go_ret2
      exact ⟨_, _, by first | rfl | (simp [errW_none, errW_some] <;> rfl) | (simp [*, errW_none, errW_some] <;> rfl), by (with_reducible repeat (first | apply Kd.R_alloc | apply Kd.R_drewN | apply Kd.R_drew)); exact Kd.R_mono HO221.out (fun _ hk => hk.2), by (with_reducible repeat (first | apply Kd.R_alloc | apply Kd.R_drewN | apply Kd.R_drew)); exact Kd.R_mono HO224.out (fun _ hk => hk.2), by repeat (first | (with_reducible first | exact HB.out | apply below_alloc | apply pw_below_drewN | apply below_drew1) | exact HB.out)⟩

-- OURS: function 20 (words_DivWord)

-- OURS: function 25 (words_Right)

-- OURS: function 28 (words_MulWord)

-- OURS: function 34 (words_Inverse)

-- OURS: function 61 (bits_Div64)

/-! ### words_reciprocal: function 71 -/
def words_reciprocal.f (a0 : Int) : Option (Int) := (bits_Div64.f (Go.bits .xor .u64 18446744073709551615 a0) 18446744073709551615 a0).bind fun bt225 => (some bt225.1)
set_option maxHeartbeats 8000000 in
set_option maxRecDepth 100000 in
theorem words_reciprocal.calls (a0 : Int) (r : Int) (w : World) (h : words_reciprocal.f a0 = some r) :
    Calls Tryd.prog 71 #[.int .u64 a0] w fun e w' => e = .returned (.int .u64 r) ∧ Drawn0 w w' := by
  have H : ((bits_Div64.f (Go.bits .xor .u64 18446744073709551615 a0) 18446744073709551615 a0).bind fun bt225 => (some bt225.1)) = some r := h
  clear h
  replace H := Option.bind_eq_some_iff.mp H
  obtain ⟨⟨t225, t226⟩, A20, H⟩ := H
  replace H : (some t225) = some r := H
  have A2 := Aside0.mk A20
  clear A20
  obtain rfl := Option.some.inj H
  go_enter Tryd.func71, Tryd.ntmps71
  go_wp2_with (first | ((with_reducible refine gate_callee (f := 61) rfl ?_); refine goesL_ (some 9) rfl rfl Tryd.func61 (by kernel_rfl) rfl #[.int .u64 (Go.bits .xor .u64 18446744073709551615 a0), .int .u64 18446744073709551615, .int .u64 a0] rfl (by (try simp only [List.map_toArray, List.map_cons, List.map_nil]); first | done | rfl | (simp only [List.length_drop, List.length_take]; rfl)) ?_; (with_reducible refine (bits_Div64.calls (Go.bits .xor .u64 18446744073709551615 a0) 18446744073709551615 a0 t225 t226 _ A2.out).mono ?_); rintro e w' ⟨rfl, ⟨nd, rfl⟩⟩; refine ⟨_, rfl, ?_⟩))
  go_ret
  exact ⟨by first | rfl | (simp; done) | (simp [*]; done), by repeat (first | exact Drawn0.refl _ | apply Drawn0.step)⟩

/-! ### words_Reciprocal: function 36 -/
def words_Reciprocal.f (a0 : Int) : Option (Int × Int) := if a0 < 9223372036854775808 then (some (0, 1)) else ((words_reciprocal.f a0).bind fun t227 => (some (t227, 0)))
set_option maxHeartbeats 8000000 in
set_option maxRecDepth 100000 in
theorem words_Reciprocal.calls (a0 : Int) (r1 : Int) (r2 : Int) (w : World) (h : words_Reciprocal.f a0 = some (r1, r2)) :
    Calls Tryd.prog 36 #[.int .u64 a0] w fun e w' => e = .returned (.tuple #[.int .u64 r1, .int .i64 r2]) ∧ Drawn0 w w' := by
  have H : (if a0 < 9223372036854775808 then (some (0, 1)) else ((words_reciprocal.f a0).bind fun t227 => (some (t227, 0)))) = some (r1, r2) := h
  clear h
  by_cases c2 : a0 < 9223372036854775808
  · rw [if_pos c2] at H
    have c2b0 : decide (a0 < 9223372036854775808) = true := decide_eq_true c2
    clear c2
    simp only [Option.some.injEq, Prod.mk.injEq] at H
    obtain ⟨rfl, rfl⟩ := H
    go_enter Tryd.func36, Tryd.ntmps36
    go_wp2
    go_ret2
    exact ⟨by first | rfl | (simp; done) | (simp [*]; done), by repeat (first | exact Drawn0.refl _ | apply Drawn0.step)⟩
  · rw [if_neg c2] at H
    have c2b0 : decide (a0 < 9223372036854775808) = false := decide_eq_false c2
    clear c2
    replace H := Option.bind_eq_some_iff.mp H
    obtain ⟨t227, A30, H⟩ := H
    replace H : (some (t227, 0)) = some (r1, r2) := H
    have A3 := Aside0.mk A30
    clear A30
    simp only [Option.some.injEq, Prod.mk.injEq] at H
    obtain ⟨rfl, rfl⟩ := H
    go_enter Tryd.func36, Tryd.ntmps36
    go_wp2_with (first | ((with_reducible refine gate_callee (f := 71) rfl ?_); refine goesL_ (some 7) rfl rfl Tryd.func71 (by kernel_rfl) rfl #[.int .u64 a0] rfl (by (try simp only [List.map_toArray, List.map_cons, List.map_nil]); first | done | rfl | (simp only [List.length_drop, List.length_take]; rfl)) ?_; (with_reducible refine (words_reciprocal.calls a0 t227 _ A3.out).mono ?_); rintro e w' ⟨rfl, ⟨nd, rfl⟩⟩; refine ⟨_, rfl, ?_⟩))
    go_ret2
    exact ⟨by first | rfl | (simp; done) | (simp [*]; done), by repeat (first | exact Drawn0.refl _ | apply Drawn0.step)⟩

/-! ### reckonerlaw01_awake: function 19 -/
def reckonerlaw01_awake.f (k : Nat)  : Option (Bool) := (words_Add.f (([18446744073709551615] : List Int)) (([1] : List Int)) 0).bind fun bt234 => ((words_Sub.f (([0] : List Int)) (([1] : List Int)) 0).bind fun bt245 => ((words_MulWord.f (([18446744073709551615] : List Int)) 18446744073709551615 18446744073709551615).bind fun bt253 => ((words_DivWord.f (([0] : List Int)) 3 1).bind fun bt261 => ((words_Right.f (([3] : List Int)) 1).bind fun bt269 => ((words_Inverse.f 3).bind fun bt274 => ((words_Reciprocal.f 9223372036854775808).bind fun bt276 => (if bt234.2.2 = 0 then ((reckonerlaw01_same.f k bt234.1 (([0] : List Int))).bind fun t281 => (if t281 = true then (if bt234.2.1 = 1 then (if bt245.2.2 = 0 then ((reckonerlaw01_same.f k bt245.1 (([18446744073709551615] : List Int))).bind fun t285 => (if t285 = true then (if bt245.2.1 = 1 then (if bt253.2.2 = 0 then ((reckonerlaw01_same.f k bt253.1 (([0] : List Int))).bind fun t289 => (if t289 = true then (if bt253.2.1 = 18446744073709551615 then (if bt261.2.2 = 0 then ((reckonerlaw01_same.f k bt261.1 (([6148914691236517205] : List Int))).bind fun t293 => (if t293 = true then (if bt261.2.1 = 1 then (if bt269.2.2 = 0 then ((reckonerlaw01_same.f k bt269.1 (([1] : List Int))).bind fun t297 => (if t297 = true then (if bt269.2.1 = 9223372036854775808 then (if bt274.2 = 0 then (if bt274.1 = 12297829382473034411 then (if bt276.2 = 0 then (some (bt276.1 == 18446744073709551615)) else (none)) else (none)) else (none)) else (none)) else (none))) else (none)) else (none)) else (none))) else (none)) else (none)) else (none))) else (none)) else (none)) else (none))) else (none)) else (none)) else (none))) else (none))))))))
theorem reckonerlaw01_awake.mono : ∀ k, LeO (reckonerlaw01_awake.f k ) (reckonerlaw01_awake.f (k + 1) ) := by
  intro  k
  unfold reckonerlaw01_awake.f
  repeat' first
      | (with_reducible exact reckonerlaw01_same.mono _ _ _)
      | (with_reducible exact LeO.refl _)
      | (with_reducible exact LeO.none _)
      | (with_reducible refine LeO.ite ?_ ?_)
      | (with_reducible refine LeO.bind ?_ (fun _ => ?_))
      | exact reckonerlaw01_same.mono _ _ _
      | exact LeO.none _
      | refine LeO.ite ?_ ?_
      | refine LeO.bind ?_ (fun _ => ?_)
set_option maxHeartbeats 8000000 in
set_option maxRecDepth 100000 in
theorem reckonerlaw01_awake.calls (k : Nat)  (r : Bool) (w : World) (hg : Laid w) (h : reckonerlaw01_awake.f k  = some r) :
    Calls Tryd.prog 19 #[] w fun e w' => e = .returned (.bool r) ∧ Below w.heap.size w w' := by
  have HLd := Aside0.mk hg
  clear hg
  have HB := Aside0.mk (Below.refl w.heap.size w)
  have H : ((words_Add.f (([18446744073709551615] : List Int)) (([1] : List Int)) 0).bind fun bt234 => ((words_Sub.f (([0] : List Int)) (([1] : List Int)) 0).bind fun bt245 => ((words_MulWord.f (([18446744073709551615] : List Int)) 18446744073709551615 18446744073709551615).bind fun bt253 => ((words_DivWord.f (([0] : List Int)) 3 1).bind fun bt261 => ((words_Right.f (([3] : List Int)) 1).bind fun bt269 => ((words_Inverse.f 3).bind fun bt274 => ((words_Reciprocal.f 9223372036854775808).bind fun bt276 => (if bt234.2.2 = 0 then ((reckonerlaw01_same.f k bt234.1 (([0] : List Int))).bind fun t281 => (if t281 = true then (if bt234.2.1 = 1 then (if bt245.2.2 = 0 then ((reckonerlaw01_same.f k bt245.1 (([18446744073709551615] : List Int))).bind fun t285 => (if t285 = true then (if bt245.2.1 = 1 then (if bt253.2.2 = 0 then ((reckonerlaw01_same.f k bt253.1 (([0] : List Int))).bind fun t289 => (if t289 = true then (if bt253.2.1 = 18446744073709551615 then (if bt261.2.2 = 0 then ((reckonerlaw01_same.f k bt261.1 (([6148914691236517205] : List Int))).bind fun t293 => (if t293 = true then (if bt261.2.1 = 1 then (if bt269.2.2 = 0 then ((reckonerlaw01_same.f k bt269.1 (([1] : List Int))).bind fun t297 => (if t297 = true then (if bt269.2.1 = 9223372036854775808 then (if bt274.2 = 0 then (if bt274.1 = 12297829382473034411 then (if bt276.2 = 0 then (some (bt276.1 == 18446744073709551615)) else (none)) else (none)) else (none)) else (none)) else (none))) else (none)) else (none)) else (none))) else (none)) else (none)) else (none))) else (none)) else (none)) else (none))) else (none)) else (none)) else (none))) else (none))))))))) = some r := h
  clear h
  obtain ⟨y228, hy228⟩ : ∃ y_ : List Int, y_ = (([18446744073709551615] : List Int)) := ⟨_, rfl⟩
  replace H : ((words_Add.f y228 (([1] : List Int)) 0).bind fun bt234 => ((words_Sub.f (([0] : List Int)) (([1] : List Int)) 0).bind fun bt245 => ((words_MulWord.f (([18446744073709551615] : List Int)) 18446744073709551615 18446744073709551615).bind fun bt253 => ((words_DivWord.f (([0] : List Int)) 3 1).bind fun bt261 => ((words_Right.f (([3] : List Int)) 1).bind fun bt269 => ((words_Inverse.f 3).bind fun bt274 => ((words_Reciprocal.f 9223372036854775808).bind fun bt276 => (if bt234.2.2 = 0 then ((reckonerlaw01_same.f k bt234.1 (([0] : List Int))).bind fun t281 => (if t281 = true then (if bt234.2.1 = 1 then (if bt245.2.2 = 0 then ((reckonerlaw01_same.f k bt245.1 (([18446744073709551615] : List Int))).bind fun t285 => (if t285 = true then (if bt245.2.1 = 1 then (if bt253.2.2 = 0 then ((reckonerlaw01_same.f k bt253.1 (([0] : List Int))).bind fun t289 => (if t289 = true then (if bt253.2.1 = 18446744073709551615 then (if bt261.2.2 = 0 then ((reckonerlaw01_same.f k bt261.1 (([6148914691236517205] : List Int))).bind fun t293 => (if t293 = true then (if bt261.2.1 = 1 then (if bt269.2.2 = 0 then ((reckonerlaw01_same.f k bt269.1 (([1] : List Int))).bind fun t297 => (if t297 = true then (if bt269.2.1 = 9223372036854775808 then (if bt274.2 = 0 then (if bt274.1 = 12297829382473034411 then (if bt276.2 = 0 then (some (bt276.1 == 18446744073709551615)) else (none)) else (none)) else (none)) else (none)) else (none))) else (none)) else (none)) else (none))) else (none)) else (none)) else (none))) else (none)) else (none)) else (none))) else (none)) else (none)) else (none))) else (none))))))))) = some r := by first | (rw [hy228]; with_reducible exact H) | (have H2_ := (Option.bind_some _ _).symm.trans H; rw [hy228]; with_reducible exact H2_) | (have H2_ := (Option.bind_some _ _).symm.trans H; with_reducible exact H2_) | with_reducible exact H | (rw [hy228]; exact H) | exact H
  have Ny228 := Aside0.mk hy228
  clear hy228
  obtain ⟨y231, hy231⟩ : ∃ y_ : List Int, y_ = (([1] : List Int)) := ⟨_, rfl⟩
  replace H : ((words_Add.f y228 y231 0).bind fun bt234 => ((words_Sub.f (([0] : List Int)) (([1] : List Int)) 0).bind fun bt245 => ((words_MulWord.f (([18446744073709551615] : List Int)) 18446744073709551615 18446744073709551615).bind fun bt253 => ((words_DivWord.f (([0] : List Int)) 3 1).bind fun bt261 => ((words_Right.f (([3] : List Int)) 1).bind fun bt269 => ((words_Inverse.f 3).bind fun bt274 => ((words_Reciprocal.f 9223372036854775808).bind fun bt276 => (if bt234.2.2 = 0 then ((reckonerlaw01_same.f k bt234.1 (([0] : List Int))).bind fun t281 => (if t281 = true then (if bt234.2.1 = 1 then (if bt245.2.2 = 0 then ((reckonerlaw01_same.f k bt245.1 (([18446744073709551615] : List Int))).bind fun t285 => (if t285 = true then (if bt245.2.1 = 1 then (if bt253.2.2 = 0 then ((reckonerlaw01_same.f k bt253.1 (([0] : List Int))).bind fun t289 => (if t289 = true then (if bt253.2.1 = 18446744073709551615 then (if bt261.2.2 = 0 then ((reckonerlaw01_same.f k bt261.1 (([6148914691236517205] : List Int))).bind fun t293 => (if t293 = true then (if bt261.2.1 = 1 then (if bt269.2.2 = 0 then ((reckonerlaw01_same.f k bt269.1 (([1] : List Int))).bind fun t297 => (if t297 = true then (if bt269.2.1 = 9223372036854775808 then (if bt274.2 = 0 then (if bt274.1 = 12297829382473034411 then (if bt276.2 = 0 then (some (bt276.1 == 18446744073709551615)) else (none)) else (none)) else (none)) else (none)) else (none))) else (none)) else (none)) else (none))) else (none)) else (none)) else (none))) else (none)) else (none)) else (none))) else (none)) else (none)) else (none))) else (none))))))))) = some r := by first | (rw [hy231]; with_reducible exact H) | (have H2_ := (Option.bind_some _ _).symm.trans H; rw [hy231]; with_reducible exact H2_) | (have H2_ := (Option.bind_some _ _).symm.trans H; with_reducible exact H2_) | with_reducible exact H | (rw [hy231]; exact H) | exact H
  have Ny231 := Aside0.mk hy231
  clear hy231
  replace H := Option.bind_eq_some_iff.mp H
  obtain ⟨⟨t234, t235, t236⟩, A10, H⟩ := H
  replace H : ((words_Sub.f (([0] : List Int)) (([1] : List Int)) 0).bind fun bt245 => ((words_MulWord.f (([18446744073709551615] : List Int)) 18446744073709551615 18446744073709551615).bind fun bt253 => ((words_DivWord.f (([0] : List Int)) 3 1).bind fun bt261 => ((words_Right.f (([3] : List Int)) 1).bind fun bt269 => ((words_Inverse.f 3).bind fun bt274 => ((words_Reciprocal.f 9223372036854775808).bind fun bt276 => (if t236 = 0 then ((reckonerlaw01_same.f k t234 (([0] : List Int))).bind fun t281 => (if t281 = true then (if t235 = 1 then (if bt245.2.2 = 0 then ((reckonerlaw01_same.f k bt245.1 (([18446744073709551615] : List Int))).bind fun t285 => (if t285 = true then (if bt245.2.1 = 1 then (if bt253.2.2 = 0 then ((reckonerlaw01_same.f k bt253.1 (([0] : List Int))).bind fun t289 => (if t289 = true then (if bt253.2.1 = 18446744073709551615 then (if bt261.2.2 = 0 then ((reckonerlaw01_same.f k bt261.1 (([6148914691236517205] : List Int))).bind fun t293 => (if t293 = true then (if bt261.2.1 = 1 then (if bt269.2.2 = 0 then ((reckonerlaw01_same.f k bt269.1 (([1] : List Int))).bind fun t297 => (if t297 = true then (if bt269.2.1 = 9223372036854775808 then (if bt274.2 = 0 then (if bt274.1 = 12297829382473034411 then (if bt276.2 = 0 then (some (bt276.1 == 18446744073709551615)) else (none)) else (none)) else (none)) else (none)) else (none))) else (none)) else (none)) else (none))) else (none)) else (none)) else (none))) else (none)) else (none)) else (none))) else (none)) else (none)) else (none))) else (none)))))))) = some r := H
  have A1 := Aside0.mk A10
  clear A10
  obtain ⟨y239, hy239⟩ : ∃ y_ : List Int, y_ = (([0] : List Int)) := ⟨_, rfl⟩
  replace H : ((words_Sub.f y239 (([1] : List Int)) 0).bind fun bt245 => ((words_MulWord.f (([18446744073709551615] : List Int)) 18446744073709551615 18446744073709551615).bind fun bt253 => ((words_DivWord.f (([0] : List Int)) 3 1).bind fun bt261 => ((words_Right.f (([3] : List Int)) 1).bind fun bt269 => ((words_Inverse.f 3).bind fun bt274 => ((words_Reciprocal.f 9223372036854775808).bind fun bt276 => (if t236 = 0 then ((reckonerlaw01_same.f k t234 (([0] : List Int))).bind fun t281 => (if t281 = true then (if t235 = 1 then (if bt245.2.2 = 0 then ((reckonerlaw01_same.f k bt245.1 (([18446744073709551615] : List Int))).bind fun t285 => (if t285 = true then (if bt245.2.1 = 1 then (if bt253.2.2 = 0 then ((reckonerlaw01_same.f k bt253.1 (([0] : List Int))).bind fun t289 => (if t289 = true then (if bt253.2.1 = 18446744073709551615 then (if bt261.2.2 = 0 then ((reckonerlaw01_same.f k bt261.1 (([6148914691236517205] : List Int))).bind fun t293 => (if t293 = true then (if bt261.2.1 = 1 then (if bt269.2.2 = 0 then ((reckonerlaw01_same.f k bt269.1 (([1] : List Int))).bind fun t297 => (if t297 = true then (if bt269.2.1 = 9223372036854775808 then (if bt274.2 = 0 then (if bt274.1 = 12297829382473034411 then (if bt276.2 = 0 then (some (bt276.1 == 18446744073709551615)) else (none)) else (none)) else (none)) else (none)) else (none))) else (none)) else (none)) else (none))) else (none)) else (none)) else (none))) else (none)) else (none)) else (none))) else (none)) else (none)) else (none))) else (none)))))))) = some r := by first | (rw [hy239]; with_reducible exact H) | (have H2_ := (Option.bind_some _ _).symm.trans H; rw [hy239]; with_reducible exact H2_) | (have H2_ := (Option.bind_some _ _).symm.trans H; with_reducible exact H2_) | with_reducible exact H | (rw [hy239]; exact H) | exact H
  have Ny239 := Aside0.mk hy239
  clear hy239
  obtain ⟨y242, hy242⟩ : ∃ y_ : List Int, y_ = (([1] : List Int)) := ⟨_, rfl⟩
  replace H : ((words_Sub.f y239 y242 0).bind fun bt245 => ((words_MulWord.f (([18446744073709551615] : List Int)) 18446744073709551615 18446744073709551615).bind fun bt253 => ((words_DivWord.f (([0] : List Int)) 3 1).bind fun bt261 => ((words_Right.f (([3] : List Int)) 1).bind fun bt269 => ((words_Inverse.f 3).bind fun bt274 => ((words_Reciprocal.f 9223372036854775808).bind fun bt276 => (if t236 = 0 then ((reckonerlaw01_same.f k t234 (([0] : List Int))).bind fun t281 => (if t281 = true then (if t235 = 1 then (if bt245.2.2 = 0 then ((reckonerlaw01_same.f k bt245.1 (([18446744073709551615] : List Int))).bind fun t285 => (if t285 = true then (if bt245.2.1 = 1 then (if bt253.2.2 = 0 then ((reckonerlaw01_same.f k bt253.1 (([0] : List Int))).bind fun t289 => (if t289 = true then (if bt253.2.1 = 18446744073709551615 then (if bt261.2.2 = 0 then ((reckonerlaw01_same.f k bt261.1 (([6148914691236517205] : List Int))).bind fun t293 => (if t293 = true then (if bt261.2.1 = 1 then (if bt269.2.2 = 0 then ((reckonerlaw01_same.f k bt269.1 (([1] : List Int))).bind fun t297 => (if t297 = true then (if bt269.2.1 = 9223372036854775808 then (if bt274.2 = 0 then (if bt274.1 = 12297829382473034411 then (if bt276.2 = 0 then (some (bt276.1 == 18446744073709551615)) else (none)) else (none)) else (none)) else (none)) else (none))) else (none)) else (none)) else (none))) else (none)) else (none)) else (none))) else (none)) else (none)) else (none))) else (none)) else (none)) else (none))) else (none)))))))) = some r := by first | (rw [hy242]; with_reducible exact H) | (have H2_ := (Option.bind_some _ _).symm.trans H; rw [hy242]; with_reducible exact H2_) | (have H2_ := (Option.bind_some _ _).symm.trans H; with_reducible exact H2_) | with_reducible exact H | (rw [hy242]; exact H) | exact H
  have Ny242 := Aside0.mk hy242
  clear hy242
  replace H := Option.bind_eq_some_iff.mp H
  obtain ⟨⟨t245, t246, t247⟩, A20, H⟩ := H
  replace H : ((words_MulWord.f (([18446744073709551615] : List Int)) 18446744073709551615 18446744073709551615).bind fun bt253 => ((words_DivWord.f (([0] : List Int)) 3 1).bind fun bt261 => ((words_Right.f (([3] : List Int)) 1).bind fun bt269 => ((words_Inverse.f 3).bind fun bt274 => ((words_Reciprocal.f 9223372036854775808).bind fun bt276 => (if t236 = 0 then ((reckonerlaw01_same.f k t234 (([0] : List Int))).bind fun t281 => (if t281 = true then (if t235 = 1 then (if t247 = 0 then ((reckonerlaw01_same.f k t245 (([18446744073709551615] : List Int))).bind fun t285 => (if t285 = true then (if t246 = 1 then (if bt253.2.2 = 0 then ((reckonerlaw01_same.f k bt253.1 (([0] : List Int))).bind fun t289 => (if t289 = true then (if bt253.2.1 = 18446744073709551615 then (if bt261.2.2 = 0 then ((reckonerlaw01_same.f k bt261.1 (([6148914691236517205] : List Int))).bind fun t293 => (if t293 = true then (if bt261.2.1 = 1 then (if bt269.2.2 = 0 then ((reckonerlaw01_same.f k bt269.1 (([1] : List Int))).bind fun t297 => (if t297 = true then (if bt269.2.1 = 9223372036854775808 then (if bt274.2 = 0 then (if bt274.1 = 12297829382473034411 then (if bt276.2 = 0 then (some (bt276.1 == 18446744073709551615)) else (none)) else (none)) else (none)) else (none)) else (none))) else (none)) else (none)) else (none))) else (none)) else (none)) else (none))) else (none)) else (none)) else (none))) else (none)) else (none)) else (none))) else (none))))))) = some r := H
  have A2 := Aside0.mk A20
  clear A20
  obtain ⟨y250, hy250⟩ : ∃ y_ : List Int, y_ = (([18446744073709551615] : List Int)) := ⟨_, rfl⟩
  replace H : ((words_MulWord.f y250 18446744073709551615 18446744073709551615).bind fun bt253 => ((words_DivWord.f (([0] : List Int)) 3 1).bind fun bt261 => ((words_Right.f (([3] : List Int)) 1).bind fun bt269 => ((words_Inverse.f 3).bind fun bt274 => ((words_Reciprocal.f 9223372036854775808).bind fun bt276 => (if t236 = 0 then ((reckonerlaw01_same.f k t234 (([0] : List Int))).bind fun t281 => (if t281 = true then (if t235 = 1 then (if t247 = 0 then ((reckonerlaw01_same.f k t245 (([18446744073709551615] : List Int))).bind fun t285 => (if t285 = true then (if t246 = 1 then (if bt253.2.2 = 0 then ((reckonerlaw01_same.f k bt253.1 (([0] : List Int))).bind fun t289 => (if t289 = true then (if bt253.2.1 = 18446744073709551615 then (if bt261.2.2 = 0 then ((reckonerlaw01_same.f k bt261.1 (([6148914691236517205] : List Int))).bind fun t293 => (if t293 = true then (if bt261.2.1 = 1 then (if bt269.2.2 = 0 then ((reckonerlaw01_same.f k bt269.1 (([1] : List Int))).bind fun t297 => (if t297 = true then (if bt269.2.1 = 9223372036854775808 then (if bt274.2 = 0 then (if bt274.1 = 12297829382473034411 then (if bt276.2 = 0 then (some (bt276.1 == 18446744073709551615)) else (none)) else (none)) else (none)) else (none)) else (none))) else (none)) else (none)) else (none))) else (none)) else (none)) else (none))) else (none)) else (none)) else (none))) else (none)) else (none)) else (none))) else (none))))))) = some r := by first | (rw [hy250]; with_reducible exact H) | (have H2_ := (Option.bind_some _ _).symm.trans H; rw [hy250]; with_reducible exact H2_) | (have H2_ := (Option.bind_some _ _).symm.trans H; with_reducible exact H2_) | with_reducible exact H | (rw [hy250]; exact H) | exact H
  have Ny250 := Aside0.mk hy250
  clear hy250
  replace H := Option.bind_eq_some_iff.mp H
  obtain ⟨⟨t253, t254, t255⟩, A30, H⟩ := H
  replace H : ((words_DivWord.f (([0] : List Int)) 3 1).bind fun bt261 => ((words_Right.f (([3] : List Int)) 1).bind fun bt269 => ((words_Inverse.f 3).bind fun bt274 => ((words_Reciprocal.f 9223372036854775808).bind fun bt276 => (if t236 = 0 then ((reckonerlaw01_same.f k t234 (([0] : List Int))).bind fun t281 => (if t281 = true then (if t235 = 1 then (if t247 = 0 then ((reckonerlaw01_same.f k t245 (([18446744073709551615] : List Int))).bind fun t285 => (if t285 = true then (if t246 = 1 then (if t255 = 0 then ((reckonerlaw01_same.f k t253 (([0] : List Int))).bind fun t289 => (if t289 = true then (if t254 = 18446744073709551615 then (if bt261.2.2 = 0 then ((reckonerlaw01_same.f k bt261.1 (([6148914691236517205] : List Int))).bind fun t293 => (if t293 = true then (if bt261.2.1 = 1 then (if bt269.2.2 = 0 then ((reckonerlaw01_same.f k bt269.1 (([1] : List Int))).bind fun t297 => (if t297 = true then (if bt269.2.1 = 9223372036854775808 then (if bt274.2 = 0 then (if bt274.1 = 12297829382473034411 then (if bt276.2 = 0 then (some (bt276.1 == 18446744073709551615)) else (none)) else (none)) else (none)) else (none)) else (none))) else (none)) else (none)) else (none))) else (none)) else (none)) else (none))) else (none)) else (none)) else (none))) else (none)) else (none)) else (none))) else (none)))))) = some r := H
  have A3 := Aside0.mk A30
  clear A30
  obtain ⟨y258, hy258⟩ : ∃ y_ : List Int, y_ = (([0] : List Int)) := ⟨_, rfl⟩
  replace H : ((words_DivWord.f y258 3 1).bind fun bt261 => ((words_Right.f (([3] : List Int)) 1).bind fun bt269 => ((words_Inverse.f 3).bind fun bt274 => ((words_Reciprocal.f 9223372036854775808).bind fun bt276 => (if t236 = 0 then ((reckonerlaw01_same.f k t234 (([0] : List Int))).bind fun t281 => (if t281 = true then (if t235 = 1 then (if t247 = 0 then ((reckonerlaw01_same.f k t245 (([18446744073709551615] : List Int))).bind fun t285 => (if t285 = true then (if t246 = 1 then (if t255 = 0 then ((reckonerlaw01_same.f k t253 (([0] : List Int))).bind fun t289 => (if t289 = true then (if t254 = 18446744073709551615 then (if bt261.2.2 = 0 then ((reckonerlaw01_same.f k bt261.1 (([6148914691236517205] : List Int))).bind fun t293 => (if t293 = true then (if bt261.2.1 = 1 then (if bt269.2.2 = 0 then ((reckonerlaw01_same.f k bt269.1 (([1] : List Int))).bind fun t297 => (if t297 = true then (if bt269.2.1 = 9223372036854775808 then (if bt274.2 = 0 then (if bt274.1 = 12297829382473034411 then (if bt276.2 = 0 then (some (bt276.1 == 18446744073709551615)) else (none)) else (none)) else (none)) else (none)) else (none))) else (none)) else (none)) else (none))) else (none)) else (none)) else (none))) else (none)) else (none)) else (none))) else (none)) else (none)) else (none))) else (none)))))) = some r := by first | (rw [hy258]; with_reducible exact H) | (have H2_ := (Option.bind_some _ _).symm.trans H; rw [hy258]; with_reducible exact H2_) | (have H2_ := (Option.bind_some _ _).symm.trans H; with_reducible exact H2_) | with_reducible exact H | (rw [hy258]; exact H) | exact H
  have Ny258 := Aside0.mk hy258
  clear hy258
  replace H := Option.bind_eq_some_iff.mp H
  obtain ⟨⟨t261, t262, t263⟩, A40, H⟩ := H
  replace H : ((words_Right.f (([3] : List Int)) 1).bind fun bt269 => ((words_Inverse.f 3).bind fun bt274 => ((words_Reciprocal.f 9223372036854775808).bind fun bt276 => (if t236 = 0 then ((reckonerlaw01_same.f k t234 (([0] : List Int))).bind fun t281 => (if t281 = true then (if t235 = 1 then (if t247 = 0 then ((reckonerlaw01_same.f k t245 (([18446744073709551615] : List Int))).bind fun t285 => (if t285 = true then (if t246 = 1 then (if t255 = 0 then ((reckonerlaw01_same.f k t253 (([0] : List Int))).bind fun t289 => (if t289 = true then (if t254 = 18446744073709551615 then (if t263 = 0 then ((reckonerlaw01_same.f k t261 (([6148914691236517205] : List Int))).bind fun t293 => (if t293 = true then (if t262 = 1 then (if bt269.2.2 = 0 then ((reckonerlaw01_same.f k bt269.1 (([1] : List Int))).bind fun t297 => (if t297 = true then (if bt269.2.1 = 9223372036854775808 then (if bt274.2 = 0 then (if bt274.1 = 12297829382473034411 then (if bt276.2 = 0 then (some (bt276.1 == 18446744073709551615)) else (none)) else (none)) else (none)) else (none)) else (none))) else (none)) else (none)) else (none))) else (none)) else (none)) else (none))) else (none)) else (none)) else (none))) else (none)) else (none)) else (none))) else (none))))) = some r := H
  have A4 := Aside0.mk A40
  clear A40
  obtain ⟨y266, hy266⟩ : ∃ y_ : List Int, y_ = (([3] : List Int)) := ⟨_, rfl⟩
  replace H : ((words_Right.f y266 1).bind fun bt269 => ((words_Inverse.f 3).bind fun bt274 => ((words_Reciprocal.f 9223372036854775808).bind fun bt276 => (if t236 = 0 then ((reckonerlaw01_same.f k t234 (([0] : List Int))).bind fun t281 => (if t281 = true then (if t235 = 1 then (if t247 = 0 then ((reckonerlaw01_same.f k t245 (([18446744073709551615] : List Int))).bind fun t285 => (if t285 = true then (if t246 = 1 then (if t255 = 0 then ((reckonerlaw01_same.f k t253 (([0] : List Int))).bind fun t289 => (if t289 = true then (if t254 = 18446744073709551615 then (if t263 = 0 then ((reckonerlaw01_same.f k t261 (([6148914691236517205] : List Int))).bind fun t293 => (if t293 = true then (if t262 = 1 then (if bt269.2.2 = 0 then ((reckonerlaw01_same.f k bt269.1 (([1] : List Int))).bind fun t297 => (if t297 = true then (if bt269.2.1 = 9223372036854775808 then (if bt274.2 = 0 then (if bt274.1 = 12297829382473034411 then (if bt276.2 = 0 then (some (bt276.1 == 18446744073709551615)) else (none)) else (none)) else (none)) else (none)) else (none))) else (none)) else (none)) else (none))) else (none)) else (none)) else (none))) else (none)) else (none)) else (none))) else (none)) else (none)) else (none))) else (none))))) = some r := by first | (rw [hy266]; with_reducible exact H) | (have H2_ := (Option.bind_some _ _).symm.trans H; rw [hy266]; with_reducible exact H2_) | (have H2_ := (Option.bind_some _ _).symm.trans H; with_reducible exact H2_) | with_reducible exact H | (rw [hy266]; exact H) | exact H
  have Ny266 := Aside0.mk hy266
  clear hy266
  replace H := Option.bind_eq_some_iff.mp H
  obtain ⟨⟨t269, t270, t271⟩, A50, H⟩ := H
  replace H : ((words_Inverse.f 3).bind fun bt274 => ((words_Reciprocal.f 9223372036854775808).bind fun bt276 => (if t236 = 0 then ((reckonerlaw01_same.f k t234 (([0] : List Int))).bind fun t281 => (if t281 = true then (if t235 = 1 then (if t247 = 0 then ((reckonerlaw01_same.f k t245 (([18446744073709551615] : List Int))).bind fun t285 => (if t285 = true then (if t246 = 1 then (if t255 = 0 then ((reckonerlaw01_same.f k t253 (([0] : List Int))).bind fun t289 => (if t289 = true then (if t254 = 18446744073709551615 then (if t263 = 0 then ((reckonerlaw01_same.f k t261 (([6148914691236517205] : List Int))).bind fun t293 => (if t293 = true then (if t262 = 1 then (if t271 = 0 then ((reckonerlaw01_same.f k t269 (([1] : List Int))).bind fun t297 => (if t297 = true then (if t270 = 9223372036854775808 then (if bt274.2 = 0 then (if bt274.1 = 12297829382473034411 then (if bt276.2 = 0 then (some (bt276.1 == 18446744073709551615)) else (none)) else (none)) else (none)) else (none)) else (none))) else (none)) else (none)) else (none))) else (none)) else (none)) else (none))) else (none)) else (none)) else (none))) else (none)) else (none)) else (none))) else (none)))) = some r := H
  have A5 := Aside0.mk A50
  clear A50
  replace H := Option.bind_eq_some_iff.mp H
  obtain ⟨⟨t274, t275⟩, A60, H⟩ := H
  replace H : ((words_Reciprocal.f 9223372036854775808).bind fun bt276 => (if t236 = 0 then ((reckonerlaw01_same.f k t234 (([0] : List Int))).bind fun t281 => (if t281 = true then (if t235 = 1 then (if t247 = 0 then ((reckonerlaw01_same.f k t245 (([18446744073709551615] : List Int))).bind fun t285 => (if t285 = true then (if t246 = 1 then (if t255 = 0 then ((reckonerlaw01_same.f k t253 (([0] : List Int))).bind fun t289 => (if t289 = true then (if t254 = 18446744073709551615 then (if t263 = 0 then ((reckonerlaw01_same.f k t261 (([6148914691236517205] : List Int))).bind fun t293 => (if t293 = true then (if t262 = 1 then (if t271 = 0 then ((reckonerlaw01_same.f k t269 (([1] : List Int))).bind fun t297 => (if t297 = true then (if t270 = 9223372036854775808 then (if t275 = 0 then (if t274 = 12297829382473034411 then (if bt276.2 = 0 then (some (bt276.1 == 18446744073709551615)) else (none)) else (none)) else (none)) else (none)) else (none))) else (none)) else (none)) else (none))) else (none)) else (none)) else (none))) else (none)) else (none)) else (none))) else (none)) else (none)) else (none))) else (none))) = some r := H
  have A6 := Aside0.mk A60
  clear A60
  replace H := Option.bind_eq_some_iff.mp H
  obtain ⟨⟨t276, t277⟩, A70, H⟩ := H
  replace H : (if t236 = 0 then ((reckonerlaw01_same.f k t234 (([0] : List Int))).bind fun t281 => (if t281 = true then (if t235 = 1 then (if t247 = 0 then ((reckonerlaw01_same.f k t245 (([18446744073709551615] : List Int))).bind fun t285 => (if t285 = true then (if t246 = 1 then (if t255 = 0 then ((reckonerlaw01_same.f k t253 (([0] : List Int))).bind fun t289 => (if t289 = true then (if t254 = 18446744073709551615 then (if t263 = 0 then ((reckonerlaw01_same.f k t261 (([6148914691236517205] : List Int))).bind fun t293 => (if t293 = true then (if t262 = 1 then (if t271 = 0 then ((reckonerlaw01_same.f k t269 (([1] : List Int))).bind fun t297 => (if t297 = true then (if t270 = 9223372036854775808 then (if t275 = 0 then (if t274 = 12297829382473034411 then (if t277 = 0 then (some (t276 == 18446744073709551615)) else (none)) else (none)) else (none)) else (none)) else (none))) else (none)) else (none)) else (none))) else (none)) else (none)) else (none))) else (none)) else (none)) else (none))) else (none)) else (none)) else (none))) else (none)) = some r := H
  have A7 := Aside0.mk A70
  clear A70
  by_cases c8 : t236 = 0
  · rw [if_pos c8] at H
    have c8b0 : (t236 == 0) = true := beq_iff_eq.mpr c8
    have c8b1 : (t236 != 0) = false := bne_eq_false_iff_eq.mpr c8
    clear c8
    obtain ⟨y278, hy278⟩ : ∃ y_ : List Int, y_ = (([0] : List Int)) := ⟨_, rfl⟩
    replace H : ((reckonerlaw01_same.f k t234 y278).bind fun t281 => (if t281 = true then (if t235 = 1 then (if t247 = 0 then ((reckonerlaw01_same.f k t245 (([18446744073709551615] : List Int))).bind fun t285 => (if t285 = true then (if t246 = 1 then (if t255 = 0 then ((reckonerlaw01_same.f k t253 (([0] : List Int))).bind fun t289 => (if t289 = true then (if t254 = 18446744073709551615 then (if t263 = 0 then ((reckonerlaw01_same.f k t261 (([6148914691236517205] : List Int))).bind fun t293 => (if t293 = true then (if t262 = 1 then (if t271 = 0 then ((reckonerlaw01_same.f k t269 (([1] : List Int))).bind fun t297 => (if t297 = true then (if t270 = 9223372036854775808 then (if t275 = 0 then (if t274 = 12297829382473034411 then (if t277 = 0 then (some (t276 == 18446744073709551615)) else (none)) else (none)) else (none)) else (none)) else (none))) else (none)) else (none)) else (none))) else (none)) else (none)) else (none))) else (none)) else (none)) else (none))) else (none)) else (none)) else (none))) = some r := by first | (rw [hy278]; with_reducible exact H) | (have H2_ := (Option.bind_some _ _).symm.trans H; rw [hy278]; with_reducible exact H2_) | (have H2_ := (Option.bind_some _ _).symm.trans H; with_reducible exact H2_) | with_reducible exact H | (rw [hy278]; exact H) | exact H
    have Ny278 := Aside0.mk hy278
    clear hy278
    replace H := Option.bind_eq_some_iff.mp H
    obtain ⟨t281, A90, H⟩ := H
    replace H : (if t281 = true then (if t235 = 1 then (if t247 = 0 then ((reckonerlaw01_same.f k t245 (([18446744073709551615] : List Int))).bind fun t285 => (if t285 = true then (if t246 = 1 then (if t255 = 0 then ((reckonerlaw01_same.f k t253 (([0] : List Int))).bind fun t289 => (if t289 = true then (if t254 = 18446744073709551615 then (if t263 = 0 then ((reckonerlaw01_same.f k t261 (([6148914691236517205] : List Int))).bind fun t293 => (if t293 = true then (if t262 = 1 then (if t271 = 0 then ((reckonerlaw01_same.f k t269 (([1] : List Int))).bind fun t297 => (if t297 = true then (if t270 = 9223372036854775808 then (if t275 = 0 then (if t274 = 12297829382473034411 then (if t277 = 0 then (some (t276 == 18446744073709551615)) else (none)) else (none)) else (none)) else (none)) else (none))) else (none)) else (none)) else (none))) else (none)) else (none)) else (none))) else (none)) else (none)) else (none))) else (none)) else (none)) else (none)) = some r := H
    have A9 := Aside0.mk A90
    clear A90
    by_cases c10 : t281 = true
    · subst c10
      have H1 : (if t235 = 1 then (if t247 = 0 then ((reckonerlaw01_same.f k t245 (([18446744073709551615] : List Int))).bind fun t285 => (if t285 = true then (if t246 = 1 then (if t255 = 0 then ((reckonerlaw01_same.f k t253 (([0] : List Int))).bind fun t289 => (if t289 = true then (if t254 = 18446744073709551615 then (if t263 = 0 then ((reckonerlaw01_same.f k t261 (([6148914691236517205] : List Int))).bind fun t293 => (if t293 = true then (if t262 = 1 then (if t271 = 0 then ((reckonerlaw01_same.f k t269 (([1] : List Int))).bind fun t297 => (if t297 = true then (if t270 = 9223372036854775808 then (if t275 = 0 then (if t274 = 12297829382473034411 then (if t277 = 0 then (some (t276 == 18446744073709551615)) else (none)) else (none)) else (none)) else (none)) else (none))) else (none)) else (none)) else (none))) else (none)) else (none)) else (none))) else (none)) else (none)) else (none))) else (none)) else (none)) = some r := by rw [if_pos rfl] at H; exact H
      clear H
      have H := H1
      clear H1
      by_cases c11 : t235 = 1
      · rw [if_pos c11] at H
        have c11b0 : (t235 == 1) = true := beq_iff_eq.mpr c11
        have c11b1 : (t235 != 1) = false := bne_eq_false_iff_eq.mpr c11
        clear c11
        by_cases c12 : t247 = 0
        · rw [if_pos c12] at H
          have c12b0 : (t247 == 0) = true := beq_iff_eq.mpr c12
          have c12b1 : (t247 != 0) = false := bne_eq_false_iff_eq.mpr c12
          clear c12
          obtain ⟨y282, hy282⟩ : ∃ y_ : List Int, y_ = (([18446744073709551615] : List Int)) := ⟨_, rfl⟩
          replace H : ((reckonerlaw01_same.f k t245 y282).bind fun t285 => (if t285 = true then (if t246 = 1 then (if t255 = 0 then ((reckonerlaw01_same.f k t253 (([0] : List Int))).bind fun t289 => (if t289 = true then (if t254 = 18446744073709551615 then (if t263 = 0 then ((reckonerlaw01_same.f k t261 (([6148914691236517205] : List Int))).bind fun t293 => (if t293 = true then (if t262 = 1 then (if t271 = 0 then ((reckonerlaw01_same.f k t269 (([1] : List Int))).bind fun t297 => (if t297 = true then (if t270 = 9223372036854775808 then (if t275 = 0 then (if t274 = 12297829382473034411 then (if t277 = 0 then (some (t276 == 18446744073709551615)) else (none)) else (none)) else (none)) else (none)) else (none))) else (none)) else (none)) else (none))) else (none)) else (none)) else (none))) else (none)) else (none)) else (none))) = some r := by first | (rw [hy282]; with_reducible exact H) | (have H2_ := (Option.bind_some _ _).symm.trans H; rw [hy282]; with_reducible exact H2_) | (have H2_ := (Option.bind_some _ _).symm.trans H; with_reducible exact H2_) | with_reducible exact H | (rw [hy282]; exact H) | exact H
          have Ny282 := Aside0.mk hy282
          clear hy282
          replace H := Option.bind_eq_some_iff.mp H
          obtain ⟨t285, A130, H⟩ := H
          replace H : (if t285 = true then (if t246 = 1 then (if t255 = 0 then ((reckonerlaw01_same.f k t253 (([0] : List Int))).bind fun t289 => (if t289 = true then (if t254 = 18446744073709551615 then (if t263 = 0 then ((reckonerlaw01_same.f k t261 (([6148914691236517205] : List Int))).bind fun t293 => (if t293 = true then (if t262 = 1 then (if t271 = 0 then ((reckonerlaw01_same.f k t269 (([1] : List Int))).bind fun t297 => (if t297 = true then (if t270 = 9223372036854775808 then (if t275 = 0 then (if t274 = 12297829382473034411 then (if t277 = 0 then (some (t276 == 18446744073709551615)) else (none)) else (none)) else (none)) else (none)) else (none))) else (none)) else (none)) else (none))) else (none)) else (none)) else (none))) else (none)) else (none)) else (none)) = some r := H
          have A13 := Aside0.mk A130
          clear A130
          by_cases c14 : t285 = true
          · subst c14
            have H1 : (if t246 = 1 then (if t255 = 0 then ((reckonerlaw01_same.f k t253 (([0] : List Int))).bind fun t289 => (if t289 = true then (if t254 = 18446744073709551615 then (if t263 = 0 then ((reckonerlaw01_same.f k t261 (([6148914691236517205] : List Int))).bind fun t293 => (if t293 = true then (if t262 = 1 then (if t271 = 0 then ((reckonerlaw01_same.f k t269 (([1] : List Int))).bind fun t297 => (if t297 = true then (if t270 = 9223372036854775808 then (if t275 = 0 then (if t274 = 12297829382473034411 then (if t277 = 0 then (some (t276 == 18446744073709551615)) else (none)) else (none)) else (none)) else (none)) else (none))) else (none)) else (none)) else (none))) else (none)) else (none)) else (none))) else (none)) else (none)) = some r := by rw [if_pos rfl] at H; exact H
            clear H
            have H := H1
            clear H1
            by_cases c15 : t246 = 1
            · rw [if_pos c15] at H
              have c15b0 : (t246 == 1) = true := beq_iff_eq.mpr c15
              have c15b1 : (t246 != 1) = false := bne_eq_false_iff_eq.mpr c15
              clear c15
              by_cases c16 : t255 = 0
              · rw [if_pos c16] at H
                have c16b0 : (t255 == 0) = true := beq_iff_eq.mpr c16
                have c16b1 : (t255 != 0) = false := bne_eq_false_iff_eq.mpr c16
                clear c16
                obtain ⟨y286, hy286⟩ : ∃ y_ : List Int, y_ = (([0] : List Int)) := ⟨_, rfl⟩
                replace H : ((reckonerlaw01_same.f k t253 y286).bind fun t289 => (if t289 = true then (if t254 = 18446744073709551615 then (if t263 = 0 then ((reckonerlaw01_same.f k t261 (([6148914691236517205] : List Int))).bind fun t293 => (if t293 = true then (if t262 = 1 then (if t271 = 0 then ((reckonerlaw01_same.f k t269 (([1] : List Int))).bind fun t297 => (if t297 = true then (if t270 = 9223372036854775808 then (if t275 = 0 then (if t274 = 12297829382473034411 then (if t277 = 0 then (some (t276 == 18446744073709551615)) else (none)) else (none)) else (none)) else (none)) else (none))) else (none)) else (none)) else (none))) else (none)) else (none)) else (none))) = some r := by first | (rw [hy286]; with_reducible exact H) | (have H2_ := (Option.bind_some _ _).symm.trans H; rw [hy286]; with_reducible exact H2_) | (have H2_ := (Option.bind_some _ _).symm.trans H; with_reducible exact H2_) | with_reducible exact H | (rw [hy286]; exact H) | exact H
                have Ny286 := Aside0.mk hy286
                clear hy286
                replace H := Option.bind_eq_some_iff.mp H
                obtain ⟨t289, A170, H⟩ := H
                replace H : (if t289 = true then (if t254 = 18446744073709551615 then (if t263 = 0 then ((reckonerlaw01_same.f k t261 (([6148914691236517205] : List Int))).bind fun t293 => (if t293 = true then (if t262 = 1 then (if t271 = 0 then ((reckonerlaw01_same.f k t269 (([1] : List Int))).bind fun t297 => (if t297 = true then (if t270 = 9223372036854775808 then (if t275 = 0 then (if t274 = 12297829382473034411 then (if t277 = 0 then (some (t276 == 18446744073709551615)) else (none)) else (none)) else (none)) else (none)) else (none))) else (none)) else (none)) else (none))) else (none)) else (none)) else (none)) = some r := H
                have A17 := Aside0.mk A170
                clear A170
                by_cases c18 : t289 = true
                · subst c18
                  have H1 : (if t254 = 18446744073709551615 then (if t263 = 0 then ((reckonerlaw01_same.f k t261 (([6148914691236517205] : List Int))).bind fun t293 => (if t293 = true then (if t262 = 1 then (if t271 = 0 then ((reckonerlaw01_same.f k t269 (([1] : List Int))).bind fun t297 => (if t297 = true then (if t270 = 9223372036854775808 then (if t275 = 0 then (if t274 = 12297829382473034411 then (if t277 = 0 then (some (t276 == 18446744073709551615)) else (none)) else (none)) else (none)) else (none)) else (none))) else (none)) else (none)) else (none))) else (none)) else (none)) = some r := by rw [if_pos rfl] at H; exact H
                  clear H
                  have H := H1
                  clear H1
                  by_cases c19 : t254 = 18446744073709551615
                  · rw [if_pos c19] at H
                    have c19b0 : (t254 == 18446744073709551615) = true := beq_iff_eq.mpr c19
                    have c19b1 : (t254 != 18446744073709551615) = false := bne_eq_false_iff_eq.mpr c19
                    clear c19
                    by_cases c20 : t263 = 0
                    · rw [if_pos c20] at H
                      have c20b0 : (t263 == 0) = true := beq_iff_eq.mpr c20
                      have c20b1 : (t263 != 0) = false := bne_eq_false_iff_eq.mpr c20
                      clear c20
                      obtain ⟨y290, hy290⟩ : ∃ y_ : List Int, y_ = (([6148914691236517205] : List Int)) := ⟨_, rfl⟩
                      replace H : ((reckonerlaw01_same.f k t261 y290).bind fun t293 => (if t293 = true then (if t262 = 1 then (if t271 = 0 then ((reckonerlaw01_same.f k t269 (([1] : List Int))).bind fun t297 => (if t297 = true then (if t270 = 9223372036854775808 then (if t275 = 0 then (if t274 = 12297829382473034411 then (if t277 = 0 then (some (t276 == 18446744073709551615)) else (none)) else (none)) else (none)) else (none)) else (none))) else (none)) else (none)) else (none))) = some r := by first | (rw [hy290]; with_reducible exact H) | (have H2_ := (Option.bind_some _ _).symm.trans H; rw [hy290]; with_reducible exact H2_) | (have H2_ := (Option.bind_some _ _).symm.trans H; with_reducible exact H2_) | with_reducible exact H | (rw [hy290]; exact H) | exact H
                      have Ny290 := Aside0.mk hy290
                      clear hy290
                      replace H := Option.bind_eq_some_iff.mp H
                      obtain ⟨t293, A210, H⟩ := H
                      replace H : (if t293 = true then (if t262 = 1 then (if t271 = 0 then ((reckonerlaw01_same.f k t269 (([1] : List Int))).bind fun t297 => (if t297 = true then (if t270 = 9223372036854775808 then (if t275 = 0 then (if t274 = 12297829382473034411 then (if t277 = 0 then (some (t276 == 18446744073709551615)) else (none)) else (none)) else (none)) else (none)) else (none))) else (none)) else (none)) else (none)) = some r := H
                      have A21 := Aside0.mk A210
                      clear A210
                      by_cases c22 : t293 = true
                      · subst c22
                        have H1 : (if t262 = 1 then (if t271 = 0 then ((reckonerlaw01_same.f k t269 (([1] : List Int))).bind fun t297 => (if t297 = true then (if t270 = 9223372036854775808 then (if t275 = 0 then (if t274 = 12297829382473034411 then (if t277 = 0 then (some (t276 == 18446744073709551615)) else (none)) else (none)) else (none)) else (none)) else (none))) else (none)) else (none)) = some r := by rw [if_pos rfl] at H; exact H
                        clear H
                        have H := H1
                        clear H1
                        by_cases c23 : t262 = 1
                        · rw [if_pos c23] at H
                          have c23b0 : (t262 == 1) = true := beq_iff_eq.mpr c23
                          have c23b1 : (t262 != 1) = false := bne_eq_false_iff_eq.mpr c23
                          clear c23
                          by_cases c24 : t271 = 0
                          · rw [if_pos c24] at H
                            have c24b0 : (t271 == 0) = true := beq_iff_eq.mpr c24
                            have c24b1 : (t271 != 0) = false := bne_eq_false_iff_eq.mpr c24
                            clear c24
                            obtain ⟨y294, hy294⟩ : ∃ y_ : List Int, y_ = (([1] : List Int)) := ⟨_, rfl⟩
                            replace H : ((reckonerlaw01_same.f k t269 y294).bind fun t297 => (if t297 = true then (if t270 = 9223372036854775808 then (if t275 = 0 then (if t274 = 12297829382473034411 then (if t277 = 0 then (some (t276 == 18446744073709551615)) else (none)) else (none)) else (none)) else (none)) else (none))) = some r := by first | (rw [hy294]; with_reducible exact H) | (have H2_ := (Option.bind_some _ _).symm.trans H; rw [hy294]; with_reducible exact H2_) | (have H2_ := (Option.bind_some _ _).symm.trans H; with_reducible exact H2_) | with_reducible exact H | (rw [hy294]; exact H) | exact H
                            have Ny294 := Aside0.mk hy294
                            clear hy294
                            replace H := Option.bind_eq_some_iff.mp H
                            obtain ⟨t297, A250, H⟩ := H
                            replace H : (if t297 = true then (if t270 = 9223372036854775808 then (if t275 = 0 then (if t274 = 12297829382473034411 then (if t277 = 0 then (some (t276 == 18446744073709551615)) else (none)) else (none)) else (none)) else (none)) else (none)) = some r := H
                            have A25 := Aside0.mk A250
                            clear A250
                            by_cases c26 : t297 = true
                            · subst c26
                              have H1 : (if t270 = 9223372036854775808 then (if t275 = 0 then (if t274 = 12297829382473034411 then (if t277 = 0 then (some (t276 == 18446744073709551615)) else (none)) else (none)) else (none)) else (none)) = some r := by rw [if_pos rfl] at H; exact H
                              clear H
                              have H := H1
                              clear H1
                              by_cases c27 : t270 = 9223372036854775808
                              · rw [if_pos c27] at H
                                have c27b0 : (t270 == 9223372036854775808) = true := beq_iff_eq.mpr c27
                                have c27b1 : (t270 != 9223372036854775808) = false := bne_eq_false_iff_eq.mpr c27
                                clear c27
                                by_cases c28 : t275 = 0
                                · rw [if_pos c28] at H
                                  have c28b0 : (t275 == 0) = true := beq_iff_eq.mpr c28
                                  have c28b1 : (t275 != 0) = false := bne_eq_false_iff_eq.mpr c28
                                  clear c28
                                  by_cases c29 : t274 = 12297829382473034411
                                  · rw [if_pos c29] at H
                                    have c29b0 : (t274 == 12297829382473034411) = true := beq_iff_eq.mpr c29
                                    have c29b1 : (t274 != 12297829382473034411) = false := bne_eq_false_iff_eq.mpr c29
                                    clear c29
                                    by_cases c30 : t277 = 0
                                    · rw [if_pos c30] at H
                                      have c30b0 : (t277 == 0) = true := beq_iff_eq.mpr c30
                                      have c30b1 : (t277 != 0) = false := bne_eq_false_iff_eq.mpr c30
                                      clear c30
                                      obtain rfl := Option.some.inj H
                                      go_enter Tryd.func19, Tryd.ntmps19
                                      try simp only [List.append]
                                      go_wp2_with (first | ((with_reducible refine gate_dst (N := 21) rfl ?_); (try (refine gate_guard (by rfl) ?_; dsimp only)); refine Kd.R_lit (Kd.int .u64) _ 23 ?hg (N := 21) ?hd (xs := ([18446744073709551615] : List Int)) (inner := [.int .u64 18446744073709551615]) (ok := fun _ => True) (okp := fun _ => True) ?hr ?hp (fun _ hk => hk) trivial (Below.refl _ _) (Nat.le_refl _) (by simp) ?_; (case hd => rfl); (case hg => rfl); (case hr => first | (go_simp; done) | (go_simp; rfl)); (case hp => exact (Reps.one (show Kd.M (Kd.int .u64) _ _ _ 18446744073709551615 [.int .u64 18446744073709551615] from rfl) (Reps.none _ _))); intro v229 w31 ho32 hb hg_ hnew_; clear hg_ hnew_; (first | rw [← Ny228.out] at ho32 | (simp only [Int.reduceToNat] at ho32; rw [← Ny228.out] at ho32)); have n0_ := Aside0.mk (Kd.R_lower ho32 (below_size (by repeat (first | (with_reducible first | exact HB.out | apply below_alloc | apply pw_below_drewN | apply below_drew1) | exact HB.out)))); have n1_ := Aside0.mk (below_step (by repeat (first | (with_reducible first | exact HB.out | apply below_alloc | apply pw_below_drewN | apply below_drew1) | exact HB.out)) hb); clear HB; have HO230 := n0_; have HB := n1_; clear n0_ n1_; clear hb ho32) | ((with_reducible refine gate_dst (N := 22) rfl ?_); (try (refine gate_guard (by rfl) ?_; dsimp only)); refine Kd.R_lit (Kd.int .u64) _ 23 ?hg (N := 22) ?hd (xs := ([1] : List Int)) (inner := [.int .u64 1]) (ok := fun _ => True) (okp := fun _ => True) ?hr ?hp (fun _ hk => hk) trivial (Below.refl _ _) (Nat.le_refl _) (by simp) ?_; (case hd => rfl); (case hg => rfl); (case hr => first | (go_simp; done) | (go_simp; rfl)); (case hp => exact (Reps.one (show Kd.M (Kd.int .u64) _ _ _ 1 [.int .u64 1] from rfl) (Reps.none _ _))); intro v232 w33 ho34 hb hg_ hnew_; clear hg_ hnew_; (first | rw [← Ny231.out] at ho34 | (simp only [Int.reduceToNat] at ho34; rw [← Ny231.out] at ho34)); have n0_ := Aside0.mk (Kd.R_elder' (by (with_reducible repeat (first | apply Kd.R_alloc | apply Kd.R_drewN | apply Kd.R_drew)); exact HO230.out) (Kd.R_base ho34) hb); have n1_ := Aside0.mk (Kd.R_lower (Kd.R_new' ho34 (Kd.R_lt (by (with_reducible repeat (first | apply Kd.R_alloc | apply Kd.R_drewN | apply Kd.R_drew)); exact HO230.out))) (below_size (by repeat (first | (with_reducible first | exact HB.out | apply below_alloc | apply pw_below_drewN | apply below_drew1) | exact HB.out)))); have n2_ := Aside0.mk (below_step (by repeat (first | (with_reducible first | exact HB.out | apply below_alloc | apply pw_below_drewN | apply below_drew1) | exact HB.out)) hb); clear HO230; clear HB; have HO230 := n0_; have HO233 := n1_; have HB := n2_; clear n0_ n1_ n2_; clear hb ho34; obtain ⟨Ao35, co35, eo35⟩ := Kd.R_slice HO230.out; subst eo35; obtain ⟨Ao36, co36, eo36⟩ := Kd.R_slice HO233.out; subst eo36) | ((with_reducible refine gate_callee (f := 13) rfl ?_); refine goesL_ (some 23) rfl rfl Tryd.func13 (by kernel_rfl) rfl #[.slice Ao35 y228.length co35, .slice Ao36 y231.length co36, .int .u64 0] rfl (by (try simp only [List.map_toArray, List.map_cons, List.map_nil]); first | done | rfl | (simp only [List.length_drop, List.length_take]; rfl)) ?_; (with_reducible refine (words_Add.calls _ _ y228 _ _ y231 0 t234 t235 t236 _ ?side1 ?side2 ?side3 ?side4 A1.out).mono ?_); (case side1 => repeat (first | exact (Kd.R_reads' HO230.out).2.2 | (with_reducible refine Kd.C_alloc ?_ _) | (with_reducible refine Kd.C_drewN ?_ _) | (with_reducible refine Kd.C_drew ?_))); (case side2 => exact (Kd.R_reads' HO230.out).2.1); (case side3 => repeat (first | exact (Kd.R_reads' HO233.out).2.2 | (with_reducible refine Kd.C_alloc ?_ _) | (with_reducible refine Kd.C_drewN ?_ _) | (with_reducible refine Kd.C_drew ?_))); (case side4 => exact (Kd.R_reads' HO233.out).2.1); rintro e w37 ⟨v237, rfl, ho0, hb⟩; refine ⟨_, rfl, ?_⟩; have n0_ := Aside0.mk (Kd.R_elder' (by (with_reducible repeat (first | apply Kd.R_alloc | apply Kd.R_drewN | apply Kd.R_drew)); exact HO230.out) (Kd.R_base ho0) hb); have n1_ := Aside0.mk (Kd.R_elder' (by (with_reducible repeat (first | apply Kd.R_alloc | apply Kd.R_drewN | apply Kd.R_drew)); exact HO233.out) (Kd.R_base ho0) hb); have n2_ := Aside0.mk (Kd.R_lower (Kd.R_new' (Kd.R_new' ho0 (Kd.R_lt (by (with_reducible repeat (first | apply Kd.R_alloc | apply Kd.R_drewN | apply Kd.R_drew)); exact HO230.out))) (Kd.R_lt (by (with_reducible repeat (first | apply Kd.R_alloc | apply Kd.R_drewN | apply Kd.R_drew)); exact HO233.out))) (below_size (by repeat (first | (with_reducible first | exact HB.out | apply below_alloc | apply pw_below_drewN | apply below_drew1) | exact HB.out)))); have n3_ := Aside0.mk (below_step (by repeat (first | (with_reducible first | exact HB.out | apply below_alloc | apply pw_below_drewN | apply below_drew1) | exact HB.out)) hb); clear HO230; clear HO233; clear HB; have HO230 := n0_; have HO233 := n1_; have HO238 := n2_; have HB := n3_; clear n0_ n1_ n2_ n3_; (try clear hb); (try clear hb2); (try clear hk); (try clear hi); (try clear ho0)) | ((with_reducible refine gate_dst (N := 28) rfl ?_); (try (refine gate_guard (by rfl) ?_; dsimp only)); refine Kd.R_lit (Kd.int .u64) _ 23 ?hg (N := 28) ?hd (xs := ([0] : List Int)) (inner := [.int .u64 0]) (ok := fun _ => True) (okp := fun _ => True) ?hr ?hp (fun _ hk => hk) trivial (Below.refl _ _) (Nat.le_refl _) (by simp) ?_; (case hd => rfl); (case hg => rfl); (case hr => first | (go_simp; done) | (go_simp; rfl)); (case hp => exact (Reps.one (show Kd.M (Kd.int .u64) _ _ _ 0 [.int .u64 0] from rfl) (Reps.none _ _))); intro v240 w38 ho39 hb hg_ hnew_; clear hg_ hnew_; (first | rw [← Ny239.out] at ho39 | (simp only [Int.reduceToNat] at ho39; rw [← Ny239.out] at ho39)); have n0_ := Aside0.mk (Kd.R_elder' (by (with_reducible repeat (first | apply Kd.R_alloc | apply Kd.R_drewN | apply Kd.R_drew)); exact HO230.out) (Kd.R_base ho39) hb); have n1_ := Aside0.mk (Kd.R_elder' (by (with_reducible repeat (first | apply Kd.R_alloc | apply Kd.R_drewN | apply Kd.R_drew)); exact HO233.out) (Kd.R_base ho39) hb); have n2_ := Aside0.mk (Kd.R_elder' (by (with_reducible repeat (first | apply Kd.R_alloc | apply Kd.R_drewN | apply Kd.R_drew)); exact HO238.out) (Kd.R_base ho39) hb); have n3_ := Aside0.mk (Kd.R_lower (Kd.R_new' (Kd.R_new' (Kd.R_new' ho39 (Kd.R_lt (by (with_reducible repeat (first | apply Kd.R_alloc | apply Kd.R_drewN | apply Kd.R_drew)); exact HO230.out))) (Kd.R_lt (by (with_reducible repeat (first | apply Kd.R_alloc | apply Kd.R_drewN | apply Kd.R_drew)); exact HO233.out))) (Kd.R_lt (by (with_reducible repeat (first | apply Kd.R_alloc | apply Kd.R_drewN | apply Kd.R_drew)); exact HO238.out))) (below_size (by repeat (first | (with_reducible first | exact HB.out | apply below_alloc | apply pw_below_drewN | apply below_drew1) | exact HB.out)))); have n4_ := Aside0.mk (below_step (by repeat (first | (with_reducible first | exact HB.out | apply below_alloc | apply pw_below_drewN | apply below_drew1) | exact HB.out)) hb); clear HO230; clear HO233; clear HO238; clear HB; have HO230 := n0_; have HO233 := n1_; have HO238 := n2_; have HO241 := n3_; have HB := n4_; clear n0_ n1_ n2_ n3_ n4_; clear hb ho39) | ((with_reducible refine gate_dst (N := 29) rfl ?_); (try (refine gate_guard (by rfl) ?_; dsimp only)); refine Kd.R_lit (Kd.int .u64) _ 23 ?hg (N := 29) ?hd (xs := ([1] : List Int)) (inner := [.int .u64 1]) (ok := fun _ => True) (okp := fun _ => True) ?hr ?hp (fun _ hk => hk) trivial (Below.refl _ _) (Nat.le_refl _) (by simp) ?_; (case hd => rfl); (case hg => rfl); (case hr => first | (go_simp; done) | (go_simp; rfl)); (case hp => exact (Reps.one (show Kd.M (Kd.int .u64) _ _ _ 1 [.int .u64 1] from rfl) (Reps.none _ _))); intro v243 w40 ho41 hb hg_ hnew_; clear hg_ hnew_; (first | rw [← Ny242.out] at ho41 | (simp only [Int.reduceToNat] at ho41; rw [← Ny242.out] at ho41)); have n0_ := Aside0.mk (Kd.R_elder' (by (with_reducible repeat (first | apply Kd.R_alloc | apply Kd.R_drewN | apply Kd.R_drew)); exact HO230.out) (Kd.R_base ho41) hb); have n1_ := Aside0.mk (Kd.R_elder' (by (with_reducible repeat (first | apply Kd.R_alloc | apply Kd.R_drewN | apply Kd.R_drew)); exact HO233.out) (Kd.R_base ho41) hb); have n2_ := Aside0.mk (Kd.R_elder' (by (with_reducible repeat (first | apply Kd.R_alloc | apply Kd.R_drewN | apply Kd.R_drew)); exact HO238.out) (Kd.R_base ho41) hb); have n3_ := Aside0.mk (Kd.R_elder' (by (with_reducible repeat (first | apply Kd.R_alloc | apply Kd.R_drewN | apply Kd.R_drew)); exact HO241.out) (Kd.R_base ho41) hb); have n4_ := Aside0.mk (Kd.R_lower (Kd.R_new' (Kd.R_new' (Kd.R_new' (Kd.R_new' ho41 (Kd.R_lt (by (with_reducible repeat (first | apply Kd.R_alloc | apply Kd.R_drewN | apply Kd.R_drew)); exact HO230.out))) (Kd.R_lt (by (with_reducible repeat (first | apply Kd.R_alloc | apply Kd.R_drewN | apply Kd.R_drew)); exact HO233.out))) (Kd.R_lt (by (with_reducible repeat (first | apply Kd.R_alloc | apply Kd.R_drewN | apply Kd.R_drew)); exact HO238.out))) (Kd.R_lt (by (with_reducible repeat (first | apply Kd.R_alloc | apply Kd.R_drewN | apply Kd.R_drew)); exact HO241.out))) (below_size (by repeat (first | (with_reducible first | exact HB.out | apply below_alloc | apply pw_below_drewN | apply below_drew1) | exact HB.out)))); have n5_ := Aside0.mk (below_step (by repeat (first | (with_reducible first | exact HB.out | apply below_alloc | apply pw_below_drewN | apply below_drew1) | exact HB.out)) hb); clear HO230; clear HO233; clear HO238; clear HO241; clear HB; have HO230 := n0_; have HO233 := n1_; have HO238 := n2_; have HO241 := n3_; have HO244 := n4_; have HB := n5_; clear n0_ n1_ n2_ n3_ n4_ n5_; clear hb ho41; obtain ⟨Ao42, co42, eo42⟩ := Kd.R_slice HO241.out; subst eo42; obtain ⟨Ao43, co43, eo43⟩ := Kd.R_slice HO244.out; subst eo43) | ((with_reducible refine gate_callee (f := 14) rfl ?_); refine goesL_ (some 30) rfl rfl Tryd.func14 (by kernel_rfl) rfl #[.slice Ao42 y239.length co42, .slice Ao43 y242.length co43, .int .u64 0] rfl (by (try simp only [List.map_toArray, List.map_cons, List.map_nil]); first | done | rfl | (simp only [List.length_drop, List.length_take]; rfl)) ?_; (with_reducible refine (words_Sub.calls _ _ y239 _ _ y242 0 t245 t246 t247 _ ?side1 ?side2 ?side3 ?side4 A2.out).mono ?_); (case side1 => repeat (first | exact (Kd.R_reads' HO241.out).2.2 | (with_reducible refine Kd.C_alloc ?_ _) | (with_reducible refine Kd.C_drewN ?_ _) | (with_reducible refine Kd.C_drew ?_))); (case side2 => exact (Kd.R_reads' HO241.out).2.1); (case side3 => repeat (first | exact (Kd.R_reads' HO244.out).2.2 | (with_reducible refine Kd.C_alloc ?_ _) | (with_reducible refine Kd.C_drewN ?_ _) | (with_reducible refine Kd.C_drew ?_))); (case side4 => exact (Kd.R_reads' HO244.out).2.1); rintro e w44 ⟨v248, rfl, ho0, hb⟩; refine ⟨_, rfl, ?_⟩; have n0_ := Aside0.mk (Kd.R_elder' (by (with_reducible repeat (first | apply Kd.R_alloc | apply Kd.R_drewN | apply Kd.R_drew)); exact HO230.out) (Kd.R_base ho0) hb); have n1_ := Aside0.mk (Kd.R_elder' (by (with_reducible repeat (first | apply Kd.R_alloc | apply Kd.R_drewN | apply Kd.R_drew)); exact HO233.out) (Kd.R_base ho0) hb); have n2_ := Aside0.mk (Kd.R_elder' (by (with_reducible repeat (first | apply Kd.R_alloc | apply Kd.R_drewN | apply Kd.R_drew)); exact HO238.out) (Kd.R_base ho0) hb); have n3_ := Aside0.mk (Kd.R_elder' (by (with_reducible repeat (first | apply Kd.R_alloc | apply Kd.R_drewN | apply Kd.R_drew)); exact HO241.out) (Kd.R_base ho0) hb); have n4_ := Aside0.mk (Kd.R_elder' (by (with_reducible repeat (first | apply Kd.R_alloc | apply Kd.R_drewN | apply Kd.R_drew)); exact HO244.out) (Kd.R_base ho0) hb); have n5_ := Aside0.mk (Kd.R_lower (Kd.R_new' (Kd.R_new' (Kd.R_new' (Kd.R_new' (Kd.R_new' ho0 (Kd.R_lt (by (with_reducible repeat (first | apply Kd.R_alloc | apply Kd.R_drewN | apply Kd.R_drew)); exact HO230.out))) (Kd.R_lt (by (with_reducible repeat (first | apply Kd.R_alloc | apply Kd.R_drewN | apply Kd.R_drew)); exact HO233.out))) (Kd.R_lt (by (with_reducible repeat (first | apply Kd.R_alloc | apply Kd.R_drewN | apply Kd.R_drew)); exact HO238.out))) (Kd.R_lt (by (with_reducible repeat (first | apply Kd.R_alloc | apply Kd.R_drewN | apply Kd.R_drew)); exact HO241.out))) (Kd.R_lt (by (with_reducible repeat (first | apply Kd.R_alloc | apply Kd.R_drewN | apply Kd.R_drew)); exact HO244.out))) (below_size (by repeat (first | (with_reducible first | exact HB.out | apply below_alloc | apply pw_below_drewN | apply below_drew1) | exact HB.out)))); have n6_ := Aside0.mk (below_step (by repeat (first | (with_reducible first | exact HB.out | apply below_alloc | apply pw_below_drewN | apply below_drew1) | exact HB.out)) hb); clear HO230; clear HO233; clear HO238; clear HO241; clear HO244; clear HB; have HO230 := n0_; have HO233 := n1_; have HO238 := n2_; have HO241 := n3_; have HO244 := n4_; have HO249 := n5_; have HB := n6_; clear n0_ n1_ n2_ n3_ n4_ n5_ n6_; (try clear hb); (try clear hb2); (try clear hk); (try clear hi); (try clear ho0)) | ((with_reducible refine gate_dst (N := 35) rfl ?_); (try (refine gate_guard (by rfl) ?_; dsimp only)); refine Kd.R_lit (Kd.int .u64) _ 23 ?hg (N := 35) ?hd (xs := ([18446744073709551615] : List Int)) (inner := [.int .u64 18446744073709551615]) (ok := fun _ => True) (okp := fun _ => True) ?hr ?hp (fun _ hk => hk) trivial (Below.refl _ _) (Nat.le_refl _) (by simp) ?_; (case hd => rfl); (case hg => rfl); (case hr => first | (go_simp; done) | (go_simp; rfl)); (case hp => exact (Reps.one (show Kd.M (Kd.int .u64) _ _ _ 18446744073709551615 [.int .u64 18446744073709551615] from rfl) (Reps.none _ _))); intro v251 w45 ho46 hb hg_ hnew_; clear hg_ hnew_; (first | rw [← Ny250.out] at ho46 | (simp only [Int.reduceToNat] at ho46; rw [← Ny250.out] at ho46)); have n0_ := Aside0.mk (Kd.R_elder' (by (with_reducible repeat (first | apply Kd.R_alloc | apply Kd.R_drewN | apply Kd.R_drew)); exact HO230.out) (Kd.R_base ho46) hb); have n1_ := Aside0.mk (Kd.R_elder' (by (with_reducible repeat (first | apply Kd.R_alloc | apply Kd.R_drewN | apply Kd.R_drew)); exact HO233.out) (Kd.R_base ho46) hb); have n2_ := Aside0.mk (Kd.R_elder' (by (with_reducible repeat (first | apply Kd.R_alloc | apply Kd.R_drewN | apply Kd.R_drew)); exact HO238.out) (Kd.R_base ho46) hb); have n3_ := Aside0.mk (Kd.R_elder' (by (with_reducible repeat (first | apply Kd.R_alloc | apply Kd.R_drewN | apply Kd.R_drew)); exact HO241.out) (Kd.R_base ho46) hb); have n4_ := Aside0.mk (Kd.R_elder' (by (with_reducible repeat (first | apply Kd.R_alloc | apply Kd.R_drewN | apply Kd.R_drew)); exact HO244.out) (Kd.R_base ho46) hb); have n5_ := Aside0.mk (Kd.R_elder' (by (with_reducible repeat (first | apply Kd.R_alloc | apply Kd.R_drewN | apply Kd.R_drew)); exact HO249.out) (Kd.R_base ho46) hb); have n6_ := Aside0.mk (Kd.R_lower (Kd.R_new' (Kd.R_new' (Kd.R_new' (Kd.R_new' (Kd.R_new' (Kd.R_new' ho46 (Kd.R_lt (by (with_reducible repeat (first | apply Kd.R_alloc | apply Kd.R_drewN | apply Kd.R_drew)); exact HO230.out))) (Kd.R_lt (by (with_reducible repeat (first | apply Kd.R_alloc | apply Kd.R_drewN | apply Kd.R_drew)); exact HO233.out))) (Kd.R_lt (by (with_reducible repeat (first | apply Kd.R_alloc | apply Kd.R_drewN | apply Kd.R_drew)); exact HO238.out))) (Kd.R_lt (by (with_reducible repeat (first | apply Kd.R_alloc | apply Kd.R_drewN | apply Kd.R_drew)); exact HO241.out))) (Kd.R_lt (by (with_reducible repeat (first | apply Kd.R_alloc | apply Kd.R_drewN | apply Kd.R_drew)); exact HO244.out))) (Kd.R_lt (by (with_reducible repeat (first | apply Kd.R_alloc | apply Kd.R_drewN | apply Kd.R_drew)); exact HO249.out))) (below_size (by repeat (first | (with_reducible first | exact HB.out | apply below_alloc | apply pw_below_drewN | apply below_drew1) | exact HB.out)))); have n7_ := Aside0.mk (below_step (by repeat (first | (with_reducible first | exact HB.out | apply below_alloc | apply pw_below_drewN | apply below_drew1) | exact HB.out)) hb); clear HO230; clear HO233; clear HO238; clear HO241; clear HO244; clear HO249; clear HB; have HO230 := n0_; have HO233 := n1_; have HO238 := n2_; have HO241 := n3_; have HO244 := n4_; have HO249 := n5_; have HO252 := n6_; have HB := n7_; clear n0_ n1_ n2_ n3_ n4_ n5_ n6_ n7_; clear hb ho46; obtain ⟨Ao47, co47, eo47⟩ := Kd.R_slice HO252.out; subst eo47) | ((with_reducible refine gate_callee (f := 28) rfl ?_); refine goesL_ (some 36) rfl rfl Tryd.func28 (by kernel_rfl) rfl #[.slice Ao47 y250.length co47, .int .u64 18446744073709551615, .int .u64 18446744073709551615] rfl (by (try simp only [List.map_toArray, List.map_cons, List.map_nil]); first | done | rfl | (simp only [List.length_drop, List.length_take]; rfl)) ?_; (with_reducible refine (words_MulWord.calls _ _ y250 18446744073709551615 18446744073709551615 t253 t254 t255 _ ?side1 ?side2 A3.out).mono ?_); (case side1 => repeat (first | exact (Kd.R_reads' HO252.out).2.2 | (with_reducible refine Kd.C_alloc ?_ _) | (with_reducible refine Kd.C_drewN ?_ _) | (with_reducible refine Kd.C_drew ?_))); (case side2 => exact (Kd.R_reads' HO252.out).2.1); rintro e w48 ⟨v256, rfl, ho0, hb⟩; refine ⟨_, rfl, ?_⟩; have n0_ := Aside0.mk (Kd.R_elder' (by (with_reducible repeat (first | apply Kd.R_alloc | apply Kd.R_drewN | apply Kd.R_drew)); exact HO230.out) (Kd.R_base ho0) hb); have n1_ := Aside0.mk (Kd.R_elder' (by (with_reducible repeat (first | apply Kd.R_alloc | apply Kd.R_drewN | apply Kd.R_drew)); exact HO233.out) (Kd.R_base ho0) hb); have n2_ := Aside0.mk (Kd.R_elder' (by (with_reducible repeat (first | apply Kd.R_alloc | apply Kd.R_drewN | apply Kd.R_drew)); exact HO238.out) (Kd.R_base ho0) hb); have n3_ := Aside0.mk (Kd.R_elder' (by (with_reducible repeat (first | apply Kd.R_alloc | apply Kd.R_drewN | apply Kd.R_drew)); exact HO241.out) (Kd.R_base ho0) hb); have n4_ := Aside0.mk (Kd.R_elder' (by (with_reducible repeat (first | apply Kd.R_alloc | apply Kd.R_drewN | apply Kd.R_drew)); exact HO244.out) (Kd.R_base ho0) hb); have n5_ := Aside0.mk (Kd.R_elder' (by (with_reducible repeat (first | apply Kd.R_alloc | apply Kd.R_drewN | apply Kd.R_drew)); exact HO249.out) (Kd.R_base ho0) hb); have n6_ := Aside0.mk (Kd.R_elder' (by (with_reducible repeat (first | apply Kd.R_alloc | apply Kd.R_drewN | apply Kd.R_drew)); exact HO252.out) (Kd.R_base ho0) hb); have n7_ := Aside0.mk (Kd.R_lower (Kd.R_new' (Kd.R_new' (Kd.R_new' (Kd.R_new' (Kd.R_new' (Kd.R_new' (Kd.R_new' ho0 (Kd.R_lt (by (with_reducible repeat (first | apply Kd.R_alloc | apply Kd.R_drewN | apply Kd.R_drew)); exact HO230.out))) (Kd.R_lt (by (with_reducible repeat (first | apply Kd.R_alloc | apply Kd.R_drewN | apply Kd.R_drew)); exact HO233.out))) (Kd.R_lt (by (with_reducible repeat (first | apply Kd.R_alloc | apply Kd.R_drewN | apply Kd.R_drew)); exact HO238.out))) (Kd.R_lt (by (with_reducible repeat (first | apply Kd.R_alloc | apply Kd.R_drewN | apply Kd.R_drew)); exact HO241.out))) (Kd.R_lt (by (with_reducible repeat (first | apply Kd.R_alloc | apply Kd.R_drewN | apply Kd.R_drew)); exact HO244.out))) (Kd.R_lt (by (with_reducible repeat (first | apply Kd.R_alloc | apply Kd.R_drewN | apply Kd.R_drew)); exact HO249.out))) (Kd.R_lt (by (with_reducible repeat (first | apply Kd.R_alloc | apply Kd.R_drewN | apply Kd.R_drew)); exact HO252.out))) (below_size (by repeat (first | (with_reducible first | exact HB.out | apply below_alloc | apply pw_below_drewN | apply below_drew1) | exact HB.out)))); have n8_ := Aside0.mk (below_step (by repeat (first | (with_reducible first | exact HB.out | apply below_alloc | apply pw_below_drewN | apply below_drew1) | exact HB.out)) hb); clear HO230; clear HO233; clear HO238; clear HO241; clear HO244; clear HO249; clear HO252; clear HB; have HO230 := n0_; have HO233 := n1_; have HO238 := n2_; have HO241 := n3_; have HO244 := n4_; have HO249 := n5_; have HO252 := n6_; have HO257 := n7_; have HB := n8_; clear n0_ n1_ n2_ n3_ n4_ n5_ n6_ n7_ n8_; (try clear hb); (try clear hb2); (try clear hk); (try clear hi); (try clear ho0)) | ((with_reducible refine gate_dst (N := 41) rfl ?_); (try (refine gate_guard (by rfl) ?_; dsimp only)); refine Kd.R_lit (Kd.int .u64) _ 23 ?hg (N := 41) ?hd (xs := ([0] : List Int)) (inner := [.int .u64 0]) (ok := fun _ => True) (okp := fun _ => True) ?hr ?hp (fun _ hk => hk) trivial (Below.refl _ _) (Nat.le_refl _) (by simp) ?_; (case hd => rfl); (case hg => rfl); (case hr => first | (go_simp; done) | (go_simp; rfl)); (case hp => exact (Reps.one (show Kd.M (Kd.int .u64) _ _ _ 0 [.int .u64 0] from rfl) (Reps.none _ _))); intro v259 w49 ho50 hb hg_ hnew_; clear hg_ hnew_; (first | rw [← Ny258.out] at ho50 | (simp only [Int.reduceToNat] at ho50; rw [← Ny258.out] at ho50)); have n0_ := Aside0.mk (Kd.R_elder' (by (with_reducible repeat (first | apply Kd.R_alloc | apply Kd.R_drewN | apply Kd.R_drew)); exact HO230.out) (Kd.R_base ho50) hb); have n1_ := Aside0.mk (Kd.R_elder' (by (with_reducible repeat (first | apply Kd.R_alloc | apply Kd.R_drewN | apply Kd.R_drew)); exact HO233.out) (Kd.R_base ho50) hb); have n2_ := Aside0.mk (Kd.R_elder' (by (with_reducible repeat (first | apply Kd.R_alloc | apply Kd.R_drewN | apply Kd.R_drew)); exact HO238.out) (Kd.R_base ho50) hb); have n3_ := Aside0.mk (Kd.R_elder' (by (with_reducible repeat (first | apply Kd.R_alloc | apply Kd.R_drewN | apply Kd.R_drew)); exact HO241.out) (Kd.R_base ho50) hb); have n4_ := Aside0.mk (Kd.R_elder' (by (with_reducible repeat (first | apply Kd.R_alloc | apply Kd.R_drewN | apply Kd.R_drew)); exact HO244.out) (Kd.R_base ho50) hb); have n5_ := Aside0.mk (Kd.R_elder' (by (with_reducible repeat (first | apply Kd.R_alloc | apply Kd.R_drewN | apply Kd.R_drew)); exact HO249.out) (Kd.R_base ho50) hb); have n6_ := Aside0.mk (Kd.R_elder' (by (with_reducible repeat (first | apply Kd.R_alloc | apply Kd.R_drewN | apply Kd.R_drew)); exact HO252.out) (Kd.R_base ho50) hb); have n7_ := Aside0.mk (Kd.R_elder' (by (with_reducible repeat (first | apply Kd.R_alloc | apply Kd.R_drewN | apply Kd.R_drew)); exact HO257.out) (Kd.R_base ho50) hb); have n8_ := Aside0.mk (Kd.R_lower (Kd.R_new' (Kd.R_new' (Kd.R_new' (Kd.R_new' (Kd.R_new' (Kd.R_new' (Kd.R_new' (Kd.R_new' ho50 (Kd.R_lt (by (with_reducible repeat (first | apply Kd.R_alloc | apply Kd.R_drewN | apply Kd.R_drew)); exact HO230.out))) (Kd.R_lt (by (with_reducible repeat (first | apply Kd.R_alloc | apply Kd.R_drewN | apply Kd.R_drew)); exact HO233.out))) (Kd.R_lt (by (with_reducible repeat (first | apply Kd.R_alloc | apply Kd.R_drewN | apply Kd.R_drew)); exact HO238.out))) (Kd.R_lt (by (with_reducible repeat (first | apply Kd.R_alloc | apply Kd.R_drewN | apply Kd.R_drew)); exact HO241.out))) (Kd.R_lt (by (with_reducible repeat (first | apply Kd.R_alloc | apply Kd.R_drewN | apply Kd.R_drew)); exact HO244.out))) (Kd.R_lt (by (with_reducible repeat (first | apply Kd.R_alloc | apply Kd.R_drewN | apply Kd.R_drew)); exact HO249.out))) (Kd.R_lt (by (with_reducible repeat (first | apply Kd.R_alloc | apply Kd.R_drewN | apply Kd.R_drew)); exact HO252.out))) (Kd.R_lt (by (with_reducible repeat (first | apply Kd.R_alloc | apply Kd.R_drewN | apply Kd.R_drew)); exact HO257.out))) (below_size (by repeat (first | (with_reducible first | exact HB.out | apply below_alloc | apply pw_below_drewN | apply below_drew1) | exact HB.out)))); have n9_ := Aside0.mk (below_step (by repeat (first | (with_reducible first | exact HB.out | apply below_alloc | apply pw_below_drewN | apply below_drew1) | exact HB.out)) hb); clear HO230; clear HO233; clear HO238; clear HO241; clear HO244; clear HO249; clear HO252; clear HO257; clear HB; have HO230 := n0_; have HO233 := n1_; have HO238 := n2_; have HO241 := n3_; have HO244 := n4_; have HO249 := n5_; have HO252 := n6_; have HO257 := n7_; have HO260 := n8_; have HB := n9_; clear n0_ n1_ n2_ n3_ n4_ n5_ n6_ n7_ n8_ n9_; clear hb ho50; obtain ⟨Ao51, co51, eo51⟩ := Kd.R_slice HO260.out; subst eo51) | ((with_reducible refine gate_callee (f := 20) rfl ?_); refine goesL_ (some 42) rfl rfl Tryd.func20 (by kernel_rfl) rfl #[.slice Ao51 y258.length co51, .int .u64 3, .int .u64 1] rfl (by (try simp only [List.map_toArray, List.map_cons, List.map_nil]); first | done | rfl | (simp only [List.length_drop, List.length_take]; rfl)) ?_; (with_reducible refine (words_DivWord.calls _ _ y258 3 1 t261 t262 t263 _ ?side1 ?side2 A4.out).mono ?_); (case side1 => repeat (first | exact (Kd.R_reads' HO260.out).2.2 | (with_reducible refine Kd.C_alloc ?_ _) | (with_reducible refine Kd.C_drewN ?_ _) | (with_reducible refine Kd.C_drew ?_))); (case side2 => exact (Kd.R_reads' HO260.out).2.1); rintro e w52 ⟨v264, rfl, ho0, hb⟩; refine ⟨_, rfl, ?_⟩; have n0_ := Aside0.mk (Kd.R_elder' (by (with_reducible repeat (first | apply Kd.R_alloc | apply Kd.R_drewN | apply Kd.R_drew)); exact HO230.out) (Kd.R_base ho0) hb); have n1_ := Aside0.mk (Kd.R_elder' (by (with_reducible repeat (first | apply Kd.R_alloc | apply Kd.R_drewN | apply Kd.R_drew)); exact HO233.out) (Kd.R_base ho0) hb); have n2_ := Aside0.mk (Kd.R_elder' (by (with_reducible repeat (first | apply Kd.R_alloc | apply Kd.R_drewN | apply Kd.R_drew)); exact HO238.out) (Kd.R_base ho0) hb); have n3_ := Aside0.mk (Kd.R_elder' (by (with_reducible repeat (first | apply Kd.R_alloc | apply Kd.R_drewN | apply Kd.R_drew)); exact HO241.out) (Kd.R_base ho0) hb); have n4_ := Aside0.mk (Kd.R_elder' (by (with_reducible repeat (first | apply Kd.R_alloc | apply Kd.R_drewN | apply Kd.R_drew)); exact HO244.out) (Kd.R_base ho0) hb); have n5_ := Aside0.mk (Kd.R_elder' (by (with_reducible repeat (first | apply Kd.R_alloc | apply Kd.R_drewN | apply Kd.R_drew)); exact HO249.out) (Kd.R_base ho0) hb); have n6_ := Aside0.mk (Kd.R_elder' (by (with_reducible repeat (first | apply Kd.R_alloc | apply Kd.R_drewN | apply Kd.R_drew)); exact HO252.out) (Kd.R_base ho0) hb); have n7_ := Aside0.mk (Kd.R_elder' (by (with_reducible repeat (first | apply Kd.R_alloc | apply Kd.R_drewN | apply Kd.R_drew)); exact HO257.out) (Kd.R_base ho0) hb); have n8_ := Aside0.mk (Kd.R_elder' (by (with_reducible repeat (first | apply Kd.R_alloc | apply Kd.R_drewN | apply Kd.R_drew)); exact HO260.out) (Kd.R_base ho0) hb); have n9_ := Aside0.mk (Kd.R_lower (Kd.R_new' (Kd.R_new' (Kd.R_new' (Kd.R_new' (Kd.R_new' (Kd.R_new' (Kd.R_new' (Kd.R_new' (Kd.R_new' ho0 (Kd.R_lt (by (with_reducible repeat (first | apply Kd.R_alloc | apply Kd.R_drewN | apply Kd.R_drew)); exact HO230.out))) (Kd.R_lt (by (with_reducible repeat (first | apply Kd.R_alloc | apply Kd.R_drewN | apply Kd.R_drew)); exact HO233.out))) (Kd.R_lt (by (with_reducible repeat (first | apply Kd.R_alloc | apply Kd.R_drewN | apply Kd.R_drew)); exact HO238.out))) (Kd.R_lt (by (with_reducible repeat (first | apply Kd.R_alloc | apply Kd.R_drewN | apply Kd.R_drew)); exact HO241.out))) (Kd.R_lt (by (with_reducible repeat (first | apply Kd.R_alloc | apply Kd.R_drewN | apply Kd.R_drew)); exact HO244.out))) (Kd.R_lt (by (with_reducible repeat (first | apply Kd.R_alloc | apply Kd.R_drewN | apply Kd.R_drew)); exact HO249.out))) (Kd.R_lt (by (with_reducible repeat (first | apply Kd.R_alloc | apply Kd.R_drewN | apply Kd.R_drew)); exact HO252.out))) (Kd.R_lt (by (with_reducible repeat (first | apply Kd.R_alloc | apply Kd.R_drewN | apply Kd.R_drew)); exact HO257.out))) (Kd.R_lt (by (with_reducible repeat (first | apply Kd.R_alloc | apply Kd.R_drewN | apply Kd.R_drew)); exact HO260.out))) (below_size (by repeat (first | (with_reducible first | exact HB.out | apply below_alloc | apply pw_below_drewN | apply below_drew1) | exact HB.out)))); have n10_ := Aside0.mk (below_step (by repeat (first | (with_reducible first | exact HB.out | apply below_alloc | apply pw_below_drewN | apply below_drew1) | exact HB.out)) hb); clear HO230; clear HO233; clear HO238; clear HO241; clear HO244; clear HO249; clear HO252; clear HO257; clear HO260; clear HB; have HO230 := n0_; have HO233 := n1_; have HO238 := n2_; have HO241 := n3_; have HO244 := n4_; have HO249 := n5_; have HO252 := n6_; have HO257 := n7_; have HO260 := n8_; have HO265 := n9_; have HB := n10_; clear n0_ n1_ n2_ n3_ n4_ n5_ n6_ n7_ n8_ n9_ n10_; (try clear hb); (try clear hb2); (try clear hk); (try clear hi); (try clear ho0)) | ((with_reducible refine gate_dst (N := 47) rfl ?_); (try (refine gate_guard (by rfl) ?_; dsimp only)); refine Kd.R_lit (Kd.int .u64) _ 23 ?hg (N := 47) ?hd (xs := ([3] : List Int)) (inner := [.int .u64 3]) (ok := fun _ => True) (okp := fun _ => True) ?hr ?hp (fun _ hk => hk) trivial (Below.refl _ _) (Nat.le_refl _) (by simp) ?_; (case hd => rfl); (case hg => rfl); (case hr => first | (go_simp; done) | (go_simp; rfl)); (case hp => exact (Reps.one (show Kd.M (Kd.int .u64) _ _ _ 3 [.int .u64 3] from rfl) (Reps.none _ _))); intro v267 w53 ho54 hb hg_ hnew_; clear hg_ hnew_; (first | rw [← Ny266.out] at ho54 | (simp only [Int.reduceToNat] at ho54; rw [← Ny266.out] at ho54)); have n0_ := Aside0.mk (Kd.R_elder' (by (with_reducible repeat (first | apply Kd.R_alloc | apply Kd.R_drewN | apply Kd.R_drew)); exact HO230.out) (Kd.R_base ho54) hb); have n1_ := Aside0.mk (Kd.R_elder' (by (with_reducible repeat (first | apply Kd.R_alloc | apply Kd.R_drewN | apply Kd.R_drew)); exact HO233.out) (Kd.R_base ho54) hb); have n2_ := Aside0.mk (Kd.R_elder' (by (with_reducible repeat (first | apply Kd.R_alloc | apply Kd.R_drewN | apply Kd.R_drew)); exact HO238.out) (Kd.R_base ho54) hb); have n3_ := Aside0.mk (Kd.R_elder' (by (with_reducible repeat (first | apply Kd.R_alloc | apply Kd.R_drewN | apply Kd.R_drew)); exact HO241.out) (Kd.R_base ho54) hb); have n4_ := Aside0.mk (Kd.R_elder' (by (with_reducible repeat (first | apply Kd.R_alloc | apply Kd.R_drewN | apply Kd.R_drew)); exact HO244.out) (Kd.R_base ho54) hb); have n5_ := Aside0.mk (Kd.R_elder' (by (with_reducible repeat (first | apply Kd.R_alloc | apply Kd.R_drewN | apply Kd.R_drew)); exact HO249.out) (Kd.R_base ho54) hb); have n6_ := Aside0.mk (Kd.R_elder' (by (with_reducible repeat (first | apply Kd.R_alloc | apply Kd.R_drewN | apply Kd.R_drew)); exact HO252.out) (Kd.R_base ho54) hb); have n7_ := Aside0.mk (Kd.R_elder' (by (with_reducible repeat (first | apply Kd.R_alloc | apply Kd.R_drewN | apply Kd.R_drew)); exact HO257.out) (Kd.R_base ho54) hb); have n8_ := Aside0.mk (Kd.R_elder' (by (with_reducible repeat (first | apply Kd.R_alloc | apply Kd.R_drewN | apply Kd.R_drew)); exact HO260.out) (Kd.R_base ho54) hb); have n9_ := Aside0.mk (Kd.R_elder' (by (with_reducible repeat (first | apply Kd.R_alloc | apply Kd.R_drewN | apply Kd.R_drew)); exact HO265.out) (Kd.R_base ho54) hb); have n10_ := Aside0.mk (Kd.R_lower (Kd.R_new' (Kd.R_new' (Kd.R_new' (Kd.R_new' (Kd.R_new' (Kd.R_new' (Kd.R_new' (Kd.R_new' (Kd.R_new' (Kd.R_new' ho54 (Kd.R_lt (by (with_reducible repeat (first | apply Kd.R_alloc | apply Kd.R_drewN | apply Kd.R_drew)); exact HO230.out))) (Kd.R_lt (by (with_reducible repeat (first | apply Kd.R_alloc | apply Kd.R_drewN | apply Kd.R_drew)); exact HO233.out))) (Kd.R_lt (by (with_reducible repeat (first | apply Kd.R_alloc | apply Kd.R_drewN | apply Kd.R_drew)); exact HO238.out))) (Kd.R_lt (by (with_reducible repeat (first | apply Kd.R_alloc | apply Kd.R_drewN | apply Kd.R_drew)); exact HO241.out))) (Kd.R_lt (by (with_reducible repeat (first | apply Kd.R_alloc | apply Kd.R_drewN | apply Kd.R_drew)); exact HO244.out))) (Kd.R_lt (by (with_reducible repeat (first | apply Kd.R_alloc | apply Kd.R_drewN | apply Kd.R_drew)); exact HO249.out))) (Kd.R_lt (by (with_reducible repeat (first | apply Kd.R_alloc | apply Kd.R_drewN | apply Kd.R_drew)); exact HO252.out))) (Kd.R_lt (by (with_reducible repeat (first | apply Kd.R_alloc | apply Kd.R_drewN | apply Kd.R_drew)); exact HO257.out))) (Kd.R_lt (by (with_reducible repeat (first | apply Kd.R_alloc | apply Kd.R_drewN | apply Kd.R_drew)); exact HO260.out))) (Kd.R_lt (by (with_reducible repeat (first | apply Kd.R_alloc | apply Kd.R_drewN | apply Kd.R_drew)); exact HO265.out))) (below_size (by repeat (first | (with_reducible first | exact HB.out | apply below_alloc | apply pw_below_drewN | apply below_drew1) | exact HB.out)))); have n11_ := Aside0.mk (below_step (by repeat (first | (with_reducible first | exact HB.out | apply below_alloc | apply pw_below_drewN | apply below_drew1) | exact HB.out)) hb); clear HO230; clear HO233; clear HO238; clear HO241; clear HO244; clear HO249; clear HO252; clear HO257; clear HO260; clear HO265; clear HB; have HO230 := n0_; have HO233 := n1_; have HO238 := n2_; have HO241 := n3_; have HO244 := n4_; have HO249 := n5_; have HO252 := n6_; have HO257 := n7_; have HO260 := n8_; have HO265 := n9_; have HO268 := n10_; have HB := n11_; clear n0_ n1_ n2_ n3_ n4_ n5_ n6_ n7_ n8_ n9_ n10_ n11_; clear hb ho54; obtain ⟨Ao55, co55, eo55⟩ := Kd.R_slice HO268.out; subst eo55) | ((with_reducible refine gate_callee (f := 25) rfl ?_); refine goesL_ (some 48) rfl rfl Tryd.func25 (by kernel_rfl) rfl #[.slice Ao55 y266.length co55, .int .i64 1] rfl (by (try simp only [List.map_toArray, List.map_cons, List.map_nil]); first | done | rfl | (simp only [List.length_drop, List.length_take]; rfl)) ?_; (with_reducible refine (words_Right.calls _ _ y266 1 t269 t270 t271 _ ?side1 ?side2 A5.out).mono ?_); (case side1 => repeat (first | exact (Kd.R_reads' HO268.out).2.2 | (with_reducible refine Kd.C_alloc ?_ _) | (with_reducible refine Kd.C_drewN ?_ _) | (with_reducible refine Kd.C_drew ?_))); (case side2 => exact (Kd.R_reads' HO268.out).2.1); rintro e w56 ⟨v272, rfl, ho0, hb⟩; refine ⟨_, rfl, ?_⟩; have n0_ := Aside0.mk (Kd.R_elder' (by (with_reducible repeat (first | apply Kd.R_alloc | apply Kd.R_drewN | apply Kd.R_drew)); exact HO230.out) (Kd.R_base ho0) hb); have n1_ := Aside0.mk (Kd.R_elder' (by (with_reducible repeat (first | apply Kd.R_alloc | apply Kd.R_drewN | apply Kd.R_drew)); exact HO233.out) (Kd.R_base ho0) hb); have n2_ := Aside0.mk (Kd.R_elder' (by (with_reducible repeat (first | apply Kd.R_alloc | apply Kd.R_drewN | apply Kd.R_drew)); exact HO238.out) (Kd.R_base ho0) hb); have n3_ := Aside0.mk (Kd.R_elder' (by (with_reducible repeat (first | apply Kd.R_alloc | apply Kd.R_drewN | apply Kd.R_drew)); exact HO241.out) (Kd.R_base ho0) hb); have n4_ := Aside0.mk (Kd.R_elder' (by (with_reducible repeat (first | apply Kd.R_alloc | apply Kd.R_drewN | apply Kd.R_drew)); exact HO244.out) (Kd.R_base ho0) hb); have n5_ := Aside0.mk (Kd.R_elder' (by (with_reducible repeat (first | apply Kd.R_alloc | apply Kd.R_drewN | apply Kd.R_drew)); exact HO249.out) (Kd.R_base ho0) hb); have n6_ := Aside0.mk (Kd.R_elder' (by (with_reducible repeat (first | apply Kd.R_alloc | apply Kd.R_drewN | apply Kd.R_drew)); exact HO252.out) (Kd.R_base ho0) hb); have n7_ := Aside0.mk (Kd.R_elder' (by (with_reducible repeat (first | apply Kd.R_alloc | apply Kd.R_drewN | apply Kd.R_drew)); exact HO257.out) (Kd.R_base ho0) hb); have n8_ := Aside0.mk (Kd.R_elder' (by (with_reducible repeat (first | apply Kd.R_alloc | apply Kd.R_drewN | apply Kd.R_drew)); exact HO260.out) (Kd.R_base ho0) hb); have n9_ := Aside0.mk (Kd.R_elder' (by (with_reducible repeat (first | apply Kd.R_alloc | apply Kd.R_drewN | apply Kd.R_drew)); exact HO265.out) (Kd.R_base ho0) hb); have n10_ := Aside0.mk (Kd.R_elder' (by (with_reducible repeat (first | apply Kd.R_alloc | apply Kd.R_drewN | apply Kd.R_drew)); exact HO268.out) (Kd.R_base ho0) hb); have n11_ := Aside0.mk (Kd.R_lower (Kd.R_new' (Kd.R_new' (Kd.R_new' (Kd.R_new' (Kd.R_new' (Kd.R_new' (Kd.R_new' (Kd.R_new' (Kd.R_new' (Kd.R_new' (Kd.R_new' ho0 (Kd.R_lt (by (with_reducible repeat (first | apply Kd.R_alloc | apply Kd.R_drewN | apply Kd.R_drew)); exact HO230.out))) (Kd.R_lt (by (with_reducible repeat (first | apply Kd.R_alloc | apply Kd.R_drewN | apply Kd.R_drew)); exact HO233.out))) (Kd.R_lt (by (with_reducible repeat (first | apply Kd.R_alloc | apply Kd.R_drewN | apply Kd.R_drew)); exact HO238.out))) (Kd.R_lt (by (with_reducible repeat (first | apply Kd.R_alloc | apply Kd.R_drewN | apply Kd.R_drew)); exact HO241.out))) (Kd.R_lt (by (with_reducible repeat (first | apply Kd.R_alloc | apply Kd.R_drewN | apply Kd.R_drew)); exact HO244.out))) (Kd.R_lt (by (with_reducible repeat (first | apply Kd.R_alloc | apply Kd.R_drewN | apply Kd.R_drew)); exact HO249.out))) (Kd.R_lt (by (with_reducible repeat (first | apply Kd.R_alloc | apply Kd.R_drewN | apply Kd.R_drew)); exact HO252.out))) (Kd.R_lt (by (with_reducible repeat (first | apply Kd.R_alloc | apply Kd.R_drewN | apply Kd.R_drew)); exact HO257.out))) (Kd.R_lt (by (with_reducible repeat (first | apply Kd.R_alloc | apply Kd.R_drewN | apply Kd.R_drew)); exact HO260.out))) (Kd.R_lt (by (with_reducible repeat (first | apply Kd.R_alloc | apply Kd.R_drewN | apply Kd.R_drew)); exact HO265.out))) (Kd.R_lt (by (with_reducible repeat (first | apply Kd.R_alloc | apply Kd.R_drewN | apply Kd.R_drew)); exact HO268.out))) (below_size (by repeat (first | (with_reducible first | exact HB.out | apply below_alloc | apply pw_below_drewN | apply below_drew1) | exact HB.out)))); have n12_ := Aside0.mk (below_step (by repeat (first | (with_reducible first | exact HB.out | apply below_alloc | apply pw_below_drewN | apply below_drew1) | exact HB.out)) hb); clear HO230; clear HO233; clear HO238; clear HO241; clear HO244; clear HO249; clear HO252; clear HO257; clear HO260; clear HO265; clear HO268; clear HB; have HO230 := n0_; have HO233 := n1_; have HO238 := n2_; have HO241 := n3_; have HO244 := n4_; have HO249 := n5_; have HO252 := n6_; have HO257 := n7_; have HO260 := n8_; have HO265 := n9_; have HO268 := n10_; have HO273 := n11_; have HB := n12_; clear n0_ n1_ n2_ n3_ n4_ n5_ n6_ n7_ n8_ n9_ n10_ n11_ n12_; (try clear hb); (try clear hb2); (try clear hk); (try clear hi); (try clear ho0)) | ((with_reducible refine gate_callee (f := 34) rfl ?_); refine goesL_ (some 53) rfl rfl Tryd.func34 (by kernel_rfl) rfl #[.int .u64 3] rfl (by (try simp only [List.map_toArray, List.map_cons, List.map_nil]); first | done | rfl | (simp only [List.length_drop, List.length_take]; rfl)) ?_; (with_reducible refine (words_Inverse.calls 3 t274 t275 _ (Laid.below HLd.out (by repeat (first | (with_reducible first | exact HB.out | apply below_alloc | apply pw_below_drewN | apply below_drew1) | exact HB.out))) A6.out).mono ?_); rintro e w' ⟨rfl, ⟨nd, rfl⟩⟩; refine ⟨_, rfl, ?_⟩) | ((with_reducible refine gate_callee (f := 36) rfl ?_); refine goesL_ (some 57) rfl rfl Tryd.func36 (by kernel_rfl) rfl #[.int .u64 9223372036854775808] rfl (by (try simp only [List.map_toArray, List.map_cons, List.map_nil]); first | done | rfl | (simp only [List.length_drop, List.length_take]; rfl)) ?_; (with_reducible refine (words_Reciprocal.calls 9223372036854775808 t276 t277 _ A7.out).mono ?_); rintro e w' ⟨rfl, ⟨nd, rfl⟩⟩; refine ⟨_, rfl, ?_⟩) | ((with_reducible refine gate_dst (N := 64) rfl ?_); (try (refine gate_guard (by rfl) ?_; dsimp only)); refine Kd.R_lit (Kd.int .u64) _ 23 ?hg (N := 64) ?hd (xs := ([0] : List Int)) (inner := [.int .u64 0]) (ok := fun _ => True) (okp := fun _ => True) ?hr ?hp (fun _ hk => hk) trivial (Below.refl _ _) (Nat.le_refl _) (by simp) ?_; (case hd => rfl); (case hg => rfl); (case hr => first | (go_simp; done) | (go_simp; rfl)); (case hp => exact (Reps.one (show Kd.M (Kd.int .u64) _ _ _ 0 [.int .u64 0] from rfl) (Reps.none _ _))); intro v279 w57 ho58 hb hg_ hnew_; clear hg_ hnew_; (first | rw [← Ny278.out] at ho58 | (simp only [Int.reduceToNat] at ho58; rw [← Ny278.out] at ho58)); have n0_ := Aside0.mk (Kd.R_elder' (by (with_reducible repeat (first | apply Kd.R_alloc | apply Kd.R_drewN | apply Kd.R_drew)); exact HO230.out) (Kd.R_base ho58) hb); have n1_ := Aside0.mk (Kd.R_elder' (by (with_reducible repeat (first | apply Kd.R_alloc | apply Kd.R_drewN | apply Kd.R_drew)); exact HO233.out) (Kd.R_base ho58) hb); have n2_ := Aside0.mk (Kd.R_elder' (by (with_reducible repeat (first | apply Kd.R_alloc | apply Kd.R_drewN | apply Kd.R_drew)); exact HO238.out) (Kd.R_base ho58) hb); have n3_ := Aside0.mk (Kd.R_elder' (by (with_reducible repeat (first | apply Kd.R_alloc | apply Kd.R_drewN | apply Kd.R_drew)); exact HO241.out) (Kd.R_base ho58) hb); have n4_ := Aside0.mk (Kd.R_elder' (by (with_reducible repeat (first | apply Kd.R_alloc | apply Kd.R_drewN | apply Kd.R_drew)); exact HO244.out) (Kd.R_base ho58) hb); have n5_ := Aside0.mk (Kd.R_elder' (by (with_reducible repeat (first | apply Kd.R_alloc | apply Kd.R_drewN | apply Kd.R_drew)); exact HO249.out) (Kd.R_base ho58) hb); have n6_ := Aside0.mk (Kd.R_elder' (by (with_reducible repeat (first | apply Kd.R_alloc | apply Kd.R_drewN | apply Kd.R_drew)); exact HO252.out) (Kd.R_base ho58) hb); have n7_ := Aside0.mk (Kd.R_elder' (by (with_reducible repeat (first | apply Kd.R_alloc | apply Kd.R_drewN | apply Kd.R_drew)); exact HO257.out) (Kd.R_base ho58) hb); have n8_ := Aside0.mk (Kd.R_elder' (by (with_reducible repeat (first | apply Kd.R_alloc | apply Kd.R_drewN | apply Kd.R_drew)); exact HO260.out) (Kd.R_base ho58) hb); have n9_ := Aside0.mk (Kd.R_elder' (by (with_reducible repeat (first | apply Kd.R_alloc | apply Kd.R_drewN | apply Kd.R_drew)); exact HO265.out) (Kd.R_base ho58) hb); have n10_ := Aside0.mk (Kd.R_elder' (by (with_reducible repeat (first | apply Kd.R_alloc | apply Kd.R_drewN | apply Kd.R_drew)); exact HO268.out) (Kd.R_base ho58) hb); have n11_ := Aside0.mk (Kd.R_elder' (by (with_reducible repeat (first | apply Kd.R_alloc | apply Kd.R_drewN | apply Kd.R_drew)); exact HO273.out) (Kd.R_base ho58) hb); have n12_ := Aside0.mk (Kd.R_lower (Kd.R_new' (Kd.R_new' (Kd.R_new' (Kd.R_new' (Kd.R_new' (Kd.R_new' (Kd.R_new' (Kd.R_new' (Kd.R_new' (Kd.R_new' (Kd.R_new' (Kd.R_new' ho58 (Kd.R_lt (by (with_reducible repeat (first | apply Kd.R_alloc | apply Kd.R_drewN | apply Kd.R_drew)); exact HO230.out))) (Kd.R_lt (by (with_reducible repeat (first | apply Kd.R_alloc | apply Kd.R_drewN | apply Kd.R_drew)); exact HO233.out))) (Kd.R_lt (by (with_reducible repeat (first | apply Kd.R_alloc | apply Kd.R_drewN | apply Kd.R_drew)); exact HO238.out))) (Kd.R_lt (by (with_reducible repeat (first | apply Kd.R_alloc | apply Kd.R_drewN | apply Kd.R_drew)); exact HO241.out))) (Kd.R_lt (by (with_reducible repeat (first | apply Kd.R_alloc | apply Kd.R_drewN | apply Kd.R_drew)); exact HO244.out))) (Kd.R_lt (by (with_reducible repeat (first | apply Kd.R_alloc | apply Kd.R_drewN | apply Kd.R_drew)); exact HO249.out))) (Kd.R_lt (by (with_reducible repeat (first | apply Kd.R_alloc | apply Kd.R_drewN | apply Kd.R_drew)); exact HO252.out))) (Kd.R_lt (by (with_reducible repeat (first | apply Kd.R_alloc | apply Kd.R_drewN | apply Kd.R_drew)); exact HO257.out))) (Kd.R_lt (by (with_reducible repeat (first | apply Kd.R_alloc | apply Kd.R_drewN | apply Kd.R_drew)); exact HO260.out))) (Kd.R_lt (by (with_reducible repeat (first | apply Kd.R_alloc | apply Kd.R_drewN | apply Kd.R_drew)); exact HO265.out))) (Kd.R_lt (by (with_reducible repeat (first | apply Kd.R_alloc | apply Kd.R_drewN | apply Kd.R_drew)); exact HO268.out))) (Kd.R_lt (by (with_reducible repeat (first | apply Kd.R_alloc | apply Kd.R_drewN | apply Kd.R_drew)); exact HO273.out))) (below_size (by repeat (first | (with_reducible first | exact HB.out | apply below_alloc | apply pw_below_drewN | apply below_drew1) | exact HB.out)))); have n13_ := Aside0.mk (below_step (by repeat (first | (with_reducible first | exact HB.out | apply below_alloc | apply pw_below_drewN | apply below_drew1) | exact HB.out)) hb); clear HO230; clear HO233; clear HO238; clear HO241; clear HO244; clear HO249; clear HO252; clear HO257; clear HO260; clear HO265; clear HO268; clear HO273; clear HB; have HO230 := n0_; have HO233 := n1_; have HO238 := n2_; have HO241 := n3_; have HO244 := n4_; have HO249 := n5_; have HO252 := n6_; have HO257 := n7_; have HO260 := n8_; have HO265 := n9_; have HO268 := n10_; have HO273 := n11_; have HO280 := n12_; have HB := n13_; clear n0_ n1_ n2_ n3_ n4_ n5_ n6_ n7_ n8_ n9_ n10_ n11_ n12_ n13_; clear hb ho58; obtain ⟨Ao59, co59, eo59⟩ := Kd.R_slice HO238.out; subst eo59; obtain ⟨Ao60, co60, eo60⟩ := Kd.R_slice HO280.out; subst eo60) | (go_at_call 17; (with_reducible refine (reckonerlaw01_same.calls k _ _ t234 _ _ y278 true _ ?side1 ?side2 ?side3 ?side4 A9.out).mono ?_); (case side1 => repeat (first | exact (Kd.R_reads' HO238.out).2.2 | (with_reducible refine Kd.C_alloc ?_ _) | (with_reducible refine Kd.C_drewN ?_ _) | (with_reducible refine Kd.C_drew ?_))); (case side2 => exact (Kd.R_reads' HO238.out).2.1); (case side3 => repeat (first | exact (Kd.R_reads' HO280.out).2.2 | (with_reducible refine Kd.C_alloc ?_ _) | (with_reducible refine Kd.C_drewN ?_ _) | (with_reducible refine Kd.C_drew ?_))); (case side4 => exact (Kd.R_reads' HO280.out).2.1); rintro e w' ⟨rfl, ⟨nd, rfl⟩⟩) | ((with_reducible refine gate_dst (N := 77) rfl ?_); (try (refine gate_guard (by rfl) ?_; dsimp only)); refine Kd.R_lit (Kd.int .u64) _ 23 ?hg (N := 77) ?hd (xs := ([18446744073709551615] : List Int)) (inner := [.int .u64 18446744073709551615]) (ok := fun _ => True) (okp := fun _ => True) ?hr ?hp (fun _ hk => hk) trivial (Below.refl _ _) (Nat.le_refl _) (by simp) ?_; (case hd => rfl); (case hg => rfl); (case hr => first | (go_simp; done) | (go_simp; rfl)); (case hp => exact (Reps.one (show Kd.M (Kd.int .u64) _ _ _ 18446744073709551615 [.int .u64 18446744073709551615] from rfl) (Reps.none _ _))); intro v283 w61 ho62 hb hg_ hnew_; clear hg_ hnew_; (first | rw [← Ny282.out] at ho62 | (simp only [Int.reduceToNat] at ho62; rw [← Ny282.out] at ho62)); have n0_ := Aside0.mk (Kd.R_elder' (by (with_reducible repeat (first | apply Kd.R_alloc | apply Kd.R_drewN | apply Kd.R_drew)); exact HO230.out) (Kd.R_base ho62) hb); have n1_ := Aside0.mk (Kd.R_elder' (by (with_reducible repeat (first | apply Kd.R_alloc | apply Kd.R_drewN | apply Kd.R_drew)); exact HO233.out) (Kd.R_base ho62) hb); have n2_ := Aside0.mk (Kd.R_elder' (by (with_reducible repeat (first | apply Kd.R_alloc | apply Kd.R_drewN | apply Kd.R_drew)); exact HO238.out) (Kd.R_base ho62) hb); have n3_ := Aside0.mk (Kd.R_elder' (by (with_reducible repeat (first | apply Kd.R_alloc | apply Kd.R_drewN | apply Kd.R_drew)); exact HO241.out) (Kd.R_base ho62) hb); have n4_ := Aside0.mk (Kd.R_elder' (by (with_reducible repeat (first | apply Kd.R_alloc | apply Kd.R_drewN | apply Kd.R_drew)); exact HO244.out) (Kd.R_base ho62) hb); have n5_ := Aside0.mk (Kd.R_elder' (by (with_reducible repeat (first | apply Kd.R_alloc | apply Kd.R_drewN | apply Kd.R_drew)); exact HO249.out) (Kd.R_base ho62) hb); have n6_ := Aside0.mk (Kd.R_elder' (by (with_reducible repeat (first | apply Kd.R_alloc | apply Kd.R_drewN | apply Kd.R_drew)); exact HO252.out) (Kd.R_base ho62) hb); have n7_ := Aside0.mk (Kd.R_elder' (by (with_reducible repeat (first | apply Kd.R_alloc | apply Kd.R_drewN | apply Kd.R_drew)); exact HO257.out) (Kd.R_base ho62) hb); have n8_ := Aside0.mk (Kd.R_elder' (by (with_reducible repeat (first | apply Kd.R_alloc | apply Kd.R_drewN | apply Kd.R_drew)); exact HO260.out) (Kd.R_base ho62) hb); have n9_ := Aside0.mk (Kd.R_elder' (by (with_reducible repeat (first | apply Kd.R_alloc | apply Kd.R_drewN | apply Kd.R_drew)); exact HO265.out) (Kd.R_base ho62) hb); have n10_ := Aside0.mk (Kd.R_elder' (by (with_reducible repeat (first | apply Kd.R_alloc | apply Kd.R_drewN | apply Kd.R_drew)); exact HO268.out) (Kd.R_base ho62) hb); have n11_ := Aside0.mk (Kd.R_elder' (by (with_reducible repeat (first | apply Kd.R_alloc | apply Kd.R_drewN | apply Kd.R_drew)); exact HO273.out) (Kd.R_base ho62) hb); have n12_ := Aside0.mk (Kd.R_elder' (by (with_reducible repeat (first | apply Kd.R_alloc | apply Kd.R_drewN | apply Kd.R_drew)); exact HO280.out) (Kd.R_base ho62) hb); have n13_ := Aside0.mk (Kd.R_lower (Kd.R_new' (Kd.R_new' (Kd.R_new' (Kd.R_new' (Kd.R_new' (Kd.R_new' (Kd.R_new' (Kd.R_new' (Kd.R_new' (Kd.R_new' (Kd.R_new' (Kd.R_new' (Kd.R_new' ho62 (Kd.R_lt (by (with_reducible repeat (first | apply Kd.R_alloc | apply Kd.R_drewN | apply Kd.R_drew)); exact HO230.out))) (Kd.R_lt (by (with_reducible repeat (first | apply Kd.R_alloc | apply Kd.R_drewN | apply Kd.R_drew)); exact HO233.out))) (Kd.R_lt (by (with_reducible repeat (first | apply Kd.R_alloc | apply Kd.R_drewN | apply Kd.R_drew)); exact HO238.out))) (Kd.R_lt (by (with_reducible repeat (first | apply Kd.R_alloc | apply Kd.R_drewN | apply Kd.R_drew)); exact HO241.out))) (Kd.R_lt (by (with_reducible repeat (first | apply Kd.R_alloc | apply Kd.R_drewN | apply Kd.R_drew)); exact HO244.out))) (Kd.R_lt (by (with_reducible repeat (first | apply Kd.R_alloc | apply Kd.R_drewN | apply Kd.R_drew)); exact HO249.out))) (Kd.R_lt (by (with_reducible repeat (first | apply Kd.R_alloc | apply Kd.R_drewN | apply Kd.R_drew)); exact HO252.out))) (Kd.R_lt (by (with_reducible repeat (first | apply Kd.R_alloc | apply Kd.R_drewN | apply Kd.R_drew)); exact HO257.out))) (Kd.R_lt (by (with_reducible repeat (first | apply Kd.R_alloc | apply Kd.R_drewN | apply Kd.R_drew)); exact HO260.out))) (Kd.R_lt (by (with_reducible repeat (first | apply Kd.R_alloc | apply Kd.R_drewN | apply Kd.R_drew)); exact HO265.out))) (Kd.R_lt (by (with_reducible repeat (first | apply Kd.R_alloc | apply Kd.R_drewN | apply Kd.R_drew)); exact HO268.out))) (Kd.R_lt (by (with_reducible repeat (first | apply Kd.R_alloc | apply Kd.R_drewN | apply Kd.R_drew)); exact HO273.out))) (Kd.R_lt (by (with_reducible repeat (first | apply Kd.R_alloc | apply Kd.R_drewN | apply Kd.R_drew)); exact HO280.out))) (below_size (by repeat (first | (with_reducible first | exact HB.out | apply below_alloc | apply pw_below_drewN | apply below_drew1) | exact HB.out)))); have n14_ := Aside0.mk (below_step (by repeat (first | (with_reducible first | exact HB.out | apply below_alloc | apply pw_below_drewN | apply below_drew1) | exact HB.out)) hb); clear HO230; clear HO233; clear HO238; clear HO241; clear HO244; clear HO249; clear HO252; clear HO257; clear HO260; clear HO265; clear HO268; clear HO273; clear HO280; clear HB; have HO230 := n0_; have HO233 := n1_; have HO238 := n2_; have HO241 := n3_; have HO244 := n4_; have HO249 := n5_; have HO252 := n6_; have HO257 := n7_; have HO260 := n8_; have HO265 := n9_; have HO268 := n10_; have HO273 := n11_; have HO280 := n12_; have HO284 := n13_; have HB := n14_; clear n0_ n1_ n2_ n3_ n4_ n5_ n6_ n7_ n8_ n9_ n10_ n11_ n12_ n13_ n14_; clear hb ho62; obtain ⟨Ao63, co63, eo63⟩ := Kd.R_slice HO249.out; subst eo63; obtain ⟨Ao64, co64, eo64⟩ := Kd.R_slice HO284.out; subst eo64) | (go_at_call 17; (with_reducible refine (reckonerlaw01_same.calls k _ _ t245 _ _ y282 true _ ?side1 ?side2 ?side3 ?side4 A13.out).mono ?_); (case side1 => repeat (first | exact (Kd.R_reads' HO249.out).2.2 | (with_reducible refine Kd.C_alloc ?_ _) | (with_reducible refine Kd.C_drewN ?_ _) | (with_reducible refine Kd.C_drew ?_))); (case side2 => exact (Kd.R_reads' HO249.out).2.1); (case side3 => repeat (first | exact (Kd.R_reads' HO284.out).2.2 | (with_reducible refine Kd.C_alloc ?_ _) | (with_reducible refine Kd.C_drewN ?_ _) | (with_reducible refine Kd.C_drew ?_))); (case side4 => exact (Kd.R_reads' HO284.out).2.1); rintro e w' ⟨rfl, ⟨nd, rfl⟩⟩) | ((with_reducible refine gate_dst (N := 90) rfl ?_); (try (refine gate_guard (by rfl) ?_; dsimp only)); refine Kd.R_lit (Kd.int .u64) _ 23 ?hg (N := 90) ?hd (xs := ([0] : List Int)) (inner := [.int .u64 0]) (ok := fun _ => True) (okp := fun _ => True) ?hr ?hp (fun _ hk => hk) trivial (Below.refl _ _) (Nat.le_refl _) (by simp) ?_; (case hd => rfl); (case hg => rfl); (case hr => first | (go_simp; done) | (go_simp; rfl)); (case hp => exact (Reps.one (show Kd.M (Kd.int .u64) _ _ _ 0 [.int .u64 0] from rfl) (Reps.none _ _))); intro v287 w65 ho66 hb hg_ hnew_; clear hg_ hnew_; (first | rw [← Ny286.out] at ho66 | (simp only [Int.reduceToNat] at ho66; rw [← Ny286.out] at ho66)); have n0_ := Aside0.mk (Kd.R_elder' (by (with_reducible repeat (first | apply Kd.R_alloc | apply Kd.R_drewN | apply Kd.R_drew)); exact HO230.out) (Kd.R_base ho66) hb); have n1_ := Aside0.mk (Kd.R_elder' (by (with_reducible repeat (first | apply Kd.R_alloc | apply Kd.R_drewN | apply Kd.R_drew)); exact HO233.out) (Kd.R_base ho66) hb); have n2_ := Aside0.mk (Kd.R_elder' (by (with_reducible repeat (first | apply Kd.R_alloc | apply Kd.R_drewN | apply Kd.R_drew)); exact HO238.out) (Kd.R_base ho66) hb); have n3_ := Aside0.mk (Kd.R_elder' (by (with_reducible repeat (first | apply Kd.R_alloc | apply Kd.R_drewN | apply Kd.R_drew)); exact HO241.out) (Kd.R_base ho66) hb); have n4_ := Aside0.mk (Kd.R_elder' (by (with_reducible repeat (first | apply Kd.R_alloc | apply Kd.R_drewN | apply Kd.R_drew)); exact HO244.out) (Kd.R_base ho66) hb); have n5_ := Aside0.mk (Kd.R_elder' (by (with_reducible repeat (first | apply Kd.R_alloc | apply Kd.R_drewN | apply Kd.R_drew)); exact HO249.out) (Kd.R_base ho66) hb); have n6_ := Aside0.mk (Kd.R_elder' (by (with_reducible repeat (first | apply Kd.R_alloc | apply Kd.R_drewN | apply Kd.R_drew)); exact HO252.out) (Kd.R_base ho66) hb); have n7_ := Aside0.mk (Kd.R_elder' (by (with_reducible repeat (first | apply Kd.R_alloc | apply Kd.R_drewN | apply Kd.R_drew)); exact HO257.out) (Kd.R_base ho66) hb); have n8_ := Aside0.mk (Kd.R_elder' (by (with_reducible repeat (first | apply Kd.R_alloc | apply Kd.R_drewN | apply Kd.R_drew)); exact HO260.out) (Kd.R_base ho66) hb); have n9_ := Aside0.mk (Kd.R_elder' (by (with_reducible repeat (first | apply Kd.R_alloc | apply Kd.R_drewN | apply Kd.R_drew)); exact HO265.out) (Kd.R_base ho66) hb); have n10_ := Aside0.mk (Kd.R_elder' (by (with_reducible repeat (first | apply Kd.R_alloc | apply Kd.R_drewN | apply Kd.R_drew)); exact HO268.out) (Kd.R_base ho66) hb); have n11_ := Aside0.mk (Kd.R_elder' (by (with_reducible repeat (first | apply Kd.R_alloc | apply Kd.R_drewN | apply Kd.R_drew)); exact HO273.out) (Kd.R_base ho66) hb); have n12_ := Aside0.mk (Kd.R_elder' (by (with_reducible repeat (first | apply Kd.R_alloc | apply Kd.R_drewN | apply Kd.R_drew)); exact HO280.out) (Kd.R_base ho66) hb); have n13_ := Aside0.mk (Kd.R_elder' (by (with_reducible repeat (first | apply Kd.R_alloc | apply Kd.R_drewN | apply Kd.R_drew)); exact HO284.out) (Kd.R_base ho66) hb); have n14_ := Aside0.mk (Kd.R_lower (Kd.R_new' (Kd.R_new' (Kd.R_new' (Kd.R_new' (Kd.R_new' (Kd.R_new' (Kd.R_new' (Kd.R_new' (Kd.R_new' (Kd.R_new' (Kd.R_new' (Kd.R_new' (Kd.R_new' (Kd.R_new' ho66 (Kd.R_lt (by (with_reducible repeat (first | apply Kd.R_alloc | apply Kd.R_drewN | apply Kd.R_drew)); exact HO230.out))) (Kd.R_lt (by (with_reducible repeat (first | apply Kd.R_alloc | apply Kd.R_drewN | apply Kd.R_drew)); exact HO233.out))) (Kd.R_lt (by (with_reducible repeat (first | apply Kd.R_alloc | apply Kd.R_drewN | apply Kd.R_drew)); exact HO238.out))) (Kd.R_lt (by (with_reducible repeat (first | apply Kd.R_alloc | apply Kd.R_drewN | apply Kd.R_drew)); exact HO241.out))) (Kd.R_lt (by (with_reducible repeat (first | apply Kd.R_alloc | apply Kd.R_drewN | apply Kd.R_drew)); exact HO244.out))) (Kd.R_lt (by (with_reducible repeat (first | apply Kd.R_alloc | apply Kd.R_drewN | apply Kd.R_drew)); exact HO249.out))) (Kd.R_lt (by (with_reducible repeat (first | apply Kd.R_alloc | apply Kd.R_drewN | apply Kd.R_drew)); exact HO252.out))) (Kd.R_lt (by (with_reducible repeat (first | apply Kd.R_alloc | apply Kd.R_drewN | apply Kd.R_drew)); exact HO257.out))) (Kd.R_lt (by (with_reducible repeat (first | apply Kd.R_alloc | apply Kd.R_drewN | apply Kd.R_drew)); exact HO260.out))) (Kd.R_lt (by (with_reducible repeat (first | apply Kd.R_alloc | apply Kd.R_drewN | apply Kd.R_drew)); exact HO265.out))) (Kd.R_lt (by (with_reducible repeat (first | apply Kd.R_alloc | apply Kd.R_drewN | apply Kd.R_drew)); exact HO268.out))) (Kd.R_lt (by (with_reducible repeat (first | apply Kd.R_alloc | apply Kd.R_drewN | apply Kd.R_drew)); exact HO273.out))) (Kd.R_lt (by (with_reducible repeat (first | apply Kd.R_alloc | apply Kd.R_drewN | apply Kd.R_drew)); exact HO280.out))) (Kd.R_lt (by (with_reducible repeat (first | apply Kd.R_alloc | apply Kd.R_drewN | apply Kd.R_drew)); exact HO284.out))) (below_size (by repeat (first | (with_reducible first | exact HB.out | apply below_alloc | apply pw_below_drewN | apply below_drew1) | exact HB.out)))); have n15_ := Aside0.mk (below_step (by repeat (first | (with_reducible first | exact HB.out | apply below_alloc | apply pw_below_drewN | apply below_drew1) | exact HB.out)) hb); clear HO230; clear HO233; clear HO238; clear HO241; clear HO244; clear HO249; clear HO252; clear HO257; clear HO260; clear HO265; clear HO268; clear HO273; clear HO280; clear HO284; clear HB; have HO230 := n0_; have HO233 := n1_; have HO238 := n2_; have HO241 := n3_; have HO244 := n4_; have HO249 := n5_; have HO252 := n6_; have HO257 := n7_; have HO260 := n8_; have HO265 := n9_; have HO268 := n10_; have HO273 := n11_; have HO280 := n12_; have HO284 := n13_; have HO288 := n14_; have HB := n15_; clear n0_ n1_ n2_ n3_ n4_ n5_ n6_ n7_ n8_ n9_ n10_ n11_ n12_ n13_ n14_ n15_; clear hb ho66; obtain ⟨Ao67, co67, eo67⟩ := Kd.R_slice HO257.out; subst eo67; obtain ⟨Ao68, co68, eo68⟩ := Kd.R_slice HO288.out; subst eo68) | (go_at_call 17; (with_reducible refine (reckonerlaw01_same.calls k _ _ t253 _ _ y286 true _ ?side1 ?side2 ?side3 ?side4 A17.out).mono ?_); (case side1 => repeat (first | exact (Kd.R_reads' HO257.out).2.2 | (with_reducible refine Kd.C_alloc ?_ _) | (with_reducible refine Kd.C_drewN ?_ _) | (with_reducible refine Kd.C_drew ?_))); (case side2 => exact (Kd.R_reads' HO257.out).2.1); (case side3 => repeat (first | exact (Kd.R_reads' HO288.out).2.2 | (with_reducible refine Kd.C_alloc ?_ _) | (with_reducible refine Kd.C_drewN ?_ _) | (with_reducible refine Kd.C_drew ?_))); (case side4 => exact (Kd.R_reads' HO288.out).2.1); rintro e w' ⟨rfl, ⟨nd, rfl⟩⟩) | ((with_reducible refine gate_dst (N := 103) rfl ?_); (try (refine gate_guard (by rfl) ?_; dsimp only)); refine Kd.R_lit (Kd.int .u64) _ 23 ?hg (N := 103) ?hd (xs := ([6148914691236517205] : List Int)) (inner := [.int .u64 6148914691236517205]) (ok := fun _ => True) (okp := fun _ => True) ?hr ?hp (fun _ hk => hk) trivial (Below.refl _ _) (Nat.le_refl _) (by simp) ?_; (case hd => rfl); (case hg => rfl); (case hr => first | (go_simp; done) | (go_simp; rfl)); (case hp => exact (Reps.one (show Kd.M (Kd.int .u64) _ _ _ 6148914691236517205 [.int .u64 6148914691236517205] from rfl) (Reps.none _ _))); intro v291 w69 ho70 hb hg_ hnew_; clear hg_ hnew_; (first | rw [← Ny290.out] at ho70 | (simp only [Int.reduceToNat] at ho70; rw [← Ny290.out] at ho70)); have n0_ := Aside0.mk (Kd.R_elder' (by (with_reducible repeat (first | apply Kd.R_alloc | apply Kd.R_drewN | apply Kd.R_drew)); exact HO230.out) (Kd.R_base ho70) hb); have n1_ := Aside0.mk (Kd.R_elder' (by (with_reducible repeat (first | apply Kd.R_alloc | apply Kd.R_drewN | apply Kd.R_drew)); exact HO233.out) (Kd.R_base ho70) hb); have n2_ := Aside0.mk (Kd.R_elder' (by (with_reducible repeat (first | apply Kd.R_alloc | apply Kd.R_drewN | apply Kd.R_drew)); exact HO238.out) (Kd.R_base ho70) hb); have n3_ := Aside0.mk (Kd.R_elder' (by (with_reducible repeat (first | apply Kd.R_alloc | apply Kd.R_drewN | apply Kd.R_drew)); exact HO241.out) (Kd.R_base ho70) hb); have n4_ := Aside0.mk (Kd.R_elder' (by (with_reducible repeat (first | apply Kd.R_alloc | apply Kd.R_drewN | apply Kd.R_drew)); exact HO244.out) (Kd.R_base ho70) hb); have n5_ := Aside0.mk (Kd.R_elder' (by (with_reducible repeat (first | apply Kd.R_alloc | apply Kd.R_drewN | apply Kd.R_drew)); exact HO249.out) (Kd.R_base ho70) hb); have n6_ := Aside0.mk (Kd.R_elder' (by (with_reducible repeat (first | apply Kd.R_alloc | apply Kd.R_drewN | apply Kd.R_drew)); exact HO252.out) (Kd.R_base ho70) hb); have n7_ := Aside0.mk (Kd.R_elder' (by (with_reducible repeat (first | apply Kd.R_alloc | apply Kd.R_drewN | apply Kd.R_drew)); exact HO257.out) (Kd.R_base ho70) hb); have n8_ := Aside0.mk (Kd.R_elder' (by (with_reducible repeat (first | apply Kd.R_alloc | apply Kd.R_drewN | apply Kd.R_drew)); exact HO260.out) (Kd.R_base ho70) hb); have n9_ := Aside0.mk (Kd.R_elder' (by (with_reducible repeat (first | apply Kd.R_alloc | apply Kd.R_drewN | apply Kd.R_drew)); exact HO265.out) (Kd.R_base ho70) hb); have n10_ := Aside0.mk (Kd.R_elder' (by (with_reducible repeat (first | apply Kd.R_alloc | apply Kd.R_drewN | apply Kd.R_drew)); exact HO268.out) (Kd.R_base ho70) hb); have n11_ := Aside0.mk (Kd.R_elder' (by (with_reducible repeat (first | apply Kd.R_alloc | apply Kd.R_drewN | apply Kd.R_drew)); exact HO273.out) (Kd.R_base ho70) hb); have n12_ := Aside0.mk (Kd.R_elder' (by (with_reducible repeat (first | apply Kd.R_alloc | apply Kd.R_drewN | apply Kd.R_drew)); exact HO280.out) (Kd.R_base ho70) hb); have n13_ := Aside0.mk (Kd.R_elder' (by (with_reducible repeat (first | apply Kd.R_alloc | apply Kd.R_drewN | apply Kd.R_drew)); exact HO284.out) (Kd.R_base ho70) hb); have n14_ := Aside0.mk (Kd.R_elder' (by (with_reducible repeat (first | apply Kd.R_alloc | apply Kd.R_drewN | apply Kd.R_drew)); exact HO288.out) (Kd.R_base ho70) hb); have n15_ := Aside0.mk (Kd.R_lower (Kd.R_new' (Kd.R_new' (Kd.R_new' (Kd.R_new' (Kd.R_new' (Kd.R_new' (Kd.R_new' (Kd.R_new' (Kd.R_new' (Kd.R_new' (Kd.R_new' (Kd.R_new' (Kd.R_new' (Kd.R_new' (Kd.R_new' ho70 (Kd.R_lt (by (with_reducible repeat (first | apply Kd.R_alloc | apply Kd.R_drewN | apply Kd.R_drew)); exact HO230.out))) (Kd.R_lt (by (with_reducible repeat (first | apply Kd.R_alloc | apply Kd.R_drewN | apply Kd.R_drew)); exact HO233.out))) (Kd.R_lt (by (with_reducible repeat (first | apply Kd.R_alloc | apply Kd.R_drewN | apply Kd.R_drew)); exact HO238.out))) (Kd.R_lt (by (with_reducible repeat (first | apply Kd.R_alloc | apply Kd.R_drewN | apply Kd.R_drew)); exact HO241.out))) (Kd.R_lt (by (with_reducible repeat (first | apply Kd.R_alloc | apply Kd.R_drewN | apply Kd.R_drew)); exact HO244.out))) (Kd.R_lt (by (with_reducible repeat (first | apply Kd.R_alloc | apply Kd.R_drewN | apply Kd.R_drew)); exact HO249.out))) (Kd.R_lt (by (with_reducible repeat (first | apply Kd.R_alloc | apply Kd.R_drewN | apply Kd.R_drew)); exact HO252.out))) (Kd.R_lt (by (with_reducible repeat (first | apply Kd.R_alloc | apply Kd.R_drewN | apply Kd.R_drew)); exact HO257.out))) (Kd.R_lt (by (with_reducible repeat (first | apply Kd.R_alloc | apply Kd.R_drewN | apply Kd.R_drew)); exact HO260.out))) (Kd.R_lt (by (with_reducible repeat (first | apply Kd.R_alloc | apply Kd.R_drewN | apply Kd.R_drew)); exact HO265.out))) (Kd.R_lt (by (with_reducible repeat (first | apply Kd.R_alloc | apply Kd.R_drewN | apply Kd.R_drew)); exact HO268.out))) (Kd.R_lt (by (with_reducible repeat (first | apply Kd.R_alloc | apply Kd.R_drewN | apply Kd.R_drew)); exact HO273.out))) (Kd.R_lt (by (with_reducible repeat (first | apply Kd.R_alloc | apply Kd.R_drewN | apply Kd.R_drew)); exact HO280.out))) (Kd.R_lt (by (with_reducible repeat (first | apply Kd.R_alloc | apply Kd.R_drewN | apply Kd.R_drew)); exact HO284.out))) (Kd.R_lt (by (with_reducible repeat (first | apply Kd.R_alloc | apply Kd.R_drewN | apply Kd.R_drew)); exact HO288.out))) (below_size (by repeat (first | (with_reducible first | exact HB.out | apply below_alloc | apply pw_below_drewN | apply below_drew1) | exact HB.out)))); have n16_ := Aside0.mk (below_step (by repeat (first | (with_reducible first | exact HB.out | apply below_alloc | apply pw_below_drewN | apply below_drew1) | exact HB.out)) hb); clear HO230; clear HO233; clear HO238; clear HO241; clear HO244; clear HO249; clear HO252; clear HO257; clear HO260; clear HO265; clear HO268; clear HO273; clear HO280; clear HO284; clear HO288; clear HB; have HO230 := n0_; have HO233 := n1_; have HO238 := n2_; have HO241 := n3_; have HO244 := n4_; have HO249 := n5_; have HO252 := n6_; have HO257 := n7_; have HO260 := n8_; have HO265 := n9_; have HO268 := n10_; have HO273 := n11_; have HO280 := n12_; have HO284 := n13_; have HO288 := n14_; have HO292 := n15_; have HB := n16_; clear n0_ n1_ n2_ n3_ n4_ n5_ n6_ n7_ n8_ n9_ n10_ n11_ n12_ n13_ n14_ n15_ n16_; clear hb ho70; obtain ⟨Ao71, co71, eo71⟩ := Kd.R_slice HO265.out; subst eo71; obtain ⟨Ao72, co72, eo72⟩ := Kd.R_slice HO292.out; subst eo72) | (go_at_call 17; (with_reducible refine (reckonerlaw01_same.calls k _ _ t261 _ _ y290 true _ ?side1 ?side2 ?side3 ?side4 A21.out).mono ?_); (case side1 => repeat (first | exact (Kd.R_reads' HO265.out).2.2 | (with_reducible refine Kd.C_alloc ?_ _) | (with_reducible refine Kd.C_drewN ?_ _) | (with_reducible refine Kd.C_drew ?_))); (case side2 => exact (Kd.R_reads' HO265.out).2.1); (case side3 => repeat (first | exact (Kd.R_reads' HO292.out).2.2 | (with_reducible refine Kd.C_alloc ?_ _) | (with_reducible refine Kd.C_drewN ?_ _) | (with_reducible refine Kd.C_drew ?_))); (case side4 => exact (Kd.R_reads' HO292.out).2.1); rintro e w' ⟨rfl, ⟨nd, rfl⟩⟩) | ((with_reducible refine gate_dst (N := 116) rfl ?_); (try (refine gate_guard (by rfl) ?_; dsimp only)); refine Kd.R_lit (Kd.int .u64) _ 23 ?hg (N := 116) ?hd (xs := ([1] : List Int)) (inner := [.int .u64 1]) (ok := fun _ => True) (okp := fun _ => True) ?hr ?hp (fun _ hk => hk) trivial (Below.refl _ _) (Nat.le_refl _) (by simp) ?_; (case hd => rfl); (case hg => rfl); (case hr => first | (go_simp; done) | (go_simp; rfl)); (case hp => exact (Reps.one (show Kd.M (Kd.int .u64) _ _ _ 1 [.int .u64 1] from rfl) (Reps.none _ _))); intro v295 w73 ho74 hb hg_ hnew_; clear hg_ hnew_; (first | rw [← Ny294.out] at ho74 | (simp only [Int.reduceToNat] at ho74; rw [← Ny294.out] at ho74)); have n0_ := Aside0.mk (Kd.R_elder' (by (with_reducible repeat (first | apply Kd.R_alloc | apply Kd.R_drewN | apply Kd.R_drew)); exact HO230.out) (Kd.R_base ho74) hb); have n1_ := Aside0.mk (Kd.R_elder' (by (with_reducible repeat (first | apply Kd.R_alloc | apply Kd.R_drewN | apply Kd.R_drew)); exact HO233.out) (Kd.R_base ho74) hb); have n2_ := Aside0.mk (Kd.R_elder' (by (with_reducible repeat (first | apply Kd.R_alloc | apply Kd.R_drewN | apply Kd.R_drew)); exact HO238.out) (Kd.R_base ho74) hb); have n3_ := Aside0.mk (Kd.R_elder' (by (with_reducible repeat (first | apply Kd.R_alloc | apply Kd.R_drewN | apply Kd.R_drew)); exact HO241.out) (Kd.R_base ho74) hb); have n4_ := Aside0.mk (Kd.R_elder' (by (with_reducible repeat (first | apply Kd.R_alloc | apply Kd.R_drewN | apply Kd.R_drew)); exact HO244.out) (Kd.R_base ho74) hb); have n5_ := Aside0.mk (Kd.R_elder' (by (with_reducible repeat (first | apply Kd.R_alloc | apply Kd.R_drewN | apply Kd.R_drew)); exact HO249.out) (Kd.R_base ho74) hb); have n6_ := Aside0.mk (Kd.R_elder' (by (with_reducible repeat (first | apply Kd.R_alloc | apply Kd.R_drewN | apply Kd.R_drew)); exact HO252.out) (Kd.R_base ho74) hb); have n7_ := Aside0.mk (Kd.R_elder' (by (with_reducible repeat (first | apply Kd.R_alloc | apply Kd.R_drewN | apply Kd.R_drew)); exact HO257.out) (Kd.R_base ho74) hb); have n8_ := Aside0.mk (Kd.R_elder' (by (with_reducible repeat (first | apply Kd.R_alloc | apply Kd.R_drewN | apply Kd.R_drew)); exact HO260.out) (Kd.R_base ho74) hb); have n9_ := Aside0.mk (Kd.R_elder' (by (with_reducible repeat (first | apply Kd.R_alloc | apply Kd.R_drewN | apply Kd.R_drew)); exact HO265.out) (Kd.R_base ho74) hb); have n10_ := Aside0.mk (Kd.R_elder' (by (with_reducible repeat (first | apply Kd.R_alloc | apply Kd.R_drewN | apply Kd.R_drew)); exact HO268.out) (Kd.R_base ho74) hb); have n11_ := Aside0.mk (Kd.R_elder' (by (with_reducible repeat (first | apply Kd.R_alloc | apply Kd.R_drewN | apply Kd.R_drew)); exact HO273.out) (Kd.R_base ho74) hb); have n12_ := Aside0.mk (Kd.R_elder' (by (with_reducible repeat (first | apply Kd.R_alloc | apply Kd.R_drewN | apply Kd.R_drew)); exact HO280.out) (Kd.R_base ho74) hb); have n13_ := Aside0.mk (Kd.R_elder' (by (with_reducible repeat (first | apply Kd.R_alloc | apply Kd.R_drewN | apply Kd.R_drew)); exact HO284.out) (Kd.R_base ho74) hb); have n14_ := Aside0.mk (Kd.R_elder' (by (with_reducible repeat (first | apply Kd.R_alloc | apply Kd.R_drewN | apply Kd.R_drew)); exact HO288.out) (Kd.R_base ho74) hb); have n15_ := Aside0.mk (Kd.R_elder' (by (with_reducible repeat (first | apply Kd.R_alloc | apply Kd.R_drewN | apply Kd.R_drew)); exact HO292.out) (Kd.R_base ho74) hb); have n16_ := Aside0.mk (Kd.R_lower (Kd.R_new' (Kd.R_new' (Kd.R_new' (Kd.R_new' (Kd.R_new' (Kd.R_new' (Kd.R_new' (Kd.R_new' (Kd.R_new' (Kd.R_new' (Kd.R_new' (Kd.R_new' (Kd.R_new' (Kd.R_new' (Kd.R_new' (Kd.R_new' ho74 (Kd.R_lt (by (with_reducible repeat (first | apply Kd.R_alloc | apply Kd.R_drewN | apply Kd.R_drew)); exact HO230.out))) (Kd.R_lt (by (with_reducible repeat (first | apply Kd.R_alloc | apply Kd.R_drewN | apply Kd.R_drew)); exact HO233.out))) (Kd.R_lt (by (with_reducible repeat (first | apply Kd.R_alloc | apply Kd.R_drewN | apply Kd.R_drew)); exact HO238.out))) (Kd.R_lt (by (with_reducible repeat (first | apply Kd.R_alloc | apply Kd.R_drewN | apply Kd.R_drew)); exact HO241.out))) (Kd.R_lt (by (with_reducible repeat (first | apply Kd.R_alloc | apply Kd.R_drewN | apply Kd.R_drew)); exact HO244.out))) (Kd.R_lt (by (with_reducible repeat (first | apply Kd.R_alloc | apply Kd.R_drewN | apply Kd.R_drew)); exact HO249.out))) (Kd.R_lt (by (with_reducible repeat (first | apply Kd.R_alloc | apply Kd.R_drewN | apply Kd.R_drew)); exact HO252.out))) (Kd.R_lt (by (with_reducible repeat (first | apply Kd.R_alloc | apply Kd.R_drewN | apply Kd.R_drew)); exact HO257.out))) (Kd.R_lt (by (with_reducible repeat (first | apply Kd.R_alloc | apply Kd.R_drewN | apply Kd.R_drew)); exact HO260.out))) (Kd.R_lt (by (with_reducible repeat (first | apply Kd.R_alloc | apply Kd.R_drewN | apply Kd.R_drew)); exact HO265.out))) (Kd.R_lt (by (with_reducible repeat (first | apply Kd.R_alloc | apply Kd.R_drewN | apply Kd.R_drew)); exact HO268.out))) (Kd.R_lt (by (with_reducible repeat (first | apply Kd.R_alloc | apply Kd.R_drewN | apply Kd.R_drew)); exact HO273.out))) (Kd.R_lt (by (with_reducible repeat (first | apply Kd.R_alloc | apply Kd.R_drewN | apply Kd.R_drew)); exact HO280.out))) (Kd.R_lt (by (with_reducible repeat (first | apply Kd.R_alloc | apply Kd.R_drewN | apply Kd.R_drew)); exact HO284.out))) (Kd.R_lt (by (with_reducible repeat (first | apply Kd.R_alloc | apply Kd.R_drewN | apply Kd.R_drew)); exact HO288.out))) (Kd.R_lt (by (with_reducible repeat (first | apply Kd.R_alloc | apply Kd.R_drewN | apply Kd.R_drew)); exact HO292.out))) (below_size (by repeat (first | (with_reducible first | exact HB.out | apply below_alloc | apply pw_below_drewN | apply below_drew1) | exact HB.out)))); have n17_ := Aside0.mk (below_step (by repeat (first | (with_reducible first | exact HB.out | apply below_alloc | apply pw_below_drewN | apply below_drew1) | exact HB.out)) hb); clear HO230; clear HO233; clear HO238; clear HO241; clear HO244; clear HO249; clear HO252; clear HO257; clear HO260; clear HO265; clear HO268; clear HO273; clear HO280; clear HO284; clear HO288; clear HO292; clear HB; have HO230 := n0_; have HO233 := n1_; have HO238 := n2_; have HO241 := n3_; have HO244 := n4_; have HO249 := n5_; have HO252 := n6_; have HO257 := n7_; have HO260 := n8_; have HO265 := n9_; have HO268 := n10_; have HO273 := n11_; have HO280 := n12_; have HO284 := n13_; have HO288 := n14_; have HO292 := n15_; have HO296 := n16_; have HB := n17_; clear n0_ n1_ n2_ n3_ n4_ n5_ n6_ n7_ n8_ n9_ n10_ n11_ n12_ n13_ n14_ n15_ n16_ n17_; clear hb ho74; obtain ⟨Ao75, co75, eo75⟩ := Kd.R_slice HO273.out; subst eo75; obtain ⟨Ao76, co76, eo76⟩ := Kd.R_slice HO296.out; subst eo76) | (go_at_call 17; (with_reducible refine (reckonerlaw01_same.calls k _ _ t269 _ _ y294 true _ ?side1 ?side2 ?side3 ?side4 A25.out).mono ?_); (case side1 => repeat (first | exact (Kd.R_reads' HO273.out).2.2 | (with_reducible refine Kd.C_alloc ?_ _) | (with_reducible refine Kd.C_drewN ?_ _) | (with_reducible refine Kd.C_drew ?_))); (case side2 => exact (Kd.R_reads' HO273.out).2.1); (case side3 => repeat (first | exact (Kd.R_reads' HO296.out).2.2 | (with_reducible refine Kd.C_alloc ?_ _) | (with_reducible refine Kd.C_drewN ?_ _) | (with_reducible refine Kd.C_drew ?_))); (case side4 => exact (Kd.R_reads' HO296.out).2.1); rintro e w' ⟨rfl, ⟨nd, rfl⟩⟩))
                                      go_ret
                                      exact ⟨by first | rfl | (simp [errW_none, errW_some] <;> rfl) | (simp [*, errW_none, errW_some] <;> rfl), by repeat (first | (with_reducible first | exact HB.out | apply below_alloc | apply pw_below_drewN | apply below_drew1) | exact HB.out)⟩
                                    · rw [if_neg c30] at H
                                      exact absurd H (by simp)
                                  · rw [if_neg c29] at H
                                    exact absurd H (by simp)
                                · rw [if_neg c28] at H
                                  exact absurd H (by simp)
                              · rw [if_neg c27] at H
                                exact absurd H (by simp)
                            · replace c26 := Bool.eq_false_iff.mpr c26
                              subst c26
                              have H1 : (none) = some r := by rw [if_neg (show ¬ (false = true) by decide)] at H; exact H
                              clear H
                              have H := H1
                              clear H1
                              exact absurd H (by simp)
                          · rw [if_neg c24] at H
                            exact absurd H (by simp)
                        · rw [if_neg c23] at H
                          exact absurd H (by simp)
                      · replace c22 := Bool.eq_false_iff.mpr c22
                        subst c22
                        have H1 : (none) = some r := by rw [if_neg (show ¬ (false = true) by decide)] at H; exact H
                        clear H
                        have H := H1
                        clear H1
                        exact absurd H (by simp)
                    · rw [if_neg c20] at H
                      exact absurd H (by simp)
                  · rw [if_neg c19] at H
                    exact absurd H (by simp)
                · replace c18 := Bool.eq_false_iff.mpr c18
                  subst c18
                  have H1 : (none) = some r := by rw [if_neg (show ¬ (false = true) by decide)] at H; exact H
                  clear H
                  have H := H1
                  clear H1
                  exact absurd H (by simp)
              · rw [if_neg c16] at H
                exact absurd H (by simp)
            · rw [if_neg c15] at H
              exact absurd H (by simp)
          · replace c14 := Bool.eq_false_iff.mpr c14
            subst c14
            have H1 : (none) = some r := by rw [if_neg (show ¬ (false = true) by decide)] at H; exact H
            clear H
            have H := H1
            clear H1
            exact absurd H (by simp)
        · rw [if_neg c12] at H
          exact absurd H (by simp)
      · rw [if_neg c11] at H
        exact absurd H (by simp)
    · replace c10 := Bool.eq_false_iff.mpr c10
      subst c10
      have H1 : (none) = some r := by rw [if_neg (show ¬ (false = true) by decide)] at H; exact H
      clear H
      have H := H1
      clear H1
      exact absurd H (by simp)
  · rw [if_neg c8] at H
    exact absurd H (by simp)

end Go.Proofs.YtldefhhfcbmbpaaDoor.T
-- PRINTED by print.py (a twelfth state) out of the translation. Not trusted: Lean checks it.
namespace Go.Proofs.YtldefhhfcbmbpaaDoor.T
open Go.RowKit Go.Proofs.YtldefhhfcbmbpaaDoorW.PrintWords Go.Proofs.YtldefhhfcbmbpaaDoorW.PrintLast Go.Proofs.YtldefhhfcbmbpaaDoorW.PrintMore
attribute [local go_sem] max2_int min2_int max_two min_two max_three min_three max_four min_four   -- for this text's walks alone
open YtldefhhfcbmbpaaDoor.Ex
set_option linter.unusedVariables false
set_option linter.unusedSimpArgs false

/-! ### reckonerlaw01_WordsSums: function 3 -/
mutual
def reckonerlaw01_WordsSums.l0 : Nat → List Int → List Int → Int → List Int → List Int → Int → Option (Bool)
  | 0, _, _, _, _, _, _ => none
  | k + 1, x0, x1, x2, x7, x8, x9 => if x9 < 3 then ((words_Add.f x7 x8 x2).bind fun bt305 => ((words_Sub.f x7 x8 x2).bind fun bt310 => (if (x7.length : Int) = (x8.length : Int) then (reckonerlaw01_WordsSums.j1 k x0 x1 x2 x7 x8 x9 bt305.1 bt305.2.1 bt305.2.2 bt310.1 bt310.2.1 bt310.2.2 (decide (x2 > 1))) else (reckonerlaw01_WordsSums.j1 k x0 x1 x2 x7 x8 x9 bt305.1 bt305.2.1 bt305.2.2 bt310.1 bt310.2.1 bt310.2.2 true)))) else ((reckonerlaw01_awake.f k).bind fun t304 => (some t304))
def reckonerlaw01_WordsSums.j1 : Nat → List Int → List Int → Int → List Int → List Int → Int → List Int → Int → Int → List Int → Int → Int → Bool → Option (Bool)
  | 0, _, _, _, _, _, _, _, _, _, _, _, _, _ => none
  | k + 1, x0, x1, x2, x7, x8, x9, x10, x11, x12, x13, x14, x15, x52 => if x52 = true then (if x12 = 1 then (if x15 = 1 then (if (wrap64 ((x10.length : Int) + (x13.length : Int))) = 0 then (if x11 = 0 then (reckonerlaw01_WordsSums.j2 k x0 x1 x2 x7 x8 x9 (x14 != 0)) else (reckonerlaw01_WordsSums.j2 k x0 x1 x2 x7 x8 x9 true)) else (reckonerlaw01_WordsSums.j2 k x0 x1 x2 x7 x8 x9 true)) else (reckonerlaw01_WordsSums.j2 k x0 x1 x2 x7 x8 x9 true)) else (reckonerlaw01_WordsSums.j2 k x0 x1 x2 x7 x8 x9 true)) else ((reckonerref01_Add.f k x7 x8 x2).bind fun bt321 => ((reckonerref01_Sub.f k x7 x8 x2).bind fun bt325 => (if x12 = 0 then (if x15 = 0 then ((reckonerlaw01_same.f k x10 bt321.1).bind fun t329 => (if t329 = true then (if x11 = bt321.2 then ((reckonerlaw01_same.f k x13 bt325.1).bind fun t330 => (if t330 = true then (reckonerlaw01_WordsSums.j3 k x0 x1 x2 x7 x8 x9 (x14 != bt325.2)) else (reckonerlaw01_WordsSums.j3 k x0 x1 x2 x7 x8 x9 true))) else (reckonerlaw01_WordsSums.j3 k x0 x1 x2 x7 x8 x9 true)) else (reckonerlaw01_WordsSums.j3 k x0 x1 x2 x7 x8 x9 true))) else (reckonerlaw01_WordsSums.j3 k x0 x1 x2 x7 x8 x9 true)) else (reckonerlaw01_WordsSums.j3 k x0 x1 x2 x7 x8 x9 true))))
def reckonerlaw01_WordsSums.j2 : Nat → List Int → List Int → Int → List Int → List Int → Int → Bool → Option (Bool)
  | 0, _, _, _, _, _, _, _ => none
  | k + 1, x0, x1, x2, x7, x8, x9, x74 => if x74 = true then (none) else (if x9 = 0 then ((reckonerlaw01_equal.f x0 x1).bind fun bt315 => (reckonerlaw01_WordsSums.l0 k x0 x1 (Int.tmod x2 2) bt315.1 bt315.2 (wrap64 (x9 + 1)))) else (reckonerlaw01_WordsSums.l0 k x0 x1 (Int.tmod x2 2) x7 x8 (wrap64 (x9 + 1))))
def reckonerlaw01_WordsSums.j3 : Nat → List Int → List Int → Int → List Int → List Int → Int → Bool → Option (Bool)
  | 0, _, _, _, _, _, _, _ => none
  | k + 1, x0, x1, x2, x7, x8, x9, x116 => if x116 = true then (none) else (if x9 = 0 then ((reckonerlaw01_equal.f x0 x1).bind fun bt331 => (reckonerlaw01_WordsSums.l0 k x0 x1 (Int.tmod x2 2) bt331.1 bt331.2 (wrap64 (x9 + 1)))) else (reckonerlaw01_WordsSums.l0 k x0 x1 (Int.tmod x2 2) x7 x8 (wrap64 (x9 + 1))))
end
def reckonerlaw01_WordsSums.f (k : Nat) (l0 : List Int) (l1 : List Int) (a2 : Int) : Option (Bool) := (reckonerlaw01_few.f l0 40).bind fun t298 => ((reckonerlaw01_few.f l1 40).bind fun t301 => (reckonerlaw01_WordsSums.l0 k l0 l1 a2 t298 t301 0))
theorem reckonerlaw01_WordsSums.mono_l : ∀ k, (∀ y0 y1 y2 y3 y4 y5, LeO (reckonerlaw01_WordsSums.l0 k y0 y1 y2 y3 y4 y5) (reckonerlaw01_WordsSums.l0 (k + 1) y0 y1 y2 y3 y4 y5)) ∧ (∀ y0 y1 y2 y3 y4 y5 y6 y7 y8 y9 y10 y11 y12, LeO (reckonerlaw01_WordsSums.j1 k y0 y1 y2 y3 y4 y5 y6 y7 y8 y9 y10 y11 y12) (reckonerlaw01_WordsSums.j1 (k + 1) y0 y1 y2 y3 y4 y5 y6 y7 y8 y9 y10 y11 y12)) ∧ (∀ y0 y1 y2 y3 y4 y5 y6, LeO (reckonerlaw01_WordsSums.j2 k y0 y1 y2 y3 y4 y5 y6) (reckonerlaw01_WordsSums.j2 (k + 1) y0 y1 y2 y3 y4 y5 y6)) ∧ (∀ y0 y1 y2 y3 y4 y5 y6, LeO (reckonerlaw01_WordsSums.j3 k y0 y1 y2 y3 y4 y5 y6) (reckonerlaw01_WordsSums.j3 (k + 1) y0 y1 y2 y3 y4 y5 y6))
  | 0 => ⟨fun _ _ _ _ _ _ r h => by simp [reckonerlaw01_WordsSums.l0] at h, fun _ _ _ _ _ _ _ _ _ _ _ _ _ r h => by simp [reckonerlaw01_WordsSums.j1] at h, fun _ _ _ _ _ _ _ r h => by simp [reckonerlaw01_WordsSums.j2] at h, fun _ _ _ _ _ _ _ r h => by simp [reckonerlaw01_WordsSums.j3] at h⟩
  | k + 1 => by
    obtain ⟨ih0, ih1, ih2, ih3⟩ := reckonerlaw01_WordsSums.mono_l k
    refine ⟨?_, ?_, ?_, ?_⟩
    · intro y0 y1 y2 y3 y4 y5
      unfold reckonerlaw01_WordsSums.l0
      repeat' first
      | (with_reducible exact ih0 _ _ _ _ _ _)
      | (with_reducible exact ih1 _ _ _ _ _ _ _ _ _ _ _ _ _)
      | (with_reducible exact ih2 _ _ _ _ _ _ _)
      | (with_reducible exact ih3 _ _ _ _ _ _ _)
      | (with_reducible exact reckonerlaw01_awake.mono _)
      | (with_reducible exact reckonerlaw01_same.mono _ _ _)
      | (with_reducible exact reckonerref01_Add.mono _ _ _ _)
      | (with_reducible exact reckonerref01_Sub.mono _ _ _ _)
      | (with_reducible exact LeO.refl _)
      | (with_reducible exact LeO.none _)
      | (with_reducible refine LeO.ite ?_ ?_)
      | (with_reducible refine LeO.bind ?_ (fun _ => ?_))
      | exact ih0 _ _ _ _ _ _
      | exact ih1 _ _ _ _ _ _ _ _ _ _ _ _ _
      | exact ih2 _ _ _ _ _ _ _
      | exact ih3 _ _ _ _ _ _ _
      | exact reckonerlaw01_awake.mono _
      | exact reckonerlaw01_same.mono _ _ _
      | exact reckonerref01_Add.mono _ _ _ _
      | exact reckonerref01_Sub.mono _ _ _ _
      | exact LeO.none _
      | refine LeO.ite ?_ ?_
      | refine LeO.bind ?_ (fun _ => ?_)
    · intro y0 y1 y2 y3 y4 y5 y6 y7 y8 y9 y10 y11 y12
      unfold reckonerlaw01_WordsSums.j1
      repeat' first
      | (with_reducible exact ih0 _ _ _ _ _ _)
      | (with_reducible exact ih1 _ _ _ _ _ _ _ _ _ _ _ _ _)
      | (with_reducible exact ih2 _ _ _ _ _ _ _)
      | (with_reducible exact ih3 _ _ _ _ _ _ _)
      | (with_reducible exact reckonerlaw01_awake.mono _)
      | (with_reducible exact reckonerlaw01_same.mono _ _ _)
      | (with_reducible exact reckonerref01_Add.mono _ _ _ _)
      | (with_reducible exact reckonerref01_Sub.mono _ _ _ _)
      | (with_reducible exact LeO.refl _)
      | (with_reducible exact LeO.none _)
      | (with_reducible refine LeO.ite ?_ ?_)
      | (with_reducible refine LeO.bind ?_ (fun _ => ?_))
      | exact ih0 _ _ _ _ _ _
      | exact ih1 _ _ _ _ _ _ _ _ _ _ _ _ _
      | exact ih2 _ _ _ _ _ _ _
      | exact ih3 _ _ _ _ _ _ _
      | exact reckonerlaw01_awake.mono _
      | exact reckonerlaw01_same.mono _ _ _
      | exact reckonerref01_Add.mono _ _ _ _
      | exact reckonerref01_Sub.mono _ _ _ _
      | exact LeO.none _
      | refine LeO.ite ?_ ?_
      | refine LeO.bind ?_ (fun _ => ?_)
    · intro y0 y1 y2 y3 y4 y5 y6
      unfold reckonerlaw01_WordsSums.j2
      repeat' first
      | (with_reducible exact ih0 _ _ _ _ _ _)
      | (with_reducible exact ih1 _ _ _ _ _ _ _ _ _ _ _ _ _)
      | (with_reducible exact ih2 _ _ _ _ _ _ _)
      | (with_reducible exact ih3 _ _ _ _ _ _ _)
      | (with_reducible exact reckonerlaw01_awake.mono _)
      | (with_reducible exact reckonerlaw01_same.mono _ _ _)
      | (with_reducible exact reckonerref01_Add.mono _ _ _ _)
      | (with_reducible exact reckonerref01_Sub.mono _ _ _ _)
      | (with_reducible exact LeO.refl _)
      | (with_reducible exact LeO.none _)
      | (with_reducible refine LeO.ite ?_ ?_)
      | (with_reducible refine LeO.bind ?_ (fun _ => ?_))
      | exact ih0 _ _ _ _ _ _
      | exact ih1 _ _ _ _ _ _ _ _ _ _ _ _ _
      | exact ih2 _ _ _ _ _ _ _
      | exact ih3 _ _ _ _ _ _ _
      | exact reckonerlaw01_awake.mono _
      | exact reckonerlaw01_same.mono _ _ _
      | exact reckonerref01_Add.mono _ _ _ _
      | exact reckonerref01_Sub.mono _ _ _ _
      | exact LeO.none _
      | refine LeO.ite ?_ ?_
      | refine LeO.bind ?_ (fun _ => ?_)
    · intro y0 y1 y2 y3 y4 y5 y6
      unfold reckonerlaw01_WordsSums.j3
      repeat' first
      | (with_reducible exact ih0 _ _ _ _ _ _)
      | (with_reducible exact ih1 _ _ _ _ _ _ _ _ _ _ _ _ _)
      | (with_reducible exact ih2 _ _ _ _ _ _ _)
      | (with_reducible exact ih3 _ _ _ _ _ _ _)
      | (with_reducible exact reckonerlaw01_awake.mono _)
      | (with_reducible exact reckonerlaw01_same.mono _ _ _)
      | (with_reducible exact reckonerref01_Add.mono _ _ _ _)
      | (with_reducible exact reckonerref01_Sub.mono _ _ _ _)
      | (with_reducible exact LeO.refl _)
      | (with_reducible exact LeO.none _)
      | (with_reducible refine LeO.ite ?_ ?_)
      | (with_reducible refine LeO.bind ?_ (fun _ => ?_))
      | exact ih0 _ _ _ _ _ _
      | exact ih1 _ _ _ _ _ _ _ _ _ _ _ _ _
      | exact ih2 _ _ _ _ _ _ _
      | exact ih3 _ _ _ _ _ _ _
      | exact reckonerlaw01_awake.mono _
      | exact reckonerlaw01_same.mono _ _ _
      | exact reckonerref01_Add.mono _ _ _ _
      | exact reckonerref01_Sub.mono _ _ _ _
      | exact LeO.none _
      | refine LeO.ite ?_ ?_
      | refine LeO.bind ?_ (fun _ => ?_)
theorem reckonerlaw01_WordsSums.mono : ∀ a0 a1 a2 k, LeO (reckonerlaw01_WordsSums.f k a0 a1 a2) (reckonerlaw01_WordsSums.f (k + 1) a0 a1 a2) := by
  intro a0 a1 a2 k
  obtain ⟨ih0, ih1, ih2, ih3⟩ := reckonerlaw01_WordsSums.mono_l k
  unfold reckonerlaw01_WordsSums.f
  repeat' first
      | (with_reducible exact ih0 _ _ _ _ _ _)
      | (with_reducible exact ih1 _ _ _ _ _ _ _ _ _ _ _ _ _)
      | (with_reducible exact ih2 _ _ _ _ _ _ _)
      | (with_reducible exact ih3 _ _ _ _ _ _ _)
      | (with_reducible exact reckonerlaw01_awake.mono _)
      | (with_reducible exact reckonerlaw01_same.mono _ _ _)
      | (with_reducible exact reckonerref01_Add.mono _ _ _ _)
      | (with_reducible exact reckonerref01_Sub.mono _ _ _ _)
      | (with_reducible exact LeO.refl _)
      | (with_reducible exact LeO.none _)
      | (with_reducible refine LeO.ite ?_ ?_)
      | (with_reducible refine LeO.bind ?_ (fun _ => ?_))
      | exact ih0 _ _ _ _ _ _
      | exact ih1 _ _ _ _ _ _ _ _ _ _ _ _ _
      | exact ih2 _ _ _ _ _ _ _
      | exact ih3 _ _ _ _ _ _ _
      | exact reckonerlaw01_awake.mono _
      | exact reckonerlaw01_same.mono _ _ _
      | exact reckonerref01_Add.mono _ _ _ _
      | exact reckonerref01_Sub.mono _ _ _ _
      | exact LeO.none _
      | refine LeO.ite ?_ ?_
      | refine LeO.bind ?_ (fun _ => ?_)
set_option maxHeartbeats 8000000 in
set_option maxRecDepth 100000 in
theorem reckonerlaw01_WordsSums.calls (k : Nat) (A0 : Option Addr) (c0 : Nat) (l0 : List Int) (A1 : Option Addr) (c1 : Nat) (l1 : List Int) (a2 : Int) (r : Bool) (w : World) (hr0 : Kd.C (Kd.int .u64) w A0 l0.length l0) (hc0 : l0.length ≤ c0) (hr1 : Kd.C (Kd.int .u64) w A1 l1.length l1) (hc1 : l1.length ≤ c1) (hg : Laid w) (h : reckonerlaw01_WordsSums.f k l0 l1 a2 = some r) :
    Calls Tryd.prog 3 #[.slice A0 l0.length c0, .slice A1 l1.length c1, .int .u64 a2] w fun e w' => e = .returned (.bool r) ∧ Below w.heap.size w w' := by
  have HLd := Aside0.mk hg
  clear hg
  have HR0 := Aside0.mk hr0
  have HC0 := Aside0.mk hc0
  clear hr0 hc0
  have HR1 := Aside0.mk hr1
  have HC1 := Aside0.mk hc1
  clear hr1 hc1
  have HB := Aside0.mk (Below.refl w.heap.size w)
  have H : ((reckonerlaw01_few.f l0 40).bind fun t298 => ((reckonerlaw01_few.f l1 40).bind fun t301 => (reckonerlaw01_WordsSums.l0 k l0 l1 a2 t298 t301 0))) = some r := h
  clear h
  replace H := Option.bind_eq_some_iff.mp H
  obtain ⟨t298, A40, H⟩ := H
  replace H : ((reckonerlaw01_few.f l1 40).bind fun t301 => (reckonerlaw01_WordsSums.l0 k l0 l1 a2 t298 t301 0)) = some r := H
  have A4 := Aside0.mk A40
  clear A40
  replace H := Option.bind_eq_some_iff.mp H
  obtain ⟨t301, A50, H⟩ := H
  replace H : (reckonerlaw01_WordsSums.l0 k l0 l1 a2 t298 t301 0) = some r := H
  have A5 := Aside0.mk A50
  clear A50
  have H' := Aside0.mk H
  clear H
  go_enter Tryd.func3, Tryd.ntmps3
  try simp only [List.append]
  go_wp2_with (first | ((with_reducible refine gate_callee (f := 12) rfl ?_); refine goesL_ (some 21) rfl rfl Tryd.func12 (by kernel_rfl) rfl #[.slice A0 l0.length c0, .int .i64 40] rfl (by (try simp only [List.map_toArray, List.map_cons, List.map_nil]); first | done | rfl | (simp only [List.length_drop, List.length_take]; rfl)) ?_; (with_reducible refine (reckonerlaw01_few.calls _ _ l0 40 t298 _ ?side1 ?side2 A4.out).mono ?_); (case side1 => repeat (first | exact HR0.out | (with_reducible refine Kd.C_alloc ?_ _) | (with_reducible refine Kd.C_drewN ?_ _) | (with_reducible refine Kd.C_drew ?_))); (case side2 => exact HC0.out); rintro e w6 ⟨v299, rfl, ho0, hb⟩; refine ⟨_, rfl, ?_⟩; have n0_ := Aside0.mk (Kd.R_lower ho0 (below_size (by repeat (first | (with_reducible first | exact HB.out | apply below_alloc | apply pw_below_drewN | apply below_drew1) | exact HB.out)))); have n1_ := Aside0.mk (below_step (by repeat (first | (with_reducible first | exact HB.out | apply below_alloc | apply pw_below_drewN | apply below_drew1) | exact HB.out)) hb); clear HB; have HO300 := n0_; have HB := n1_; clear n0_ n1_; (try clear hb); (try clear hb2); (try clear hk); (try clear hi); (try clear ho0)) | ((with_reducible refine gate_callee (f := 12) rfl ?_); refine goesL_ (some 23) rfl rfl Tryd.func12 (by kernel_rfl) rfl #[.slice A1 l1.length c1, .int .i64 40] rfl (by (try simp only [List.map_toArray, List.map_cons, List.map_nil]); first | done | rfl | (simp only [List.length_drop, List.length_take]; rfl)) ?_; (with_reducible refine (reckonerlaw01_few.calls _ _ l1 40 t301 _ ?side1 ?side2 A5.out).mono ?_); (case side1 => repeat (first | exact (Kd.C_below HR1.out HB.out) | (with_reducible refine Kd.C_alloc ?_ _) | (with_reducible refine Kd.C_drewN ?_ _) | (with_reducible refine Kd.C_drew ?_))); (case side2 => exact HC1.out); rintro e w7 ⟨v302, rfl, ho0, hb⟩; refine ⟨_, rfl, ?_⟩; have n0_ := Aside0.mk (Kd.R_elder' (by (with_reducible repeat (first | apply Kd.R_alloc | apply Kd.R_drewN | apply Kd.R_drew)); exact HO300.out) (Kd.R_base ho0) hb); have n1_ := Aside0.mk (Kd.R_lower (Kd.R_new' ho0 (Kd.R_lt (by (with_reducible repeat (first | apply Kd.R_alloc | apply Kd.R_drewN | apply Kd.R_drew)); exact HO300.out))) (below_size (by repeat (first | (with_reducible first | exact HB.out | apply below_alloc | apply pw_below_drewN | apply below_drew1) | exact HB.out)))); have n2_ := Aside0.mk (below_step (by repeat (first | (with_reducible first | exact HB.out | apply below_alloc | apply pw_below_drewN | apply below_drew1) | exact HB.out)) hb); clear HO300; clear HB; have HO300 := n0_; have HO303 := n1_; have HB := n2_; clear n0_ n1_ n2_; (try clear hb); (try clear hb2); (try clear hk); (try clear hi); (try clear ho0)))
  go_loopg [2, 7, 8, 9] k (fun kq v2 v7 v8 v9 w' => ∃ (x2_1 : Int) (x7_1 : List Int) (x8_1 : List Int) (x9_1 : Int), v2 = .int .u64 x2_1 ∧ v9 = .int .i64 x9_1 ∧ Aside0 (reckonerlaw01_WordsSums.l0 kq l0 l1 x2_1 x7_1 x8_1 x9_1 = some r) ∧ Aside0 (kq ≤ k) ∧ Aside0 (Kd.R (Kd.int .u64) 23 w' w.heap.size (fun k_ => some k_ ≠ (v8 : Value).ownBlock) v7 x7_1) ∧ Aside0 (Kd.R (Kd.int .u64) 23 w' w.heap.size (fun k_ => some k_ ≠ (v7 : Value).ownBlock) v8 x8_1) ∧ Aside0 (Below w.heap.size w w'))
  case atStart => exact ⟨(a2), (t298), (t301), (0), (by first | rfl | (simp; done) | (simp [*]; done)), (by first | rfl | (simp; done) | (simp [*]; done)), H', ⟨Nat.le_refl _⟩, ⟨by (with_reducible repeat (first | apply Kd.R_alloc | apply Kd.R_drewN | apply Kd.R_drew)); exact Kd.R_mono HO300.out (fun _ hk => hk.2)⟩, ⟨by (with_reducible repeat (first | apply Kd.R_alloc | apply Kd.R_drewN | apply Kd.R_drew)); exact Kd.R_mono HO303.out (fun _ hk => hk.2)⟩, ⟨by repeat (first | (with_reducible first | exact HB.out | apply below_alloc | apply pw_below_drewN | apply below_drew1) | exact HB.out)⟩⟩
  case round =>
    clear H'
    try clear c1
    try clear p2
    try clear c3
    obtain ⟨x2_1, x7_1, x8_1, x9_1, rfl, rfl, HA, HK1, HO_7, HO_8, HB⟩ := hrel
    cases gk with
    | zero => exact absurd HA.out (by simp [reckonerlaw01_WordsSums.l0])
    | succ k1 =>
      have H := HA.out
      clear HA
      simp only [reckonerlaw01_WordsSums.l0] at H
      by_cases c8 : x9_1 < 3
      · rw [if_pos c8] at H
        have c8b0 : decide (x9_1 < 3) = true := decide_eq_true c8
        clear c8
        replace H := Option.bind_eq_some_iff.mp H
        obtain ⟨⟨t305, t306, t307⟩, A90, H⟩ := H
        replace H : ((words_Sub.f x7_1 x8_1 x2_1).bind fun bt310 => (if (x7_1.length : Int) = (x8_1.length : Int) then (reckonerlaw01_WordsSums.j1 k1 l0 l1 x2_1 x7_1 x8_1 x9_1 t305 t306 t307 bt310.1 bt310.2.1 bt310.2.2 (decide (x2_1 > 1))) else (reckonerlaw01_WordsSums.j1 k1 l0 l1 x2_1 x7_1 x8_1 x9_1 t305 t306 t307 bt310.1 bt310.2.1 bt310.2.2 true))) = some r := H
        have A9 := Aside0.mk A90
        clear A90
        replace H := Option.bind_eq_some_iff.mp H
        obtain ⟨⟨t310, t311, t312⟩, A100, H⟩ := H
        replace H : (if (x7_1.length : Int) = (x8_1.length : Int) then (reckonerlaw01_WordsSums.j1 k1 l0 l1 x2_1 x7_1 x8_1 x9_1 t305 t306 t307 t310 t311 t312 (decide (x2_1 > 1))) else (reckonerlaw01_WordsSums.j1 k1 l0 l1 x2_1 x7_1 x8_1 x9_1 t305 t306 t307 t310 t311 t312 true)) = some r := H
        have A10 := Aside0.mk A100
        clear A100
        have HC11 := Aside0.mk H
        clear H
        obtain ⟨Ao12, co12, eo12⟩ := Kd.R_slice HO_7.out
        subst eo12
        obtain ⟨Ao13, co13, eo13⟩ := Kd.R_slice HO_8.out
        subst eo13
        go_upto_region 7 with (first | ((with_reducible refine gate_callee (f := 13) rfl ?_); refine goesL_ (some 32) rfl rfl Tryd.func13 (by kernel_rfl) rfl #[.slice Ao12 x7_1.length co12, .slice Ao13 x8_1.length co13, .int .u64 x2_1] rfl (by (try simp only [List.map_toArray, List.map_cons, List.map_nil]); first | done | rfl | (simp only [List.length_drop, List.length_take]; rfl)) ?_; (with_reducible refine (words_Add.calls _ _ x7_1 _ _ x8_1 x2_1 t305 t306 t307 _ ?side1 ?side2 ?side3 ?side4 A9.out).mono ?_); (case side1 => repeat (first | exact (Kd.R_reads' HO_7.out).2.2 | (with_reducible refine Kd.C_alloc ?_ _) | (with_reducible refine Kd.C_drewN ?_ _) | (with_reducible refine Kd.C_drew ?_))); (case side2 => exact (Kd.R_reads' HO_7.out).2.1); (case side3 => repeat (first | exact (Kd.R_reads' HO_8.out).2.2 | (with_reducible refine Kd.C_alloc ?_ _) | (with_reducible refine Kd.C_drewN ?_ _) | (with_reducible refine Kd.C_drew ?_))); (case side4 => exact (Kd.R_reads' HO_8.out).2.1); rintro e w14 ⟨v308, rfl, ho0, hb⟩; refine ⟨_, rfl, ?_⟩; have n0_ := Aside0.mk (Kd.R_elder' (by (with_reducible repeat (first | apply Kd.R_alloc | apply Kd.R_drewN | apply Kd.R_drew)); exact HO_7.out) (Kd.R_base ho0) hb); have n1_ := Aside0.mk (Kd.R_elder' (by (with_reducible repeat (first | apply Kd.R_alloc | apply Kd.R_drewN | apply Kd.R_drew)); exact HO_8.out) (Kd.R_base ho0) hb); have n2_ := Aside0.mk (Kd.R_lower (Kd.R_new' (Kd.R_new' ho0 (Kd.R_lt (by (with_reducible repeat (first | apply Kd.R_alloc | apply Kd.R_drewN | apply Kd.R_drew)); exact HO_7.out))) (Kd.R_lt (by (with_reducible repeat (first | apply Kd.R_alloc | apply Kd.R_drewN | apply Kd.R_drew)); exact HO_8.out))) (below_size (by repeat (first | (with_reducible first | exact HB.out | apply below_alloc | apply pw_below_drewN | apply below_drew1) | exact HB.out)))); have n3_ := Aside0.mk (below_step (by repeat (first | (with_reducible first | exact HB.out | apply below_alloc | apply pw_below_drewN | apply below_drew1) | exact HB.out)) hb); clear HO_7; clear HO_8; clear HB; have HO_7 := n0_; have HO_8 := n1_; have HO309 := n2_; have HB := n3_; clear n0_ n1_ n2_ n3_; (try clear hb); (try clear hb2); (try clear hk); (try clear hi); (try clear ho0)) | ((with_reducible refine gate_callee (f := 14) rfl ?_); refine goesL_ (some 40) rfl rfl Tryd.func14 (by kernel_rfl) rfl #[.slice Ao12 x7_1.length co12, .slice Ao13 x8_1.length co13, .int .u64 x2_1] rfl (by (try simp only [List.map_toArray, List.map_cons, List.map_nil]); first | done | rfl | (simp only [List.length_drop, List.length_take]; rfl)) ?_; (with_reducible refine (words_Sub.calls _ _ x7_1 _ _ x8_1 x2_1 t310 t311 t312 _ ?side1 ?side2 ?side3 ?side4 A10.out).mono ?_); (case side1 => repeat (first | exact (Kd.R_reads' HO_7.out).2.2 | (with_reducible refine Kd.C_alloc ?_ _) | (with_reducible refine Kd.C_drewN ?_ _) | (with_reducible refine Kd.C_drew ?_))); (case side2 => exact (Kd.R_reads' HO_7.out).2.1); (case side3 => repeat (first | exact (Kd.R_reads' HO_8.out).2.2 | (with_reducible refine Kd.C_alloc ?_ _) | (with_reducible refine Kd.C_drewN ?_ _) | (with_reducible refine Kd.C_drew ?_))); (case side4 => exact (Kd.R_reads' HO_8.out).2.1); rintro e w15 ⟨v313, rfl, ho0, hb⟩; refine ⟨_, rfl, ?_⟩; have n0_ := Aside0.mk (Kd.R_elder' (by (with_reducible repeat (first | apply Kd.R_alloc | apply Kd.R_drewN | apply Kd.R_drew)); exact HO_7.out) (Kd.R_base ho0) hb); have n1_ := Aside0.mk (Kd.R_elder' (by (with_reducible repeat (first | apply Kd.R_alloc | apply Kd.R_drewN | apply Kd.R_drew)); exact HO_8.out) (Kd.R_base ho0) hb); have n2_ := Aside0.mk (Kd.R_elder' (by (with_reducible repeat (first | apply Kd.R_alloc | apply Kd.R_drewN | apply Kd.R_drew)); exact HO309.out) (Kd.R_base ho0) hb); have n3_ := Aside0.mk (Kd.R_lower (Kd.R_new' (Kd.R_new' (Kd.R_new' ho0 (Kd.R_lt (by (with_reducible repeat (first | apply Kd.R_alloc | apply Kd.R_drewN | apply Kd.R_drew)); exact HO_7.out))) (Kd.R_lt (by (with_reducible repeat (first | apply Kd.R_alloc | apply Kd.R_drewN | apply Kd.R_drew)); exact HO_8.out))) (Kd.R_lt (by (with_reducible repeat (first | apply Kd.R_alloc | apply Kd.R_drewN | apply Kd.R_drew)); exact HO309.out))) (below_size (by repeat (first | (with_reducible first | exact HB.out | apply below_alloc | apply pw_below_drewN | apply below_drew1) | exact HB.out)))); have n4_ := Aside0.mk (below_step (by repeat (first | (with_reducible first | exact HB.out | apply below_alloc | apply pw_below_drewN | apply below_drew1) | exact HB.out)) hb); clear HO_7; clear HO_8; clear HO309; clear HB; have HO_7 := n0_; have HO_8 := n1_; have HO309 := n2_; have HO314 := n3_; have HB := n4_; clear n0_ n1_ n2_ n3_ n4_; (try clear hb); (try clear hb2); (try clear hk); (try clear hi); (try clear ho0)))
        (try simp only [Act.put, List.setIfInBounds_toArray, List.set_cons_zero, List.set_cons_succ])
        go_cut [52] (fun v52 wc => ∃ (kq : Nat) (x52_10 : Bool), v52 = .bool x52_10 ∧ Aside0 (reckonerlaw01_WordsSums.j1 kq l0 l1 x2_1 x7_1 x8_1 x9_1 t305 t306 t307 t310 t311 t312 x52_10 = some r) ∧ Aside0 (kq ≤ k1) ∧ Aside0 (Kd.R (Kd.int .u64) 23 wc w.heap.size (fun k_ => some k_ ≠ ((.slice Ao13 x8_1.length co13) : Value).ownBlock ∧ some k_ ≠ (v308 : Value).ownBlock ∧ some k_ ≠ (v313 : Value).ownBlock) (.slice Ao12 x7_1.length co12) x7_1) ∧ Aside0 (Kd.R (Kd.int .u64) 23 wc w.heap.size (fun k_ => some k_ ≠ ((.slice Ao12 x7_1.length co12) : Value).ownBlock ∧ some k_ ≠ (v308 : Value).ownBlock ∧ some k_ ≠ (v313 : Value).ownBlock) (.slice Ao13 x8_1.length co13) x8_1) ∧ Aside0 (Kd.R (Kd.int .u64) 23 wc w.heap.size (fun k_ => some k_ ≠ ((.slice Ao12 x7_1.length co12) : Value).ownBlock ∧ some k_ ≠ ((.slice Ao13 x8_1.length co13) : Value).ownBlock ∧ some k_ ≠ (v313 : Value).ownBlock) v308 t305) ∧ Aside0 (Kd.R (Kd.int .u64) 23 wc w.heap.size (fun k_ => some k_ ≠ ((.slice Ao12 x7_1.length co12) : Value).ownBlock ∧ some k_ ≠ ((.slice Ao13 x8_1.length co13) : Value).ownBlock ∧ some k_ ≠ (v308 : Value).ownBlock) v313 t310) ∧ Aside0 (Below w.heap.size w wc))
        case first =>
          have H := HC11.out
          clear HC11
          by_cases c16 : (x7_1.length : Int) = (x8_1.length : Int)
          · rw [if_pos c16] at H
            have c16b0 : ((x7_1.length : Int) == (x8_1.length : Int)) = true := beq_iff_eq.mpr c16
            have c16b1 : ((x7_1.length : Int) != (x8_1.length : Int)) = false := bne_eq_false_iff_eq.mpr c16
            have c16b2 : (x7_1.length == x8_1.length) = true := by first | simpa using c16 | (simp at c16 ⊢; omega)
            clear c16
            (first | rw [c16b0] | (simp only [i64_w, i32_w]; rw [c16b0]) | skip)
            have H' := Aside0.mk H
            clear H
            go_wp2
            go_meet
            case rel => exact ⟨_, (decide (x2_1 > 1)), (by first | rfl | (simp; done) | (simp [*]; done)), H', ⟨by have := HK1.out; first | omega | exact Nat.le_refl _⟩, ⟨by (with_reducible repeat (first | apply Kd.R_alloc | apply Kd.R_drewN | apply Kd.R_drew)); exact Kd.R_mono HO_7.out (fun _ hk => ⟨hk.1.1, ⟨hk.1.2, hk.2⟩⟩)⟩, ⟨by (with_reducible repeat (first | apply Kd.R_alloc | apply Kd.R_drewN | apply Kd.R_drew)); exact Kd.R_mono HO_8.out (fun _ hk => ⟨hk.1.1, ⟨hk.1.2, hk.2⟩⟩)⟩, ⟨by (with_reducible repeat (first | apply Kd.R_alloc | apply Kd.R_drewN | apply Kd.R_drew)); exact Kd.R_mono HO309.out (fun _ hk => ⟨hk.1.1.2, ⟨hk.1.2, hk.2⟩⟩)⟩, ⟨by (with_reducible repeat (first | apply Kd.R_alloc | apply Kd.R_drewN | apply Kd.R_drew)); exact Kd.R_mono HO314.out (fun _ hk => ⟨hk.1.1.2, ⟨hk.1.2, hk.2⟩⟩)⟩, ⟨by repeat (first | (with_reducible first | exact HB.out | apply below_alloc | apply pw_below_drewN | apply below_drew1) | exact HB.out)⟩⟩
          · rw [if_neg c16] at H
            have c16b0 : ((x7_1.length : Int) == (x8_1.length : Int)) = false := beq_eq_false_iff_ne.mpr c16
            have c16b1 : ((x7_1.length : Int) != (x8_1.length : Int)) = true := bne_iff_ne.mpr c16
            have c16b2 : (x7_1.length == x8_1.length) = false := by first | simpa using c16 | (simp at c16 ⊢; omega)
            (first | rw [c16b0] | (simp only [i64_w, i32_w]; rw [c16b0]) | skip)
            have H' := Aside0.mk H
            clear H
            go_wp2
            go_meet
            case rel => exact ⟨_, (true), (by first | rfl | (simp; done) | (simp [*]; done)), H', ⟨by have := HK1.out; first | omega | exact Nat.le_refl _⟩, ⟨by (with_reducible repeat (first | apply Kd.R_alloc | apply Kd.R_drewN | apply Kd.R_drew)); exact Kd.R_mono HO_7.out (fun _ hk => ⟨hk.1.1, ⟨hk.1.2, hk.2⟩⟩)⟩, ⟨by (with_reducible repeat (first | apply Kd.R_alloc | apply Kd.R_drewN | apply Kd.R_drew)); exact Kd.R_mono HO_8.out (fun _ hk => ⟨hk.1.1, ⟨hk.1.2, hk.2⟩⟩)⟩, ⟨by (with_reducible repeat (first | apply Kd.R_alloc | apply Kd.R_drewN | apply Kd.R_drew)); exact Kd.R_mono HO309.out (fun _ hk => ⟨hk.1.1.2, ⟨hk.1.2, hk.2⟩⟩)⟩, ⟨by (with_reducible repeat (first | apply Kd.R_alloc | apply Kd.R_drewN | apply Kd.R_drew)); exact Kd.R_mono HO314.out (fun _ hk => ⟨hk.1.1.2, ⟨hk.1.2, hk.2⟩⟩)⟩, ⟨by repeat (first | (with_reducible first | exact HB.out | apply below_alloc | apply pw_below_drewN | apply below_drew1) | exact HB.out)⟩⟩
        case rest =>
          clear HC11
          try clear c1
          try clear p2
          try clear c3
          try clear c8
          try clear c8b0
          try clear c12
          try clear c13
          try clear c14
          try clear c16
          try clear c16b0
          try clear c16b1
          try clear c16b2
          try clear p2
          obtain ⟨kq, x52_10, rfl, HA, HJ10, HO_7, HO_8, HO_10, HO_13, HB⟩ := hcut
          cases kq with
          | zero => exact absurd HA.out (by simp [reckonerlaw01_WordsSums.j1])
          | succ kj10 =>
            have H := HA.out
            clear HA
            simp only [reckonerlaw01_WordsSums.j1] at H
            by_cases c17 : x52_10 = true
            · subst c17
              have H1 : (if t307 = 1 then (if t312 = 1 then (if (wrap64 ((t305.length : Int) + (t310.length : Int))) = 0 then (if t306 = 0 then (reckonerlaw01_WordsSums.j2 kj10 l0 l1 x2_1 x7_1 x8_1 x9_1 (t311 != 0)) else (reckonerlaw01_WordsSums.j2 kj10 l0 l1 x2_1 x7_1 x8_1 x9_1 true)) else (reckonerlaw01_WordsSums.j2 kj10 l0 l1 x2_1 x7_1 x8_1 x9_1 true)) else (reckonerlaw01_WordsSums.j2 kj10 l0 l1 x2_1 x7_1 x8_1 x9_1 true)) else (reckonerlaw01_WordsSums.j2 kj10 l0 l1 x2_1 x7_1 x8_1 x9_1 true)) = some r := by rw [if_pos rfl] at H; exact H
              clear H
              have H := H1
              clear H1
              have HC18 := Aside0.mk H
              clear H
              go_upto_region 8 with (fail)
              go_cut [74] (fun v74 wc => ∃ (kq : Nat) (x74_17 : Bool), v74 = .bool x74_17 ∧ Aside0 (reckonerlaw01_WordsSums.j2 kq l0 l1 x2_1 x7_1 x8_1 x9_1 x74_17 = some r) ∧ Aside0 (kq ≤ kj10) ∧ Aside0 (Kd.R (Kd.int .u64) 23 wc w.heap.size (fun k_ => some k_ ≠ ((.slice Ao13 x8_1.length co13) : Value).ownBlock) (.slice Ao12 x7_1.length co12) x7_1) ∧ Aside0 (Kd.R (Kd.int .u64) 23 wc w.heap.size (fun k_ => some k_ ≠ ((.slice Ao12 x7_1.length co12) : Value).ownBlock) (.slice Ao13 x8_1.length co13) x8_1) ∧ Aside0 (Below w.heap.size w wc))
              case first =>
                have H := HC18.out
                clear HC18
                by_cases c19 : t307 = 1
                · rw [if_pos c19] at H
                  have c19b0 : (t307 == 1) = true := beq_iff_eq.mpr c19
                  have c19b1 : (t307 != 1) = false := bne_eq_false_iff_eq.mpr c19
                  clear c19
                  (first | rw [c19b0] | (simp only [i64_w, i32_w]; rw [c19b0]) | skip)
                  by_cases c20 : t312 = 1
                  · rw [if_pos c20] at H
                    have c20b0 : (t312 == 1) = true := beq_iff_eq.mpr c20
                    have c20b1 : (t312 != 1) = false := bne_eq_false_iff_eq.mpr c20
                    clear c20
                    by_cases c21 : (wrap64 ((t305.length : Int) + (t310.length : Int))) = 0
                    · rw [if_pos c21] at H
                      have c21b0 : ((wrap64 ((t305.length : Int) + (t310.length : Int))) == 0) = true := beq_iff_eq.mpr c21
                      have c21b1 : ((wrap64 ((t305.length : Int) + (t310.length : Int))) != 0) = false := bne_eq_false_iff_eq.mpr c21
                      clear c21
                      by_cases c22 : t306 = 0
                      · rw [if_pos c22] at H
                        have c22b0 : (t306 == 0) = true := beq_iff_eq.mpr c22
                        have c22b1 : (t306 != 0) = false := bne_eq_false_iff_eq.mpr c22
                        clear c22
                        have H' := Aside0.mk H
                        clear H
                        obtain ⟨Ao23, co23, eo23⟩ := Kd.R_slice HO_10.out
                        subst eo23
                        obtain ⟨Ao24, co24, eo24⟩ := Kd.R_slice HO_13.out
                        subst eo24
                        go_wp2
                        go_meet
                        case rel => exact ⟨_, ((t311 != 0)), (by first | rfl | (simp; done) | (simp [*]; done)), H', ⟨by have := HK1.out; have := HJ10.out; first | omega | exact Nat.le_refl _⟩, ⟨by (with_reducible repeat (first | apply Kd.R_alloc | apply Kd.R_drewN | apply Kd.R_drew)); exact Kd.R_mono HO_7.out (fun _ hk => hk.1)⟩, ⟨by (with_reducible repeat (first | apply Kd.R_alloc | apply Kd.R_drewN | apply Kd.R_drew)); exact Kd.R_mono HO_8.out (fun _ hk => hk.1)⟩, ⟨by repeat (first | (with_reducible first | exact HB.out | apply below_alloc | apply pw_below_drewN | apply below_drew1) | exact HB.out)⟩⟩
                      · rw [if_neg c22] at H
                        have c22b0 : (t306 == 0) = false := beq_eq_false_iff_ne.mpr c22
                        have c22b1 : (t306 != 0) = true := bne_iff_ne.mpr c22
                        have H' := Aside0.mk H
                        clear H
                        obtain ⟨Ao25, co25, eo25⟩ := Kd.R_slice HO_10.out
                        subst eo25
                        obtain ⟨Ao26, co26, eo26⟩ := Kd.R_slice HO_13.out
                        subst eo26
                        go_wp2
                        go_meet
                        case rel => exact ⟨_, (true), (by first | rfl | (simp; done) | (simp [*]; done)), H', ⟨by have := HK1.out; have := HJ10.out; first | omega | exact Nat.le_refl _⟩, ⟨by (with_reducible repeat (first | apply Kd.R_alloc | apply Kd.R_drewN | apply Kd.R_drew)); exact Kd.R_mono HO_7.out (fun _ hk => hk.1)⟩, ⟨by (with_reducible repeat (first | apply Kd.R_alloc | apply Kd.R_drewN | apply Kd.R_drew)); exact Kd.R_mono HO_8.out (fun _ hk => hk.1)⟩, ⟨by repeat (first | (with_reducible first | exact HB.out | apply below_alloc | apply pw_below_drewN | apply below_drew1) | exact HB.out)⟩⟩
                    · rw [if_neg c21] at H
                      have c21b0 : ((wrap64 ((t305.length : Int) + (t310.length : Int))) == 0) = false := beq_eq_false_iff_ne.mpr c21
                      have c21b1 : ((wrap64 ((t305.length : Int) + (t310.length : Int))) != 0) = true := bne_iff_ne.mpr c21
                      have H' := Aside0.mk H
                      clear H
                      obtain ⟨Ao27, co27, eo27⟩ := Kd.R_slice HO_10.out
                      subst eo27
                      obtain ⟨Ao28, co28, eo28⟩ := Kd.R_slice HO_13.out
                      subst eo28
                      go_wp2
                      go_meet
                      case rel => exact ⟨_, (true), (by first | rfl | (simp; done) | (simp [*]; done)), H', ⟨by have := HK1.out; have := HJ10.out; first | omega | exact Nat.le_refl _⟩, ⟨by (with_reducible repeat (first | apply Kd.R_alloc | apply Kd.R_drewN | apply Kd.R_drew)); exact Kd.R_mono HO_7.out (fun _ hk => hk.1)⟩, ⟨by (with_reducible repeat (first | apply Kd.R_alloc | apply Kd.R_drewN | apply Kd.R_drew)); exact Kd.R_mono HO_8.out (fun _ hk => hk.1)⟩, ⟨by repeat (first | (with_reducible first | exact HB.out | apply below_alloc | apply pw_below_drewN | apply below_drew1) | exact HB.out)⟩⟩
                  · rw [if_neg c20] at H
                    have c20b0 : (t312 == 1) = false := beq_eq_false_iff_ne.mpr c20
                    have c20b1 : (t312 != 1) = true := bne_iff_ne.mpr c20
                    have H' := Aside0.mk H
                    clear H
                    go_wp2
                    go_meet
                    case rel => exact ⟨_, (true), (by first | rfl | (simp; done) | (simp [*]; done)), H', ⟨by have := HK1.out; have := HJ10.out; first | omega | exact Nat.le_refl _⟩, ⟨by (with_reducible repeat (first | apply Kd.R_alloc | apply Kd.R_drewN | apply Kd.R_drew)); exact Kd.R_mono HO_7.out (fun _ hk => hk.1)⟩, ⟨by (with_reducible repeat (first | apply Kd.R_alloc | apply Kd.R_drewN | apply Kd.R_drew)); exact Kd.R_mono HO_8.out (fun _ hk => hk.1)⟩, ⟨by repeat (first | (with_reducible first | exact HB.out | apply below_alloc | apply pw_below_drewN | apply below_drew1) | exact HB.out)⟩⟩
                · rw [if_neg c19] at H
                  have c19b0 : (t307 == 1) = false := beq_eq_false_iff_ne.mpr c19
                  have c19b1 : (t307 != 1) = true := bne_iff_ne.mpr c19
                  (first | rw [c19b0] | (simp only [i64_w, i32_w]; rw [c19b0]) | skip)
                  have H' := Aside0.mk H
                  clear H
                  go_wp2
                  go_meet
                  case rel => exact ⟨_, (true), (by first | rfl | (simp; done) | (simp [*]; done)), H', ⟨by have := HK1.out; have := HJ10.out; first | omega | exact Nat.le_refl _⟩, ⟨by (with_reducible repeat (first | apply Kd.R_alloc | apply Kd.R_drewN | apply Kd.R_drew)); exact Kd.R_mono HO_7.out (fun _ hk => hk.1)⟩, ⟨by (with_reducible repeat (first | apply Kd.R_alloc | apply Kd.R_drewN | apply Kd.R_drew)); exact Kd.R_mono HO_8.out (fun _ hk => hk.1)⟩, ⟨by repeat (first | (with_reducible first | exact HB.out | apply below_alloc | apply pw_below_drewN | apply below_drew1) | exact HB.out)⟩⟩
              case rest =>
                clear HC18
                try clear c1
                try clear c2
                try clear p2
                try clear c3
                try clear p6
                try clear c8
                try clear c8b0
                try clear c12
                try clear c13
                try clear c14
                try clear c16
                try clear c16b0
                try clear c16b1
                try clear c16b2
                try clear c17
                try clear c19
                try clear c19b0
                try clear c19b1
                try clear c20
                try clear c20b0
                try clear c20b1
                try clear c21
                try clear c21b0
                try clear c21b1
                try clear c22
                try clear c22b0
                try clear c22b1
                try clear p2
                obtain ⟨kq, x74_17, rfl, HA, HJ17, HO_7, HO_8, HB⟩ := hcut
                cases kq with
                | zero => exact absurd HA.out (by simp [reckonerlaw01_WordsSums.j2])
                | succ kj17 =>
                  have H := HA.out
                  clear HA
                  simp only [reckonerlaw01_WordsSums.j2] at H
                  by_cases c29 : x74_17 = true
                  · subst c29
                    have H1 : (none) = some r := by rw [if_pos rfl] at H; exact H
                    clear H
                    have H := H1
                    clear H1
                    exact absurd H (by simp)
                  · replace c29 := Bool.eq_false_iff.mpr c29
                    subst c29
                    have H1 : (if x9_1 = 0 then ((reckonerlaw01_equal.f l0 l1).bind fun bt315 => (reckonerlaw01_WordsSums.l0 kj17 l0 l1 (Int.tmod x2_1 2) bt315.1 bt315.2 (wrap64 (x9_1 + 1)))) else (reckonerlaw01_WordsSums.l0 kj17 l0 l1 (Int.tmod x2_1 2) x7_1 x8_1 (wrap64 (x9_1 + 1)))) = some r := by rw [if_neg (show ¬ (false = true) by decide)] at H; exact H
                    clear H
                    have H := H1
                    clear H1
                    by_cases c30 : x9_1 = 0
                    · rw [if_pos c30] at H
                      have c30b0 : (x9_1 == 0) = true := beq_iff_eq.mpr c30
                      have c30b1 : (x9_1 != 0) = false := bne_eq_false_iff_eq.mpr c30
                      clear c30
                      replace H := Option.bind_eq_some_iff.mp H
                      obtain ⟨⟨t315, t316⟩, A310, H⟩ := H
                      replace H : (reckonerlaw01_WordsSums.l0 kj17 l0 l1 (Int.tmod x2_1 2) t315 t316 (wrap64 (x9_1 + 1))) = some r := H
                      have A31 := Aside0.mk A310
                      clear A310
                      have H' := Aside0.mk H
                      clear H
                      go_wp2_with (first | ((with_reducible refine gate_callee (f := 18) rfl ?_); refine goesL_ (some 122) rfl rfl Tryd.func18 (by kernel_rfl) rfl #[.slice A0 l0.length c0, .slice A1 l1.length c1] rfl (by (try simp only [List.map_toArray, List.map_cons, List.map_nil]); first | done | rfl | (simp only [List.length_drop, List.length_take]; rfl)) ?_; (with_reducible refine (reckonerlaw01_equal.calls _ _ l0 _ _ l1 t315 t316 _ ?side1 ?side2 ?side3 ?side4 A31.out).mono ?_); (case side1 => repeat (first | exact (Kd.C_below HR0.out HB.out) | (with_reducible refine Kd.C_alloc ?_ _) | (with_reducible refine Kd.C_drewN ?_ _) | (with_reducible refine Kd.C_drew ?_))); (case side2 => exact HC0.out); (case side3 => repeat (first | exact (Kd.C_below HR1.out HB.out) | (with_reducible refine Kd.C_alloc ?_ _) | (with_reducible refine Kd.C_drewN ?_ _) | (with_reducible refine Kd.C_drew ?_))); (case side4 => exact HC1.out); rintro e w32 ⟨v317, v319, rfl, ho0, ho1, hb⟩; refine ⟨_, rfl, ?_⟩; have n0_ := Aside0.mk (Kd.R_mono (Kd.R_told (Kd.R_told (Kd.R_old (by (with_reducible repeat (first | apply Kd.R_alloc | apply Kd.R_drewN | apply Kd.R_drew)); exact HO_7.out) hb) (Kd.R_base ho0)) (Kd.R_base ho1)) (fun _ h_ => h_.1)); have n1_ := Aside0.mk (Kd.R_mono (Kd.R_told (Kd.R_told (Kd.R_old (by (with_reducible repeat (first | apply Kd.R_alloc | apply Kd.R_drewN | apply Kd.R_drew)); exact HO_8.out) hb) (Kd.R_base ho0)) (Kd.R_base ho1)) (fun _ h_ => h_.1)); have n2_ := Aside0.mk (Kd.R_lower (Kd.R_new' (Kd.R_new' ho0 (Kd.R_lt (by (with_reducible repeat (first | apply Kd.R_alloc | apply Kd.R_drewN | apply Kd.R_drew)); exact HO_7.out))) (Kd.R_lt (by (with_reducible repeat (first | apply Kd.R_alloc | apply Kd.R_drewN | apply Kd.R_drew)); exact HO_8.out))) (below_size (by repeat (first | (with_reducible first | exact HB.out | apply below_alloc | apply pw_below_drewN | apply below_drew1) | exact HB.out)))); have n3_ := Aside0.mk (Kd.R_lower (Kd.R_new' (Kd.R_new' ho1 (Kd.R_lt (by (with_reducible repeat (first | apply Kd.R_alloc | apply Kd.R_drewN | apply Kd.R_drew)); exact HO_7.out))) (Kd.R_lt (by (with_reducible repeat (first | apply Kd.R_alloc | apply Kd.R_drewN | apply Kd.R_drew)); exact HO_8.out))) (below_size (by repeat (first | (with_reducible first | exact HB.out | apply below_alloc | apply pw_below_drewN | apply below_drew1) | exact HB.out)))); have n4_ := Aside0.mk (below_step (by repeat (first | (with_reducible first | exact HB.out | apply below_alloc | apply pw_below_drewN | apply below_drew1) | exact HB.out)) hb); clear HO_7; clear HO_8; clear HB; have HO_7 := n0_; have HO_8 := n1_; have HO318 := n2_; have HO320 := n3_; have HB := n4_; clear n0_ n1_ n2_ n3_ n4_; (try clear hb); (try clear hb2); (try clear hk); (try clear hi); (try clear ho0); (try clear ho1)))
                      go_roundg kj17
                      case measure => have := HK1.out; have := HJ10.out; have := HJ17.out; omega
                      case rel => exact ⟨(Int.tmod x2_1 2), (t315), (t316), (wrap64 (x9_1 + 1)), (by first | rfl | (simp; done) | (simp [*]; done)), (by first | rfl | (simp; done) | (simp [*]; done)), H', ⟨by have := HK1.out; have := HJ10.out; have := HJ17.out; omega⟩, ⟨by (with_reducible repeat (first | apply Kd.R_alloc | apply Kd.R_drewN | apply Kd.R_drew)); exact Kd.R_mono HO318.out (fun _ hk => hk.1.1)⟩, ⟨by (with_reducible repeat (first | apply Kd.R_alloc | apply Kd.R_drewN | apply Kd.R_drew)); exact Kd.R_mono HO320.out (fun _ hk => hk.1.1)⟩, ⟨by repeat (first | (with_reducible first | exact HB.out | apply below_alloc | apply pw_below_drewN | apply below_drew1) | exact HB.out)⟩⟩
                    · rw [if_neg c30] at H
                      have c30b0 : (x9_1 == 0) = false := beq_eq_false_iff_ne.mpr c30
                      have c30b1 : (x9_1 != 0) = true := bne_iff_ne.mpr c30
                      have H' := Aside0.mk H
                      clear H
                      go_wp2
                      go_roundg kj17
                      case measure => have := HK1.out; have := HJ10.out; have := HJ17.out; omega
                      case rel => exact ⟨(Int.tmod x2_1 2), (x7_1), (x8_1), (wrap64 (x9_1 + 1)), (by first | rfl | (simp; done) | (simp [*]; done)), (by first | rfl | (simp; done) | (simp [*]; done)), H', ⟨by have := HK1.out; have := HJ10.out; have := HJ17.out; omega⟩, ⟨by (with_reducible repeat (first | apply Kd.R_alloc | apply Kd.R_drewN | apply Kd.R_drew)); exact HO_7.out⟩, ⟨by (with_reducible repeat (first | apply Kd.R_alloc | apply Kd.R_drewN | apply Kd.R_drew)); exact HO_8.out⟩, ⟨by repeat (first | (with_reducible first | exact HB.out | apply below_alloc | apply pw_below_drewN | apply below_drew1) | exact HB.out)⟩⟩
            · replace c17 := Bool.eq_false_iff.mpr c17
              subst c17
              have H1 : ((reckonerref01_Add.f kj10 x7_1 x8_1 x2_1).bind fun bt321 => ((reckonerref01_Sub.f kj10 x7_1 x8_1 x2_1).bind fun bt325 => (if t307 = 0 then (if t312 = 0 then ((reckonerlaw01_same.f kj10 t305 bt321.1).bind fun t329 => (if t329 = true then (if t306 = bt321.2 then ((reckonerlaw01_same.f kj10 t310 bt325.1).bind fun t330 => (if t330 = true then (reckonerlaw01_WordsSums.j3 kj10 l0 l1 x2_1 x7_1 x8_1 x9_1 (t311 != bt325.2)) else (reckonerlaw01_WordsSums.j3 kj10 l0 l1 x2_1 x7_1 x8_1 x9_1 true))) else (reckonerlaw01_WordsSums.j3 kj10 l0 l1 x2_1 x7_1 x8_1 x9_1 true)) else (reckonerlaw01_WordsSums.j3 kj10 l0 l1 x2_1 x7_1 x8_1 x9_1 true))) else (reckonerlaw01_WordsSums.j3 kj10 l0 l1 x2_1 x7_1 x8_1 x9_1 true)) else (reckonerlaw01_WordsSums.j3 kj10 l0 l1 x2_1 x7_1 x8_1 x9_1 true)))) = some r := by rw [if_neg (show ¬ (false = true) by decide)] at H; exact H
              clear H
              have H := H1
              clear H1
              replace H := Option.bind_eq_some_iff.mp H
              obtain ⟨⟨t321, t322⟩, A330, H⟩ := H
              replace H : ((reckonerref01_Sub.f kj10 x7_1 x8_1 x2_1).bind fun bt325 => (if t307 = 0 then (if t312 = 0 then ((reckonerlaw01_same.f kj10 t305 t321).bind fun t329 => (if t329 = true then (if t306 = t322 then ((reckonerlaw01_same.f kj10 t310 bt325.1).bind fun t330 => (if t330 = true then (reckonerlaw01_WordsSums.j3 kj10 l0 l1 x2_1 x7_1 x8_1 x9_1 (t311 != bt325.2)) else (reckonerlaw01_WordsSums.j3 kj10 l0 l1 x2_1 x7_1 x8_1 x9_1 true))) else (reckonerlaw01_WordsSums.j3 kj10 l0 l1 x2_1 x7_1 x8_1 x9_1 true)) else (reckonerlaw01_WordsSums.j3 kj10 l0 l1 x2_1 x7_1 x8_1 x9_1 true))) else (reckonerlaw01_WordsSums.j3 kj10 l0 l1 x2_1 x7_1 x8_1 x9_1 true)) else (reckonerlaw01_WordsSums.j3 kj10 l0 l1 x2_1 x7_1 x8_1 x9_1 true))) = some r := H
              have A33 := Aside0.mk A330
              clear A330
              replace H := Option.bind_eq_some_iff.mp H
              obtain ⟨⟨t325, t326⟩, A340, H⟩ := H
              replace H : (if t307 = 0 then (if t312 = 0 then ((reckonerlaw01_same.f kj10 t305 t321).bind fun t329 => (if t329 = true then (if t306 = t322 then ((reckonerlaw01_same.f kj10 t310 t325).bind fun t330 => (if t330 = true then (reckonerlaw01_WordsSums.j3 kj10 l0 l1 x2_1 x7_1 x8_1 x9_1 (t311 != t326)) else (reckonerlaw01_WordsSums.j3 kj10 l0 l1 x2_1 x7_1 x8_1 x9_1 true))) else (reckonerlaw01_WordsSums.j3 kj10 l0 l1 x2_1 x7_1 x8_1 x9_1 true)) else (reckonerlaw01_WordsSums.j3 kj10 l0 l1 x2_1 x7_1 x8_1 x9_1 true))) else (reckonerlaw01_WordsSums.j3 kj10 l0 l1 x2_1 x7_1 x8_1 x9_1 true)) else (reckonerlaw01_WordsSums.j3 kj10 l0 l1 x2_1 x7_1 x8_1 x9_1 true)) = some r := H
              have A34 := Aside0.mk A340
              clear A340
              have HC35 := Aside0.mk H
              clear H
              go_upto_region 12 with (first | ((with_reducible refine gate_callee (f := 15) rfl ?_); refine goesL_ (some 79) rfl rfl Tryd.func15 (by kernel_rfl) rfl #[.slice Ao12 x7_1.length co12, .slice Ao13 x8_1.length co13, .int .u64 x2_1] rfl (by (try simp only [List.map_toArray, List.map_cons, List.map_nil]); first | done | rfl | (simp only [List.length_drop, List.length_take]; rfl)) ?_; (with_reducible refine (reckonerref01_Add.calls kj10 _ _ x7_1 _ _ x8_1 x2_1 t321 t322 _ ?side1 ?side2 ?side3 ?side4 A33.out).mono ?_); (case side1 => repeat (first | exact (Kd.R_reads' HO_7.out).2.2 | (with_reducible refine Kd.C_alloc ?_ _) | (with_reducible refine Kd.C_drewN ?_ _) | (with_reducible refine Kd.C_drew ?_))); (case side2 => exact (Kd.R_reads' HO_7.out).2.1); (case side3 => repeat (first | exact (Kd.R_reads' HO_8.out).2.2 | (with_reducible refine Kd.C_alloc ?_ _) | (with_reducible refine Kd.C_drewN ?_ _) | (with_reducible refine Kd.C_drew ?_))); (case side4 => exact (Kd.R_reads' HO_8.out).2.1); rintro e w36 ⟨v323, rfl, ho0, hb⟩; refine ⟨_, rfl, ?_⟩; have n0_ := Aside0.mk (Kd.R_elder' (by (with_reducible repeat (first | apply Kd.R_alloc | apply Kd.R_drewN | apply Kd.R_drew)); exact HO_7.out) (Kd.R_base ho0) hb); have n1_ := Aside0.mk (Kd.R_elder' (by (with_reducible repeat (first | apply Kd.R_alloc | apply Kd.R_drewN | apply Kd.R_drew)); exact HO_8.out) (Kd.R_base ho0) hb); have n2_ := Aside0.mk (Kd.R_elder' (by (with_reducible repeat (first | apply Kd.R_alloc | apply Kd.R_drewN | apply Kd.R_drew)); exact HO_10.out) (Kd.R_base ho0) hb); have n3_ := Aside0.mk (Kd.R_elder' (by (with_reducible repeat (first | apply Kd.R_alloc | apply Kd.R_drewN | apply Kd.R_drew)); exact HO_13.out) (Kd.R_base ho0) hb); have n4_ := Aside0.mk (Kd.R_lower (Kd.R_new' (Kd.R_new' (Kd.R_new' (Kd.R_new' ho0 (Kd.R_lt (by (with_reducible repeat (first | apply Kd.R_alloc | apply Kd.R_drewN | apply Kd.R_drew)); exact HO_7.out))) (Kd.R_lt (by (with_reducible repeat (first | apply Kd.R_alloc | apply Kd.R_drewN | apply Kd.R_drew)); exact HO_8.out))) (Kd.R_lt (by (with_reducible repeat (first | apply Kd.R_alloc | apply Kd.R_drewN | apply Kd.R_drew)); exact HO_10.out))) (Kd.R_lt (by (with_reducible repeat (first | apply Kd.R_alloc | apply Kd.R_drewN | apply Kd.R_drew)); exact HO_13.out))) (below_size (by repeat (first | (with_reducible first | exact HB.out | apply below_alloc | apply pw_below_drewN | apply below_drew1) | exact HB.out)))); have n5_ := Aside0.mk (below_step (by repeat (first | (with_reducible first | exact HB.out | apply below_alloc | apply pw_below_drewN | apply below_drew1) | exact HB.out)) hb); clear HO_7; clear HO_8; clear HO_10; clear HO_13; clear HB; have HO_7 := n0_; have HO_8 := n1_; have HO_10 := n2_; have HO_13 := n3_; have HO324 := n4_; have HB := n5_; clear n0_ n1_ n2_ n3_ n4_ n5_; (try clear hb); (try clear hb2); (try clear hk); (try clear hi); (try clear ho0)) | ((with_reducible refine gate_callee (f := 16) rfl ?_); refine goesL_ (some 86) rfl rfl Tryd.func16 (by kernel_rfl) rfl #[.slice Ao12 x7_1.length co12, .slice Ao13 x8_1.length co13, .int .u64 x2_1] rfl (by (try simp only [List.map_toArray, List.map_cons, List.map_nil]); first | done | rfl | (simp only [List.length_drop, List.length_take]; rfl)) ?_; (with_reducible refine (reckonerref01_Sub.calls kj10 _ _ x7_1 _ _ x8_1 x2_1 t325 t326 _ ?side1 ?side2 ?side3 ?side4 A34.out).mono ?_); (case side1 => repeat (first | exact (Kd.R_reads' HO_7.out).2.2 | (with_reducible refine Kd.C_alloc ?_ _) | (with_reducible refine Kd.C_drewN ?_ _) | (with_reducible refine Kd.C_drew ?_))); (case side2 => exact (Kd.R_reads' HO_7.out).2.1); (case side3 => repeat (first | exact (Kd.R_reads' HO_8.out).2.2 | (with_reducible refine Kd.C_alloc ?_ _) | (with_reducible refine Kd.C_drewN ?_ _) | (with_reducible refine Kd.C_drew ?_))); (case side4 => exact (Kd.R_reads' HO_8.out).2.1); rintro e w37 ⟨v327, rfl, ho0, hb⟩; refine ⟨_, rfl, ?_⟩; have n0_ := Aside0.mk (Kd.R_elder' (by (with_reducible repeat (first | apply Kd.R_alloc | apply Kd.R_drewN | apply Kd.R_drew)); exact HO_7.out) (Kd.R_base ho0) hb); have n1_ := Aside0.mk (Kd.R_elder' (by (with_reducible repeat (first | apply Kd.R_alloc | apply Kd.R_drewN | apply Kd.R_drew)); exact HO_8.out) (Kd.R_base ho0) hb); have n2_ := Aside0.mk (Kd.R_elder' (by (with_reducible repeat (first | apply Kd.R_alloc | apply Kd.R_drewN | apply Kd.R_drew)); exact HO_10.out) (Kd.R_base ho0) hb); have n3_ := Aside0.mk (Kd.R_elder' (by (with_reducible repeat (first | apply Kd.R_alloc | apply Kd.R_drewN | apply Kd.R_drew)); exact HO_13.out) (Kd.R_base ho0) hb); have n4_ := Aside0.mk (Kd.R_elder' (by (with_reducible repeat (first | apply Kd.R_alloc | apply Kd.R_drewN | apply Kd.R_drew)); exact HO324.out) (Kd.R_base ho0) hb); have n5_ := Aside0.mk (Kd.R_lower (Kd.R_new' (Kd.R_new' (Kd.R_new' (Kd.R_new' (Kd.R_new' ho0 (Kd.R_lt (by (with_reducible repeat (first | apply Kd.R_alloc | apply Kd.R_drewN | apply Kd.R_drew)); exact HO_7.out))) (Kd.R_lt (by (with_reducible repeat (first | apply Kd.R_alloc | apply Kd.R_drewN | apply Kd.R_drew)); exact HO_8.out))) (Kd.R_lt (by (with_reducible repeat (first | apply Kd.R_alloc | apply Kd.R_drewN | apply Kd.R_drew)); exact HO_10.out))) (Kd.R_lt (by (with_reducible repeat (first | apply Kd.R_alloc | apply Kd.R_drewN | apply Kd.R_drew)); exact HO_13.out))) (Kd.R_lt (by (with_reducible repeat (first | apply Kd.R_alloc | apply Kd.R_drewN | apply Kd.R_drew)); exact HO324.out))) (below_size (by repeat (first | (with_reducible first | exact HB.out | apply below_alloc | apply pw_below_drewN | apply below_drew1) | exact HB.out)))); have n6_ := Aside0.mk (below_step (by repeat (first | (with_reducible first | exact HB.out | apply below_alloc | apply pw_below_drewN | apply below_drew1) | exact HB.out)) hb); clear HO_7; clear HO_8; clear HO_10; clear HO_13; clear HO324; clear HB; have HO_7 := n0_; have HO_8 := n1_; have HO_10 := n2_; have HO_13 := n3_; have HO324 := n4_; have HO328 := n5_; have HB := n6_; clear n0_ n1_ n2_ n3_ n4_ n5_ n6_; (try clear hb); (try clear hb2); (try clear hk); (try clear hi); (try clear ho0)))
              (try simp only [Act.put, List.setIfInBounds_toArray, List.set_cons_zero, List.set_cons_succ])
              go_cut [116] (fun v116 wc => ∃ (kq : Nat) (x116_34 : Bool), v116 = .bool x116_34 ∧ Aside0 (reckonerlaw01_WordsSums.j3 kq l0 l1 x2_1 x7_1 x8_1 x9_1 x116_34 = some r) ∧ Aside0 (kq ≤ kj10) ∧ Aside0 (Kd.R (Kd.int .u64) 23 wc w.heap.size (fun k_ => some k_ ≠ ((.slice Ao13 x8_1.length co13) : Value).ownBlock) (.slice Ao12 x7_1.length co12) x7_1) ∧ Aside0 (Kd.R (Kd.int .u64) 23 wc w.heap.size (fun k_ => some k_ ≠ ((.slice Ao12 x7_1.length co12) : Value).ownBlock) (.slice Ao13 x8_1.length co13) x8_1) ∧ Aside0 (Below w.heap.size w wc))
              case first =>
                have H := HC35.out
                clear HC35
                by_cases c38 : t307 = 0
                · rw [if_pos c38] at H
                  have c38b0 : (t307 == 0) = true := beq_iff_eq.mpr c38
                  have c38b1 : (t307 != 0) = false := bne_eq_false_iff_eq.mpr c38
                  clear c38
                  (first | rw [c38b0] | (simp only [i64_w, i32_w]; rw [c38b0]) | skip)
                  by_cases c39 : t312 = 0
                  · rw [if_pos c39] at H
                    have c39b0 : (t312 == 0) = true := beq_iff_eq.mpr c39
                    have c39b1 : (t312 != 0) = false := bne_eq_false_iff_eq.mpr c39
                    clear c39
                    replace H := Option.bind_eq_some_iff.mp H
                    obtain ⟨t329, A400, H⟩ := H
                    replace H : (if t329 = true then (if t306 = t322 then ((reckonerlaw01_same.f kj10 t310 t325).bind fun t330 => (if t330 = true then (reckonerlaw01_WordsSums.j3 kj10 l0 l1 x2_1 x7_1 x8_1 x9_1 (t311 != t326)) else (reckonerlaw01_WordsSums.j3 kj10 l0 l1 x2_1 x7_1 x8_1 x9_1 true))) else (reckonerlaw01_WordsSums.j3 kj10 l0 l1 x2_1 x7_1 x8_1 x9_1 true)) else (reckonerlaw01_WordsSums.j3 kj10 l0 l1 x2_1 x7_1 x8_1 x9_1 true)) = some r := H
                    have A40 := Aside0.mk A400
                    clear A400
                    by_cases c41 : t329 = true
                    · subst c41
                      have H1 : (if t306 = t322 then ((reckonerlaw01_same.f kj10 t310 t325).bind fun t330 => (if t330 = true then (reckonerlaw01_WordsSums.j3 kj10 l0 l1 x2_1 x7_1 x8_1 x9_1 (t311 != t326)) else (reckonerlaw01_WordsSums.j3 kj10 l0 l1 x2_1 x7_1 x8_1 x9_1 true))) else (reckonerlaw01_WordsSums.j3 kj10 l0 l1 x2_1 x7_1 x8_1 x9_1 true)) = some r := by rw [if_pos rfl] at H; exact H
                      clear H
                      have H := H1
                      clear H1
                      by_cases c42 : t306 = t322
                      · rw [if_pos c42] at H
                        have c42b0 : (t306 == t322) = true := beq_iff_eq.mpr c42
                        have c42b1 : (t306 != t322) = false := bne_eq_false_iff_eq.mpr c42
                        clear c42
                        replace H := Option.bind_eq_some_iff.mp H
                        obtain ⟨t330, A430, H⟩ := H
                        replace H : (if t330 = true then (reckonerlaw01_WordsSums.j3 kj10 l0 l1 x2_1 x7_1 x8_1 x9_1 (t311 != t326)) else (reckonerlaw01_WordsSums.j3 kj10 l0 l1 x2_1 x7_1 x8_1 x9_1 true)) = some r := H
                        have A43 := Aside0.mk A430
                        clear A430
                        by_cases c44 : t330 = true
                        · subst c44
                          have H1 : (reckonerlaw01_WordsSums.j3 kj10 l0 l1 x2_1 x7_1 x8_1 x9_1 (t311 != t326)) = some r := by rw [if_pos rfl] at H; exact H
                          clear H
                          have H := H1
                          clear H1
                          have H' := Aside0.mk H
                          clear H
                          obtain ⟨Ao45, co45, eo45⟩ := Kd.R_slice HO_10.out
                          subst eo45
                          obtain ⟨Ao46, co46, eo46⟩ := Kd.R_slice HO324.out
                          subst eo46
                          go_wp2_with (first | (go_at_call 17; (with_reducible refine (reckonerlaw01_same.calls kj10 _ _ t305 _ _ t321 true _ ?side1 ?side2 ?side3 ?side4 A40.out).mono ?_); (case side1 => repeat (first | exact (Kd.R_reads' HO_10.out).2.2 | (with_reducible refine Kd.C_alloc ?_ _) | (with_reducible refine Kd.C_drewN ?_ _) | (with_reducible refine Kd.C_drew ?_))); (case side2 => exact (Kd.R_reads' HO_10.out).2.1); (case side3 => repeat (first | exact (Kd.R_reads' HO324.out).2.2 | (with_reducible refine Kd.C_alloc ?_ _) | (with_reducible refine Kd.C_drewN ?_ _) | (with_reducible refine Kd.C_drew ?_))); (case side4 => exact (Kd.R_reads' HO324.out).2.1); rintro e w' ⟨rfl, ⟨nd, rfl⟩⟩; obtain ⟨Ao47, co47, eo47⟩ := Kd.R_slice HO_13.out; subst eo47; obtain ⟨Ao48, co48, eo48⟩ := Kd.R_slice HO328.out; subst eo48) | (go_at_call 17; (with_reducible refine (reckonerlaw01_same.calls kj10 _ _ t310 _ _ t325 true _ ?side1 ?side2 ?side3 ?side4 A43.out).mono ?_); (case side1 => repeat (first | exact (Kd.R_reads' HO_13.out).2.2 | (with_reducible refine Kd.C_alloc ?_ _) | (with_reducible refine Kd.C_drewN ?_ _) | (with_reducible refine Kd.C_drew ?_))); (case side2 => exact (Kd.R_reads' HO_13.out).2.1); (case side3 => repeat (first | exact (Kd.R_reads' HO328.out).2.2 | (with_reducible refine Kd.C_alloc ?_ _) | (with_reducible refine Kd.C_drewN ?_ _) | (with_reducible refine Kd.C_drew ?_))); (case side4 => exact (Kd.R_reads' HO328.out).2.1); rintro e w' ⟨rfl, ⟨nd, rfl⟩⟩))
                          go_meet
                          case rel => exact ⟨_, ((t311 != t326)), (by first | rfl | (simp; done) | (simp [*]; done)), H', ⟨by have := HK1.out; have := HJ10.out; first | omega | exact Nat.le_refl _⟩, ⟨by (with_reducible repeat (first | apply Kd.R_alloc | apply Kd.R_drewN | apply Kd.R_drew)); exact Kd.R_mono HO_7.out (fun _ hk => hk.1.1.1)⟩, ⟨by (with_reducible repeat (first | apply Kd.R_alloc | apply Kd.R_drewN | apply Kd.R_drew)); exact Kd.R_mono HO_8.out (fun _ hk => hk.1.1.1)⟩, ⟨by repeat (first | (with_reducible first | exact HB.out | apply below_alloc | apply pw_below_drewN | apply below_drew1) | exact HB.out)⟩⟩
                        · replace c44 := Bool.eq_false_iff.mpr c44
                          subst c44
                          have H1 : (reckonerlaw01_WordsSums.j3 kj10 l0 l1 x2_1 x7_1 x8_1 x9_1 true) = some r := by rw [if_neg (show ¬ (false = true) by decide)] at H; exact H
                          clear H
                          have H := H1
                          clear H1
                          have H' := Aside0.mk H
                          clear H
                          obtain ⟨Ao49, co49, eo49⟩ := Kd.R_slice HO_10.out
                          subst eo49
                          obtain ⟨Ao50, co50, eo50⟩ := Kd.R_slice HO324.out
                          subst eo50
                          go_wp2_with (first | (go_at_call 17; (with_reducible refine (reckonerlaw01_same.calls kj10 _ _ t305 _ _ t321 true _ ?side1 ?side2 ?side3 ?side4 A40.out).mono ?_); (case side1 => repeat (first | exact (Kd.R_reads' HO_10.out).2.2 | (with_reducible refine Kd.C_alloc ?_ _) | (with_reducible refine Kd.C_drewN ?_ _) | (with_reducible refine Kd.C_drew ?_))); (case side2 => exact (Kd.R_reads' HO_10.out).2.1); (case side3 => repeat (first | exact (Kd.R_reads' HO324.out).2.2 | (with_reducible refine Kd.C_alloc ?_ _) | (with_reducible refine Kd.C_drewN ?_ _) | (with_reducible refine Kd.C_drew ?_))); (case side4 => exact (Kd.R_reads' HO324.out).2.1); rintro e w' ⟨rfl, ⟨nd, rfl⟩⟩; obtain ⟨Ao51, co51, eo51⟩ := Kd.R_slice HO_13.out; subst eo51; obtain ⟨Ao52, co52, eo52⟩ := Kd.R_slice HO328.out; subst eo52) | (go_at_call 17; (with_reducible refine (reckonerlaw01_same.calls kj10 _ _ t310 _ _ t325 false _ ?side1 ?side2 ?side3 ?side4 A43.out).mono ?_); (case side1 => repeat (first | exact (Kd.R_reads' HO_13.out).2.2 | (with_reducible refine Kd.C_alloc ?_ _) | (with_reducible refine Kd.C_drewN ?_ _) | (with_reducible refine Kd.C_drew ?_))); (case side2 => exact (Kd.R_reads' HO_13.out).2.1); (case side3 => repeat (first | exact (Kd.R_reads' HO328.out).2.2 | (with_reducible refine Kd.C_alloc ?_ _) | (with_reducible refine Kd.C_drewN ?_ _) | (with_reducible refine Kd.C_drew ?_))); (case side4 => exact (Kd.R_reads' HO328.out).2.1); rintro e w' ⟨rfl, ⟨nd, rfl⟩⟩))
                          go_meet
                          case rel => exact ⟨_, (true), (by first | rfl | (simp; done) | (simp [*]; done)), H', ⟨by have := HK1.out; have := HJ10.out; first | omega | exact Nat.le_refl _⟩, ⟨by (with_reducible repeat (first | apply Kd.R_alloc | apply Kd.R_drewN | apply Kd.R_drew)); exact Kd.R_mono HO_7.out (fun _ hk => hk.1.1.1)⟩, ⟨by (with_reducible repeat (first | apply Kd.R_alloc | apply Kd.R_drewN | apply Kd.R_drew)); exact Kd.R_mono HO_8.out (fun _ hk => hk.1.1.1)⟩, ⟨by repeat (first | (with_reducible first | exact HB.out | apply below_alloc | apply pw_below_drewN | apply below_drew1) | exact HB.out)⟩⟩
                      · rw [if_neg c42] at H
                        have c42b0 : (t306 == t322) = false := beq_eq_false_iff_ne.mpr c42
                        have c42b1 : (t306 != t322) = true := bne_iff_ne.mpr c42
                        have H' := Aside0.mk H
                        clear H
                        obtain ⟨Ao53, co53, eo53⟩ := Kd.R_slice HO_10.out
                        subst eo53
                        obtain ⟨Ao54, co54, eo54⟩ := Kd.R_slice HO324.out
                        subst eo54
                        go_wp2_with (first | (go_at_call 17; (with_reducible refine (reckonerlaw01_same.calls kj10 _ _ t305 _ _ t321 true _ ?side1 ?side2 ?side3 ?side4 A40.out).mono ?_); (case side1 => repeat (first | exact (Kd.R_reads' HO_10.out).2.2 | (with_reducible refine Kd.C_alloc ?_ _) | (with_reducible refine Kd.C_drewN ?_ _) | (with_reducible refine Kd.C_drew ?_))); (case side2 => exact (Kd.R_reads' HO_10.out).2.1); (case side3 => repeat (first | exact (Kd.R_reads' HO324.out).2.2 | (with_reducible refine Kd.C_alloc ?_ _) | (with_reducible refine Kd.C_drewN ?_ _) | (with_reducible refine Kd.C_drew ?_))); (case side4 => exact (Kd.R_reads' HO324.out).2.1); rintro e w' ⟨rfl, ⟨nd, rfl⟩⟩))
                        go_meet
                        case rel => exact ⟨_, (true), (by first | rfl | (simp; done) | (simp [*]; done)), H', ⟨by have := HK1.out; have := HJ10.out; first | omega | exact Nat.le_refl _⟩, ⟨by (with_reducible repeat (first | apply Kd.R_alloc | apply Kd.R_drewN | apply Kd.R_drew)); exact Kd.R_mono HO_7.out (fun _ hk => hk.1.1.1)⟩, ⟨by (with_reducible repeat (first | apply Kd.R_alloc | apply Kd.R_drewN | apply Kd.R_drew)); exact Kd.R_mono HO_8.out (fun _ hk => hk.1.1.1)⟩, ⟨by repeat (first | (with_reducible first | exact HB.out | apply below_alloc | apply pw_below_drewN | apply below_drew1) | exact HB.out)⟩⟩
                    · replace c41 := Bool.eq_false_iff.mpr c41
                      subst c41
                      have H1 : (reckonerlaw01_WordsSums.j3 kj10 l0 l1 x2_1 x7_1 x8_1 x9_1 true) = some r := by rw [if_neg (show ¬ (false = true) by decide)] at H; exact H
                      clear H
                      have H := H1
                      clear H1
                      have H' := Aside0.mk H
                      clear H
                      obtain ⟨Ao55, co55, eo55⟩ := Kd.R_slice HO_10.out
                      subst eo55
                      obtain ⟨Ao56, co56, eo56⟩ := Kd.R_slice HO324.out
                      subst eo56
                      go_wp2_with (first | (go_at_call 17; (with_reducible refine (reckonerlaw01_same.calls kj10 _ _ t305 _ _ t321 false _ ?side1 ?side2 ?side3 ?side4 A40.out).mono ?_); (case side1 => repeat (first | exact (Kd.R_reads' HO_10.out).2.2 | (with_reducible refine Kd.C_alloc ?_ _) | (with_reducible refine Kd.C_drewN ?_ _) | (with_reducible refine Kd.C_drew ?_))); (case side2 => exact (Kd.R_reads' HO_10.out).2.1); (case side3 => repeat (first | exact (Kd.R_reads' HO324.out).2.2 | (with_reducible refine Kd.C_alloc ?_ _) | (with_reducible refine Kd.C_drewN ?_ _) | (with_reducible refine Kd.C_drew ?_))); (case side4 => exact (Kd.R_reads' HO324.out).2.1); rintro e w' ⟨rfl, ⟨nd, rfl⟩⟩))
                      go_meet
                      case rel => exact ⟨_, (true), (by first | rfl | (simp; done) | (simp [*]; done)), H', ⟨by have := HK1.out; have := HJ10.out; first | omega | exact Nat.le_refl _⟩, ⟨by (with_reducible repeat (first | apply Kd.R_alloc | apply Kd.R_drewN | apply Kd.R_drew)); exact Kd.R_mono HO_7.out (fun _ hk => hk.1.1.1)⟩, ⟨by (with_reducible repeat (first | apply Kd.R_alloc | apply Kd.R_drewN | apply Kd.R_drew)); exact Kd.R_mono HO_8.out (fun _ hk => hk.1.1.1)⟩, ⟨by repeat (first | (with_reducible first | exact HB.out | apply below_alloc | apply pw_below_drewN | apply below_drew1) | exact HB.out)⟩⟩
                  · rw [if_neg c39] at H
                    have c39b0 : (t312 == 0) = false := beq_eq_false_iff_ne.mpr c39
                    have c39b1 : (t312 != 0) = true := bne_iff_ne.mpr c39
                    have H' := Aside0.mk H
                    clear H
                    go_wp2
                    go_meet
                    case rel => exact ⟨_, (true), (by first | rfl | (simp; done) | (simp [*]; done)), H', ⟨by have := HK1.out; have := HJ10.out; first | omega | exact Nat.le_refl _⟩, ⟨by (with_reducible repeat (first | apply Kd.R_alloc | apply Kd.R_drewN | apply Kd.R_drew)); exact Kd.R_mono HO_7.out (fun _ hk => hk.1.1.1)⟩, ⟨by (with_reducible repeat (first | apply Kd.R_alloc | apply Kd.R_drewN | apply Kd.R_drew)); exact Kd.R_mono HO_8.out (fun _ hk => hk.1.1.1)⟩, ⟨by repeat (first | (with_reducible first | exact HB.out | apply below_alloc | apply pw_below_drewN | apply below_drew1) | exact HB.out)⟩⟩
                · rw [if_neg c38] at H
                  have c38b0 : (t307 == 0) = false := beq_eq_false_iff_ne.mpr c38
                  have c38b1 : (t307 != 0) = true := bne_iff_ne.mpr c38
                  (first | rw [c38b0] | (simp only [i64_w, i32_w]; rw [c38b0]) | skip)
                  have H' := Aside0.mk H
                  clear H
                  go_wp2
                  go_meet
                  case rel => exact ⟨_, (true), (by first | rfl | (simp; done) | (simp [*]; done)), H', ⟨by have := HK1.out; have := HJ10.out; first | omega | exact Nat.le_refl _⟩, ⟨by (with_reducible repeat (first | apply Kd.R_alloc | apply Kd.R_drewN | apply Kd.R_drew)); exact Kd.R_mono HO_7.out (fun _ hk => hk.1.1.1)⟩, ⟨by (with_reducible repeat (first | apply Kd.R_alloc | apply Kd.R_drewN | apply Kd.R_drew)); exact Kd.R_mono HO_8.out (fun _ hk => hk.1.1.1)⟩, ⟨by repeat (first | (with_reducible first | exact HB.out | apply below_alloc | apply pw_below_drewN | apply below_drew1) | exact HB.out)⟩⟩
              case rest =>
                clear HC35
                try clear c1
                try clear c2
                try clear p2
                try clear c3
                try clear c4
                try clear p6
                try clear c8
                try clear c8b0
                try clear c12
                try clear c13
                try clear c14
                try clear c15
                try clear c16
                try clear c16b0
                try clear c16b1
                try clear c16b2
                try clear c17
                try clear c18
                try clear c19
                try clear c19b0
                try clear c19b1
                try clear c20
                try clear c20b0
                try clear c20b1
                try clear c21
                try clear c21b0
                try clear c21b1
                try clear c22
                try clear c22b0
                try clear c22b1
                try clear c29
                try clear c30
                try clear c30b0
                try clear c30b1
                try clear c38
                try clear c38b0
                try clear c38b1
                try clear c39
                try clear c39b0
                try clear c39b1
                try clear c41
                try clear c42
                try clear c42b0
                try clear c42b1
                try clear c44
                try clear p2
                try clear p6
                obtain ⟨kq, x116_34, rfl, HA, HJ34, HO_7, HO_8, HB⟩ := hcut
                cases kq with
                | zero => exact absurd HA.out (by simp [reckonerlaw01_WordsSums.j3])
                | succ kj34 =>
                  have H := HA.out
                  clear HA
                  simp only [reckonerlaw01_WordsSums.j3] at H
                  by_cases c57 : x116_34 = true
                  · subst c57
                    have H1 : (none) = some r := by rw [if_pos rfl] at H; exact H
                    clear H
                    have H := H1
                    clear H1
                    exact absurd H (by simp)
                  · replace c57 := Bool.eq_false_iff.mpr c57
                    subst c57
                    have H1 : (if x9_1 = 0 then ((reckonerlaw01_equal.f l0 l1).bind fun bt331 => (reckonerlaw01_WordsSums.l0 kj34 l0 l1 (Int.tmod x2_1 2) bt331.1 bt331.2 (wrap64 (x9_1 + 1)))) else (reckonerlaw01_WordsSums.l0 kj34 l0 l1 (Int.tmod x2_1 2) x7_1 x8_1 (wrap64 (x9_1 + 1)))) = some r := by rw [if_neg (show ¬ (false = true) by decide)] at H; exact H
                    clear H
                    have H := H1
                    clear H1
                    by_cases c58 : x9_1 = 0
                    · rw [if_pos c58] at H
                      have c58b0 : (x9_1 == 0) = true := beq_iff_eq.mpr c58
                      have c58b1 : (x9_1 != 0) = false := bne_eq_false_iff_eq.mpr c58
                      clear c58
                      replace H := Option.bind_eq_some_iff.mp H
                      obtain ⟨⟨t331, t332⟩, A590, H⟩ := H
                      replace H : (reckonerlaw01_WordsSums.l0 kj34 l0 l1 (Int.tmod x2_1 2) t331 t332 (wrap64 (x9_1 + 1))) = some r := H
                      have A59 := Aside0.mk A590
                      clear A590
                      have H' := Aside0.mk H
                      clear H
                      go_wp2_with (first | ((with_reducible refine gate_callee (f := 18) rfl ?_); refine goesL_ (some 122) rfl rfl Tryd.func18 (by kernel_rfl) rfl #[.slice A0 l0.length c0, .slice A1 l1.length c1] rfl (by (try simp only [List.map_toArray, List.map_cons, List.map_nil]); first | done | rfl | (simp only [List.length_drop, List.length_take]; rfl)) ?_; (with_reducible refine (reckonerlaw01_equal.calls _ _ l0 _ _ l1 t331 t332 _ ?side1 ?side2 ?side3 ?side4 A59.out).mono ?_); (case side1 => repeat (first | exact (Kd.C_below HR0.out HB.out) | (with_reducible refine Kd.C_alloc ?_ _) | (with_reducible refine Kd.C_drewN ?_ _) | (with_reducible refine Kd.C_drew ?_))); (case side2 => exact HC0.out); (case side3 => repeat (first | exact (Kd.C_below HR1.out HB.out) | (with_reducible refine Kd.C_alloc ?_ _) | (with_reducible refine Kd.C_drewN ?_ _) | (with_reducible refine Kd.C_drew ?_))); (case side4 => exact HC1.out); rintro e w60 ⟨v333, v335, rfl, ho0, ho1, hb⟩; refine ⟨_, rfl, ?_⟩; have n0_ := Aside0.mk (Kd.R_mono (Kd.R_told (Kd.R_told (Kd.R_old (by (with_reducible repeat (first | apply Kd.R_alloc | apply Kd.R_drewN | apply Kd.R_drew)); exact HO_7.out) hb) (Kd.R_base ho0)) (Kd.R_base ho1)) (fun _ h_ => h_.1)); have n1_ := Aside0.mk (Kd.R_mono (Kd.R_told (Kd.R_told (Kd.R_old (by (with_reducible repeat (first | apply Kd.R_alloc | apply Kd.R_drewN | apply Kd.R_drew)); exact HO_8.out) hb) (Kd.R_base ho0)) (Kd.R_base ho1)) (fun _ h_ => h_.1)); have n2_ := Aside0.mk (Kd.R_lower (Kd.R_new' (Kd.R_new' ho0 (Kd.R_lt (by (with_reducible repeat (first | apply Kd.R_alloc | apply Kd.R_drewN | apply Kd.R_drew)); exact HO_7.out))) (Kd.R_lt (by (with_reducible repeat (first | apply Kd.R_alloc | apply Kd.R_drewN | apply Kd.R_drew)); exact HO_8.out))) (below_size (by repeat (first | (with_reducible first | exact HB.out | apply below_alloc | apply pw_below_drewN | apply below_drew1) | exact HB.out)))); have n3_ := Aside0.mk (Kd.R_lower (Kd.R_new' (Kd.R_new' ho1 (Kd.R_lt (by (with_reducible repeat (first | apply Kd.R_alloc | apply Kd.R_drewN | apply Kd.R_drew)); exact HO_7.out))) (Kd.R_lt (by (with_reducible repeat (first | apply Kd.R_alloc | apply Kd.R_drewN | apply Kd.R_drew)); exact HO_8.out))) (below_size (by repeat (first | (with_reducible first | exact HB.out | apply below_alloc | apply pw_below_drewN | apply below_drew1) | exact HB.out)))); have n4_ := Aside0.mk (below_step (by repeat (first | (with_reducible first | exact HB.out | apply below_alloc | apply pw_below_drewN | apply below_drew1) | exact HB.out)) hb); clear HO_7; clear HO_8; clear HB; have HO_7 := n0_; have HO_8 := n1_; have HO334 := n2_; have HO336 := n3_; have HB := n4_; clear n0_ n1_ n2_ n3_ n4_; (try clear hb); (try clear hb2); (try clear hk); (try clear hi); (try clear ho0); (try clear ho1)))
                      go_roundg kj34
                      case measure => have := HK1.out; have := HJ10.out; have := HJ34.out; omega
                      case rel => exact ⟨(Int.tmod x2_1 2), (t331), (t332), (wrap64 (x9_1 + 1)), (by first | rfl | (simp; done) | (simp [*]; done)), (by first | rfl | (simp; done) | (simp [*]; done)), H', ⟨by have := HK1.out; have := HJ10.out; have := HJ34.out; omega⟩, ⟨by (with_reducible repeat (first | apply Kd.R_alloc | apply Kd.R_drewN | apply Kd.R_drew)); exact Kd.R_mono HO334.out (fun _ hk => hk.1.1)⟩, ⟨by (with_reducible repeat (first | apply Kd.R_alloc | apply Kd.R_drewN | apply Kd.R_drew)); exact Kd.R_mono HO336.out (fun _ hk => hk.1.1)⟩, ⟨by repeat (first | (with_reducible first | exact HB.out | apply below_alloc | apply pw_below_drewN | apply below_drew1) | exact HB.out)⟩⟩
                    · rw [if_neg c58] at H
                      have c58b0 : (x9_1 == 0) = false := beq_eq_false_iff_ne.mpr c58
                      have c58b1 : (x9_1 != 0) = true := bne_iff_ne.mpr c58
                      have H' := Aside0.mk H
                      clear H
                      go_wp2
                      go_roundg kj34
                      case measure => have := HK1.out; have := HJ10.out; have := HJ34.out; omega
                      case rel => exact ⟨(Int.tmod x2_1 2), (x7_1), (x8_1), (wrap64 (x9_1 + 1)), (by first | rfl | (simp; done) | (simp [*]; done)), (by first | rfl | (simp; done) | (simp [*]; done)), H', ⟨by have := HK1.out; have := HJ10.out; have := HJ34.out; omega⟩, ⟨by (with_reducible repeat (first | apply Kd.R_alloc | apply Kd.R_drewN | apply Kd.R_drew)); exact HO_7.out⟩, ⟨by (with_reducible repeat (first | apply Kd.R_alloc | apply Kd.R_drewN | apply Kd.R_drew)); exact HO_8.out⟩, ⟨by repeat (first | (with_reducible first | exact HB.out | apply below_alloc | apply pw_below_drewN | apply below_drew1) | exact HB.out)⟩⟩
      · rw [if_neg c8] at H
        have c8b0 : decide (x9_1 < 3) = false := decide_eq_false c8
        clear c8
        replace H := Option.bind_eq_some_iff.mp H
        obtain ⟨t304, A610, H⟩ := H
        replace H : (some t304) = some r := H
        have A61 := Aside0.mk A610
        clear A610
        obtain rfl := Option.some.inj H
        go_wp2_with (first | ((with_reducible refine gate_callee (f := 19) rfl ?_); refine goesL_ (some 127) rfl rfl Tryd.func19 (by kernel_rfl) rfl #[] rfl (by (try simp only [List.map_toArray, List.map_cons, List.map_nil]); first | done | rfl | (simp only [List.length_drop, List.length_take]; rfl)) ?_; (with_reducible refine (reckonerlaw01_awake.calls k1  t304 _ (Laid.below HLd.out (by repeat (first | (with_reducible first | exact HB.out | apply below_alloc | apply pw_below_drewN | apply below_drew1) | exact HB.out))) A61.out).mono ?_); rintro e w62 ⟨rfl, hb⟩; refine ⟨_, rfl, ?_⟩; have n0_ := Aside0.mk (Kd.R_below (by (with_reducible repeat (first | apply Kd.R_alloc | apply Kd.R_drewN | apply Kd.R_drew)); exact HO_7.out) hb); have n1_ := Aside0.mk (Kd.R_below (by (with_reducible repeat (first | apply Kd.R_alloc | apply Kd.R_drewN | apply Kd.R_drew)); exact HO_8.out) hb); have n2_ := Aside0.mk (below_step (by repeat (first | (with_reducible first | exact HB.out | apply below_alloc | apply pw_below_drewN | apply below_drew1) | exact HB.out)) hb); clear HO_7; clear HO_8; clear HB; have HO_7 := n0_; have HO_8 := n1_; have HB := n2_; clear n0_ n1_ n2_; (try clear hb); (try clear hb2); (try clear hk); (try clear hi)))
        go_ret
        exact ⟨by first | rfl | (simp [errW_none, errW_some] <;> rfl) | (simp [*, errW_none, errW_some] <;> rfl), by repeat (first | (with_reducible first | exact HB.out | apply below_alloc | apply pw_below_drewN | apply below_drew1) | exact HB.out)⟩

/-- THE ONE PURE STATEMENT of reckonerlaw01_WordsSums: yours. -/
def reckonerlaw01_WordsSums.Pure : Prop := ∀ (l0 : List Int) (l1 : List Int) (a2 : Int), l0.length ≤ maxLen → l0.length * 8 ≤ 140737488351232 → (∀ x ∈ l0, (Lit.int .u64 x).wf = true) → l1.length ≤ maxLen → l1.length * 8 ≤ 140737488351232 → (∀ x ∈ l1, (Lit.int .u64 x).wf = true) → (Lit.int .u64 a2).wf = true → ∃ k, reckonerlaw01_WordsSums.f k l0 l1 a2 = some true
theorem reckonerlaw01_WordsSums.walk (P : reckonerlaw01_WordsSums.Pure) (a0 : Option Addr) (len0 cap0 : Nat) (z0 : List Int) (a1 : Option Addr) (len1 cap1 : Nat) (z1 : List Int) (a2 : Int) (w : World) (w0 : (a0 = none ∧ len0 = 0 ∧ cap0 = 0 ∧ z0 = []) ∨ ∃ x, a0 = some x ∧ len0 ≤ cap0 ∧ cap0 ≤ maxLen ∧ z0.length = cap0 ∧ (∀ i, i < z0.length → w.cell? (x.add i) = some (.int .u64 (z0.getD i 0))) ∧ ∀ n ∈ z0, (Lit.int .u64 n).wf = true) (y0 : len0 * 8 ≤ 140737488351232) (w1 : (a1 = none ∧ len1 = 0 ∧ cap1 = 0 ∧ z1 = []) ∨ ∃ x, a1 = some x ∧ len1 ≤ cap1 ∧ cap1 ≤ maxLen ∧ z1.length = cap1 ∧ (∀ i, i < z1.length → w.cell? (x.add i) = some (.int .u64 (z1.getD i 0))) ∧ ∀ n ∈ z1, (Lit.int .u64 n).wf = true) (y1 : len1 * 8 ≤ 140737488351232) (w2 : (Lit.int .u64 a2).wf = true) (hg : Laid w) :
    Calls Tryd.prog 3 #[.slice a0 len0 cap0, .slice a1 len1 cap1, .int .u64 a2] w fun e w' => e = .returned (.bool true) ∧ Below w.heap.size w w' := by
  obtain ⟨l0, rfl, hr0, hm0, hw0, hc0⟩ := ReadsInt.ofRowC w0
  obtain ⟨l1, rfl, hr1, hm1, hw1, hc1⟩ := ReadsInt.ofRowC w1
  obtain ⟨k, h⟩ := P l0 l1 a2 hm0 y0 hw0 hm1 y1 hw1 w2
  refine (reckonerlaw01_WordsSums.calls k _ _ l0 _ _ l1 a2 true w (Kd.C_of_reads (d := (0 : Int)) (h1 := fun _ => rfl) hr0) hc0 (Kd.C_of_reads (d := (0 : Int)) (h1 := fun _ => rfl) hr1) hc1 hg h).mono ?_
  rintro e w' ⟨rfl, hd⟩
  exact ⟨rfl, hd⟩

/-! ### words_Narrow: function 21 -/
def words_Narrow.f (a0 : Int) (a1 : Int) (a2 : Int) : Option (Int × Int × Int) := if a2 = 0 then (some (0, 0, 5)) else (if a0 ≥ a2 then (some (0, 0, 1)) else ((bits_Div64.f a0 a1 a2).bind fun bt337 => (some (bt337.1, bt337.2, 0))))
set_option maxHeartbeats 8000000 in
set_option maxRecDepth 100000 in
theorem words_Narrow.calls (a0 : Int) (a1 : Int) (a2 : Int) (r1 : Int) (r2 : Int) (r3 : Int) (w : World) (h : words_Narrow.f a0 a1 a2 = some (r1, r2, r3)) :
    Calls Tryd.prog 21 #[.int .u64 a0, .int .u64 a1, .int .u64 a2] w fun e w' => e = .returned (.tuple #[.int .u64 r1, .int .u64 r2, .int .i64 r3]) ∧ Drawn0 w w' := by
  have H : (if a2 = 0 then (some (0, 0, 5)) else (if a0 ≥ a2 then (some (0, 0, 1)) else ((bits_Div64.f a0 a1 a2).bind fun bt337 => (some (bt337.1, bt337.2, 0))))) = some (r1, r2, r3) := h
  clear h
  by_cases c4 : a2 = 0
  · rw [if_pos c4] at H
    have c4b0 : (a2 == 0) = true := beq_iff_eq.mpr c4
    have c4b1 : (a2 != 0) = false := bne_eq_false_iff_eq.mpr c4
    clear c4
    simp only [Option.some.injEq, Prod.mk.injEq] at H
    obtain ⟨rfl, rfl, rfl⟩ := H
    go_enter Tryd.func21, Tryd.ntmps21
    go_wp2
    go_ret3
    exact ⟨by first | rfl | (simp; done) | (simp [*]; done), by repeat (first | exact Drawn0.refl _ | apply Drawn0.step)⟩
  · rw [if_neg c4] at H
    have c4b0 : (a2 == 0) = false := beq_eq_false_iff_ne.mpr c4
    have c4b1 : (a2 != 0) = true := bne_iff_ne.mpr c4
    by_cases c5 : a0 ≥ a2
    · rw [if_pos c5] at H
      have c5b0 : decide (a2 ≤ a0) = true := decide_eq_true c5
      clear c5
      simp only [Option.some.injEq, Prod.mk.injEq] at H
      obtain ⟨rfl, rfl, rfl⟩ := H
      go_enter Tryd.func21, Tryd.ntmps21
      go_wp2
      go_ret3
      exact ⟨by first | rfl | (simp; done) | (simp [*]; done), by repeat (first | exact Drawn0.refl _ | apply Drawn0.step)⟩
    · rw [if_neg c5] at H
      have c5b0 : decide (a2 ≤ a0) = false := decide_eq_false c5
      clear c5
      replace H := Option.bind_eq_some_iff.mp H
      obtain ⟨⟨t337, t338⟩, A60, H⟩ := H
      replace H : (some (t337, t338, 0)) = some (r1, r2, r3) := H
      have A6 := Aside0.mk A60
      clear A60
      simp only [Option.some.injEq, Prod.mk.injEq] at H
      obtain ⟨rfl, rfl, rfl⟩ := H
      go_enter Tryd.func21, Tryd.ntmps21
      go_wp2_with (first | ((with_reducible refine gate_callee (f := 61) rfl ?_); refine goesL_ (some 20) rfl rfl Tryd.func61 (by kernel_rfl) rfl #[.int .u64 a0, .int .u64 a1, .int .u64 a2] rfl (by (try simp only [List.map_toArray, List.map_cons, List.map_nil]); first | done | rfl | (simp only [List.length_drop, List.length_take]; rfl)) ?_; (with_reducible refine (bits_Div64.calls a0 a1 a2 t337 t338 _ A6.out).mono ?_); rintro e w' ⟨rfl, ⟨nd, rfl⟩⟩; refine ⟨_, rfl, ?_⟩))
      go_ret3
      exact ⟨by first | rfl | (simp; done) | (simp [*]; done), by repeat (first | exact Drawn0.refl _ | apply Drawn0.step)⟩

/-! ### reckonerref01_Word: function 62 -/
def reckonerref01_Word.f (a0 : Int) : Option (List Int) := some (([Int.tmod a0 4294967296, IntKind.u64.wrap (Int.tdiv a0 4294967296)] : List Int))
set_option maxHeartbeats 8000000 in
set_option maxRecDepth 100000 in
theorem reckonerref01_Word.calls (a0 : Int) (r : List Int) (w : World) (h : reckonerref01_Word.f a0 = some r) :
    Calls Tryd.prog 62 #[.int .u64 a0] w fun e w' => ∃ v0_ : Value, e = .returned (v0_) ∧ Kd.R (Kd.int .u64) 23 w' w.heap.size (fun _ => True) v0_ r ∧ Below w.heap.size w w' := by
  have HB := Aside0.mk (Below.refl w.heap.size w)
  have H : (some (([Int.tmod a0 4294967296, IntKind.u64.wrap (Int.tdiv a0 4294967296)] : List Int))) = some r := h
  clear h
  obtain ⟨y339, hy339⟩ : ∃ y_ : List Int, y_ = (([Int.tmod a0 4294967296, IntKind.u64.wrap (Int.tdiv a0 4294967296)] : List Int)) := ⟨_, rfl⟩
  replace H : (some y339) = some r := by first | (rw [hy339]; with_reducible exact H) | (have H2_ := (Option.bind_some _ _).symm.trans H; rw [hy339]; with_reducible exact H2_) | (have H2_ := (Option.bind_some _ _).symm.trans H; with_reducible exact H2_) | with_reducible exact H | (rw [hy339]; exact H) | exact H
  have Ny339 := Aside0.mk hy339
  clear hy339
  obtain rfl := Option.some.inj H
  go_enter Tryd.func62, Tryd.ntmps62
  go_wp2_with (first | ((with_reducible refine gate_dst (N := 7) rfl ?_); refine Kd.R_lit (Kd.int .u64) _ 23 ?hg (N := 7) ?hd (xs := ([Int.tmod a0 4294967296, IntKind.u64.wrap (Int.tdiv a0 4294967296)] : List Int)) (inner := [.int .u64 (Int.tmod a0 4294967296), .int .u64 (IntKind.u64.wrap (Int.tdiv a0 4294967296))]) (ok := fun _ => True) (okp := fun _ => True) ?hr ?hp (fun _ hk => hk) trivial (Below.refl _ _) (Nat.le_refl _) (by simp) ?_; (case hd => rfl); (case hg => rfl); (case hr => first | (go_simp; done) | (go_simp; rfl)); (case hp => exact (Reps.one (show Kd.M (Kd.int .u64) _ _ _ (Int.tmod a0 4294967296) [.int .u64 (Int.tmod a0 4294967296)] from rfl) (Reps.one (show Kd.M (Kd.int .u64) _ _ _ (IntKind.u64.wrap (Int.tdiv a0 4294967296)) [.int .u64 (IntKind.u64.wrap (Int.tdiv a0 4294967296))] from rfl) (Reps.none _ _)))); intro v340 w2 ho3 hb hg_ hnew_; clear hg_ hnew_; (first | rw [← Ny339.out] at ho3 | (simp only [Int.reduceToNat] at ho3; rw [← Ny339.out] at ho3)); have n0_ := Aside0.mk (Kd.R_lower ho3 (below_size (by repeat (first | (with_reducible first | exact HB.out | apply below_alloc | apply pw_below_drewN | apply below_drew1) | exact HB.out)))); have n1_ := Aside0.mk (below_step (by repeat (first | (with_reducible first | exact HB.out | apply below_alloc | apply pw_below_drewN | apply below_drew1) | exact HB.out)) hb); clear HB; have HO341 := n0_; have HB := n1_; clear n0_ n1_; clear hb ho3))
  go_ret
  exact ⟨_, by first | rfl | (simp [errW_none, errW_some] <;> rfl) | (simp [*, errW_none, errW_some] <;> rfl), by (with_reducible repeat (first | apply Kd.R_alloc | apply Kd.R_drewN | apply Kd.R_drew)); exact HO341.out, by repeat (first | (with_reducible first | exact HB.out | apply below_alloc | apply pw_below_drewN | apply below_drew1) | exact HB.out)⟩

end Go.Proofs.YtldefhhfcbmbpaaDoor.T
/- Values of rows of digits: no program here. -/
namespace Go.Proofs.YtldefhhfcbmbpaaDoor.Ex
set_option linter.unusedVariables false

/-- The value of a row of digits, the lowest first. -/
def valB (B : Int) : List Int → Int
  | [] => 0
  | x :: l => x + B * valB B l
/-- All are digits. -/
def inB (B : Int) (l : List Int) : Prop := ∀ x ∈ l, 0 ≤ x ∧ x < B
theorem inB_cons {B x : Int} {l : List Int} : inB B (x :: l) ↔ (0 ≤ x ∧ x < B) ∧ inB B l := by simp [inB]
theorem inB_nil {B : Int} : inB B [] := fun _ h => by cases h
theorem inB_append {B : Int} {a b : List Int} : inB B (a ++ b) ↔ inB B a ∧ inB B b := by
  constructor
  · exact fun h => ⟨fun x hx => h x (List.mem_append_left _ hx), fun x hx => h x (List.mem_append_right _ hx)⟩
  · rintro ⟨h1, h2⟩ x hx
    rcases List.mem_append.1 hx with h | h
    · exact h1 x h
    · exact h2 x h
theorem inB_take {B : Int} {l : List Int} (h : inB B l) (n : Nat) : inB B (l.take n) := fun x hx => h x (List.mem_of_mem_take hx)
theorem inB_drop {B : Int} {l : List Int} (h : inB B l) (n : Nat) : inB B (l.drop n) := fun x hx => h x (List.mem_of_mem_drop hx)
theorem inB_zeros {B : Int} (hB : 0 < B) (n : Nat) : inB B (List.replicate n 0) := fun x hx => by rw [List.eq_of_mem_replicate hx]; exact ⟨Int.le_refl 0, hB⟩
theorem inB_getD {B : Int} (hB : 0 < B) {l : List Int} (h : inB B l) (i : Nat) : 0 ≤ l.getD i 0 ∧ l.getD i 0 < B := by
  rw [List.getD_eq_getElem?_getD]
  cases hx : l[i]? with
  | none => exact ⟨Int.le_refl 0, hB⟩
  | some x => exact h x (List.mem_of_getElem? hx)
theorem inB_set {B : Int} {l : List Int} (h : inB B l) (i : Nat) {x : Int} (hx : 0 ≤ x ∧ x < B) : inB B (l.set i x) := fun y hy => by
  rcases List.mem_or_eq_of_mem_set hy with h1 | h1
  · exact h y h1
  · rw [h1]; exact hx
theorem valB_append (B : Int) : ∀ a b : List Int, valB B (a ++ b) = valB B a + B ^ a.length * valB B b
  | [], b => by simp [valB]
  | x :: a, b => by
    show x + B * valB B (a ++ b) = x + B * valB B a + B ^ (a.length + 1) * valB B b
    rw [valB_append B a b, Int.mul_add, Int.pow_succ, Int.mul_comm (B ^ a.length) B, Int.mul_assoc, Int.add_assoc]
theorem valB_zeros (B : Int) : ∀ n, valB B (List.replicate n 0) = 0
  | 0 => rfl
  | n + 1 => by simp [List.replicate_succ, valB, valB_zeros B n]
theorem valB_nonneg {B : Int} (hB : 0 < B) : ∀ {l : List Int}, inB B l → 0 ≤ valB B l
  | [], _ => Int.le_refl 0
  | x :: l, h => by
    have h1 := inB_cons.1 h
    have h2 := valB_nonneg hB h1.2
    have h3 := Int.mul_nonneg (Int.le_of_lt hB) h2
    show 0 ≤ x + B * valB B l
    omega
theorem valB_lt {B : Int} (hB : 0 < B) : ∀ {l : List Int}, inB B l → valB B l < B ^ l.length
  | [], _ => by simp [valB]
  | x :: l, h => by
    have h1 := inB_cons.1 h
    have h2 := valB_lt hB h1.2
    have h3 : B * (valB B l + 1) ≤ B * B ^ l.length := Int.mul_le_mul_of_nonneg_left h2 (Int.le_of_lt hB)
    rw [Int.mul_add, Int.mul_one] at h3
    show x + B * valB B l < B ^ (l.length + 1)
    rw [Int.pow_succ, Int.mul_comm (B ^ l.length)]
    omega
theorem valB_inj {B : Int} (hB : 0 < B) : ∀ {a b : List Int}, inB B a → inB B b → a.length = b.length → valB B a = valB B b → a = b
  | [], [], _, _, _, _ => rfl
  | x :: a, y :: b, ha, hb, hl, hv => by
    have h1 := inB_cons.1 ha
    have h2 := inB_cons.1 hb
    have hv' : x + B * valB B a = y + B * valB B b := hv
    have e1 : (x + B * valB B a) % B = x := by rw [Int.add_mul_emod_self_left]; exact Int.emod_eq_of_lt h1.1.1 h1.1.2
    have e2 : (y + B * valB B b) % B = y := by rw [Int.add_mul_emod_self_left]; exact Int.emod_eq_of_lt h2.1.1 h2.1.2
    have e3 : x = y := by rw [← e1, hv', e2]
    subst e3
    have e4 : B * valB B a = B * valB B b := by omega
    have e5 : valB B a = valB B b := Int.eq_of_mul_eq_mul_left (by omega) e4
    rw [valB_inj hB h1.2 h2.2 (by simpa using hl) e5]
  | [], _ :: _, _, _, hl, _ => by simp at hl
  | _ :: _, [], _, _, hl, _ => by simp at hl
theorem valB_split (B : Int) (l : List Int) (n : Nat) (h : n ≤ l.length) : valB B l = valB B (l.take n) + B ^ n * valB B (l.drop n) := by
  have h1 := valB_append B (l.take n) (l.drop n)
  rw [List.take_append_drop, List.length_take, Nat.min_eq_left h] at h1
  exact h1
theorem pow_posB {B : Int} (hB : 0 < B) (n : Nat) : 0 < B ^ n := Int.pow_pos hB
theorem valB_take {B : Int} (hB : 0 < B) {l : List Int} (hl : inB B l) (n : Nat) (h : n ≤ l.length) : valB B (l.take n) = valB B l % B ^ n := by
  have h1 := valB_lt hB (inB_take hl n)
  rw [List.length_take, Nat.min_eq_left h] at h1
  rw [valB_split B l n h, Int.add_mul_emod_self_left]
  exact (Int.emod_eq_of_lt (valB_nonneg hB (inB_take hl n)) h1).symm
theorem valB_drop {B : Int} (hB : 0 < B) {l : List Int} (hl : inB B l) (n : Nat) (h : n ≤ l.length) : valB B (l.drop n) = valB B l / B ^ n := by
  have h1 := valB_lt hB (inB_take hl n)
  rw [List.length_take, Nat.min_eq_left h] at h1
  have hp := pow_posB hB n
  rw [valB_split B l n h, Int.add_mul_ediv_left _ _ (by omega), Int.ediv_eq_zero_of_lt (valB_nonneg hB (inB_take hl n)) h1, Int.zero_add]
/-- Two numbers of the form a + M b, a below M, are equal in both. -/
theorem div_unique {M a b a' b' : Int} (ha : 0 ≤ a) (ha' : a < M) (hb : 0 ≤ a') (hb' : a' < M) (h : a + M * b = a' + M * b') : a = a' ∧ b = b' := by
  have e1 : (a + M * b) % M = a := by rw [Int.add_mul_emod_self_left]; exact Int.emod_eq_of_lt ha ha'
  have e2 : (a' + M * b') % M = a' := by rw [Int.add_mul_emod_self_left]; exact Int.emod_eq_of_lt hb hb'
  have e3 : a = a' := by rw [← e1, h, e2]
  refine ⟨e3, ?_⟩
  subst e3
  exact Int.eq_of_mul_eq_mul_left (by omega) (by omega : M * b = M * b')

/-- The sum of n terms from i on, each times a power. -/
def sumB (B : Int) (t : Nat → Int) : Nat → Nat → Int
  | _, 0 => 0
  | i, n + 1 => t i + B * sumB B t (i + 1) n
theorem sumB_val (B : Int) (l : List Int) : ∀ n i, i + n = l.length → sumB B (fun j => l.getD j 0) i n = valB B (l.drop i)
  | 0, i, h => by rw [List.drop_of_length_le (by omega)]; rfl
  | n + 1, i, h => by
    have hi : i < l.length := by omega
    rw [List.drop_eq_getElem_cons hi]
    show l.getD i 0 + B * sumB B _ (i + 1) n = l[i] + B * valB B (l.drop (i + 1))
    rw [sumB_val B l n (i + 1) (by omega)]
    congr 1
    simp [List.getD_eq_getElem?_getD, List.getElem?_eq_getElem hi]
theorem sumB_add (B : Int) (t u : Nat → Int) : ∀ n i, sumB B (fun j => t j + u j) i n = sumB B t i n + sumB B u i n
  | 0, _ => rfl
  | n + 1, i => by
    show (t i + u i) + B * sumB B _ (i + 1) n = (t i + B * sumB B t (i + 1) n) + (u i + B * sumB B u (i + 1) n)
    rw [sumB_add B t u n (i + 1), Int.mul_add]
    omega
theorem sumB_smul (B : Int) (t : Nat → Int) (w : Int) : ∀ n i, sumB B (fun j => t j * w) i n = sumB B t i n * w
  | 0, _ => by simp [sumB]
  | n + 1, i => by
    show t i * w + B * sumB B _ (i + 1) n = (t i + B * sumB B t (i + 1) n) * w
    rw [sumB_smul B t w n (i + 1), Int.add_mul, Int.mul_assoc]
theorem sumB_snoc (B : Int) (t : Nat → Int) : ∀ n i, sumB B t i (n + 1) = sumB B t i n + B ^ n * t (i + n)
  | 0, i => by simp [sumB]
  | n + 1, i => by
    have h := sumB_snoc B t n (i + 1)
    show t i + B * sumB B t (i + 1) (n + 1) = t i + B * sumB B t (i + 1) n + B ^ (n + 1) * t (i + (n + 1))
    rw [h, Int.mul_add, Int.pow_succ, Int.mul_comm (B ^ n) B, Int.mul_assoc, show i + 1 + n = i + (n + 1) by omega]
    omega
theorem sumB_all (B : Int) (l : List Int) : sumB B (fun j => l.getD j 0) 0 l.length = valB B l := by
  rw [sumB_val B l l.length 0 (by omega), List.drop_zero]
theorem getD_beyond (l : List Int) (i : Nat) (h : l.length ≤ i) : l.getD i 0 = 0 := by simp [List.getD_eq_getElem?_getD, List.getElem?_eq_none h]
theorem sumB_zero (B : Int) (t : Nat → Int) : ∀ n i, (∀ j, i ≤ j → j < i + n → t j = 0) → sumB B t i n = 0
  | 0, _, _ => rfl
  | n + 1, i, h => by
    show t i + B * sumB B t (i + 1) n = 0
    rw [h i (Nat.le_refl _) (by omega), sumB_zero B t n (i + 1) (fun j h1 h2 => h j (by omega) (by omega)), Int.mul_zero, Int.add_zero]
theorem sumB_app (B : Int) (t : Nat → Int) : ∀ n m i, sumB B t i (n + m) = sumB B t i n + B ^ n * sumB B t (i + n) m
  | 0, m, i => by simp [sumB]
  | n + 1, m, i => by
    rw [show n + 1 + m = (n + m) + 1 by omega]
    show t i + B * sumB B t (i + 1) (n + m) = t i + B * sumB B t (i + 1) n + B ^ (n + 1) * sumB B t (i + (n + 1)) m
    rw [sumB_app B t n m (i + 1), Int.mul_add, ← Int.mul_assoc, ← Int.pow_succ', show i + 1 + n = i + (n + 1) by omega]
    omega
/-- Beyond the end there is nothing. -/
theorem sumB_pad (B : Int) (l : List Int) (n : Nat) (h : l.length ≤ n) : sumB B (fun j => l.getD j 0) 0 n = valB B l := by
  obtain ⟨m, rfl⟩ : ∃ m, n = l.length + m := ⟨n - l.length, by omega⟩
  rw [sumB_app, sumB_all, sumB_zero B _ m _ (fun j h1 _ => getD_beyond l j (by omega)), Int.mul_zero, Int.add_zero]
/-- A value that is small leaves nothing above. -/
theorem sumB_low {B : Int} (hB : 0 < B) (l : List Int) (hl : inB B l) (n : Nat) (h : valB B l < B ^ n) : sumB B (fun j => l.getD j 0) 0 n = valB B l := by
  by_cases hn : l.length ≤ n
  · exact sumB_pad B l n hn
  · have h1 := sumB_all B l
    obtain ⟨m, hm⟩ : ∃ m, l.length = n + m := ⟨l.length - n, by omega⟩
    rw [hm, sumB_app, Nat.zero_add] at h1
    have h2 : sumB B (fun j => l.getD j 0) n m = valB B (l.drop n) := sumB_val B l m n (by omega)
    have h3 : valB B (l.drop n) = 0 := by rw [valB_drop hB hl n (by omega)]; exact Int.ediv_eq_zero_of_lt (valB_nonneg hB hl) h
    rw [h2, h3, Int.mul_zero, Int.add_zero] at h1
    exact h1
theorem sumB_congr (B : Int) {t u : Nat → Int} : ∀ n i, (∀ j, i ≤ j → j < i + n → t j = u j) → sumB B t i n = sumB B u i n
  | 0, _, _ => rfl
  | n + 1, i, h => by
    show t i + B * sumB B t (i + 1) n = u i + B * sumB B u (i + 1) n
    rw [h i (Nat.le_refl _) (by omega), sumB_congr B n (i + 1) (fun j h1 h2 => h j (by omega) (by omega))]

/-- What a step for each word makes of what is carried: σ is 1, or -1 where it is borrowed. -/
theorem carryL_val (B : Int) (f : Nat → Int → Int × Int) (t : Nat → Int) (σ : Int) (I : Int → Prop) :
    ∀ n i c, I c → (∀ j, i ≤ j → j < i + n → ∀ c, I c → I (f j c).2 ∧ (0 ≤ (f j c).1 ∧ (f j c).1 < B) ∧ (f j c).1 + B * (σ * (f j c).2) = t j + σ * c) →
      I (carryL f n i c).2 ∧ inB B (carryL f n i c).1 ∧ valB B (carryL f n i c).1 + B ^ n * (σ * (carryL f n i c).2) = sumB B t i n + σ * c
  | 0, i, c, hc, _ => ⟨hc, inB_nil, by simp [carryL, valB, sumB]⟩
  | n + 1, i, c, hc, h => by
    obtain ⟨h1, h2, h3⟩ := h i (Nat.le_refl _) (by omega) c hc
    obtain ⟨k1, k2, k3⟩ := carryL_val B f t σ I n (i + 1) (f i c).2 h1 (fun j a b => h j (by omega) (by omega))
    refine ⟨k1, inB_cons.2 ⟨h2, k2⟩, ?_⟩
    show (f i c).1 + B * valB B (carryL f n (i + 1) (f i c).2).1 + B ^ (n + 1) * (σ * (carryL f n (i + 1) (f i c).2).2) = t i + B * sumB B t (i + 1) n + σ * c
    have e : B * (valB B (carryL f n (i + 1) (f i c).2).1 + B ^ n * (σ * (carryL f n (i + 1) (f i c).2).2)) = B * (sumB B t (i + 1) n + σ * (f i c).2) := by rw [k3]
    rw [Int.mul_add, Int.mul_add, ← Int.mul_assoc B (B ^ n), ← Int.pow_succ'] at e
    omega
end Go.Proofs.YtldefhhfcbmbpaaDoor.Ex
/- The values of what the functions on rows of words hand back: no program here. -/
namespace Go.Proofs.YtldefhhfcbmbpaaDoor.Ex
set_option linter.unusedVariables false

theorem inB_of_inW {l : List Int} (h : inW l) : inB W64 l := h
theorem W64_mul (a b : Int) (ha : isW a) (hb : isW b) : 0 ≤ a * b ∧ a * b ≤ W64 * W64 - 2 * W64 + 1 := by
  have h1 : a * b ≤ (W64 - 1) * (W64 - 1) := Int.mul_le_mul (by have := ha.2; omega) (by have := hb.2; omega) hb.1 (by decide)
  refine ⟨Int.mul_nonneg ha.1 hb.1, ?_⟩
  have h2 : (W64 - 1) * (W64 - 1) = W64 * W64 - 2 * W64 + 1 := by decide
  omega
theorem WW : W64 * W64 = 340282366920938463463374607431768211456 := by decide
theorem addS_ok {x y c : Int} (hx : isW x) (hy : isW y) (hc : 0 ≤ c ∧ c ≤ 1) : (0 ≤ (addS x y c).2 ∧ (addS x y c).2 ≤ 1) ∧ (0 ≤ (addS x y c).1 ∧ (addS x y c).1 < W64) ∧ (addS x y c).1 + W64 * (1 * (addS x y c).2) = (x + y) + 1 * c := by
  have h1 := hx.1
  have h2 := hx.2
  have h3 := hy.1
  have h4 := hy.2
  unfold addS
  simp only [W64_eq] at *
  omega
theorem subS_ok {x y c : Int} (hx : isW x) (hy : isW y) (hc : 0 ≤ c ∧ c ≤ 1) : (0 ≤ (subS x y c).2 ∧ (subS x y c).2 ≤ 1) ∧ (0 ≤ (subS x y c).1 ∧ (subS x y c).1 < W64) ∧ (subS x y c).1 + W64 * (-1 * (subS x y c).2) = (x + y * (-1)) + -1 * c := by
  have h1 := hx.1
  have h2 := hx.2
  have h3 := hy.1
  have h4 := hy.2
  unfold subS
  simp only [W64_eq] at *
  split <;> omega
theorem moreS_ok {a b c d : Int} (ha : isW a) (hb : isW b) (hc : isW c) (hd : isW d) : isW (moreS a b c d).2 ∧ (0 ≤ (moreS a b c d).1 ∧ (moreS a b c d).1 < W64) ∧ (moreS a b c d).1 + W64 * (moreS a b c d).2 = a * b + c + d := by
  obtain ⟨h1, h2⟩ := W64_mul a b ha hb
  rw [WW] at h2
  have h3 := hc.1
  have h4 := hc.2
  have h5 := hd.1
  have h6 := hd.2
  unfold moreS isW
  generalize a * b = p at *
  simp only [W64_eq] at *
  omega
theorem lessS_ok {z a b c : Int} (hz : isW z) (ha : isW a) (hb : isW b) (hc : isW c) : isW (lessS z a b c).2 ∧ (0 ≤ (lessS z a b c).1 ∧ (lessS z a b c).1 < W64) ∧ (lessS z a b c).1 + W64 * (-1 * (lessS z a b c).2) = z + (a * b) * (-1) + -1 * c := by
  obtain ⟨h1, h2⟩ := W64_mul a b ha hb
  rw [WW] at h2
  have h3 := hc.1
  have h4 := hc.2
  have h5 := hz.1
  have h6 := hz.2
  unfold lessS isW
  generalize a * b = p at *
  by_cases h : z < (p + c) % W64
  · rw [if_pos h]
    simp only [W64_eq] at *
    omega
  · rw [if_neg h]
    simp only [W64_eq] at *
    omega

theorem add_val (x y : List Int) (c : Int) (hx : inW x) (hy : inW y) (hl : y.length = x.length) (hc : 0 ≤ c ∧ c ≤ 1) :
    let r := carryL (fun i c => addS (x.getD i 0) (y.getD i 0) c) x.length 0 c
    (0 ≤ r.2 ∧ r.2 ≤ 1) ∧ inB W64 r.1 ∧ valB W64 r.1 + W64 ^ x.length * r.2 = valB W64 x + valB W64 y + c := by
  have h := carryL_val W64 (fun i c => addS (x.getD i 0) (y.getD i 0) c) (fun i => x.getD i 0 + y.getD i 0) 1 (fun c => 0 ≤ c ∧ c ≤ 1) x.length 0 c hc
    (fun j _ _ c hc => addS_ok (isW_get hx j) (isW_get hy j) hc)
  rw [sumB_add, sumB_all, ← hl, sumB_all, Int.one_mul, Int.one_mul] at h
  rw [← hl]
  exact h
theorem sub_val (x y : List Int) (c : Int) (hx : inW x) (hy : inW y) (hl : y.length = x.length) (hc : 0 ≤ c ∧ c ≤ 1) :
    let r := carryL (fun i c => subS (x.getD i 0) (y.getD i 0) c) x.length 0 c
    (0 ≤ r.2 ∧ r.2 ≤ 1) ∧ inB W64 r.1 ∧ valB W64 r.1 - W64 ^ x.length * r.2 = valB W64 x - valB W64 y - c := by
  have h := carryL_val W64 (fun i c => subS (x.getD i 0) (y.getD i 0) c) (fun i => x.getD i 0 + y.getD i 0 * (-1)) (-1) (fun c => 0 ≤ c ∧ c ≤ 1) x.length 0 c hc
    (fun j _ _ c hc => subS_ok (isW_get hx j) (isW_get hy j) hc)
  rw [sumB_add, sumB_smul, sumB_all, ← hl, sumB_all] at h
  rw [← hl]
  refine ⟨h.1, h.2.1, ?_⟩
  have h3 := h.2.2
  rw [Int.neg_mul, Int.one_mul, Int.mul_neg] at h3
  omega
theorem mul_val (x : List Int) (w c : Int) (hx : inW x) (hw : isW w) (hc : isW c) :
    let r := carryL (fun i c => moreS (x.getD i 0) w c 0) x.length 0 c
    isW r.2 ∧ inB W64 r.1 ∧ valB W64 r.1 + W64 ^ x.length * r.2 = valB W64 x * w + c := by
  have h := carryL_val W64 (fun i c => moreS (x.getD i 0) w c 0) (fun i => x.getD i 0 * w) 1 isW x.length 0 c hc
    (fun j _ _ c hc => by
      have h1 := moreS_ok (isW_get hx j) hw hc ⟨Int.le_refl 0, W64_pos⟩
      rw [Int.add_zero] at h1
      rw [Int.one_mul, Int.one_mul]
      exact h1)
  rw [sumB_smul, sumB_all, Int.one_mul, Int.one_mul] at h
  exact h
theorem addMul_val (z x : List Int) (w : Int) (hz : inW z) (hx : inW x) (hw : isW w) (hl : z.length = x.length) :
    let r := carryL (fun i c => moreS (x.getD i 0) w (z.getD i 0) c) x.length 0 0
    isW r.2 ∧ inB W64 r.1 ∧ valB W64 r.1 + W64 ^ x.length * r.2 = valB W64 x * w + valB W64 z := by
  have h := carryL_val W64 (fun i c => moreS (x.getD i 0) w (z.getD i 0) c) (fun i => x.getD i 0 * w + z.getD i 0) 1 isW x.length 0 0 ⟨Int.le_refl 0, W64_pos⟩
    (fun j _ _ c hc => by
      rw [Int.one_mul, Int.one_mul]
      exact moreS_ok (isW_get hx j) hw (isW_get hz j) hc)
  rw [sumB_add, sumB_smul, sumB_all, ← hl, sumB_all, Int.one_mul, Int.one_mul, Int.add_zero] at h
  rw [← hl]
  exact h
theorem subMul_val (z x : List Int) (w : Int) (hz : inW z) (hx : inW x) (hw : isW w) (hl : z.length = x.length) :
    let r := carryL (fun i c => lessS (z.getD i 0) (x.getD i 0) w c) x.length 0 0
    isW r.2 ∧ inB W64 r.1 ∧ valB W64 r.1 - W64 ^ x.length * r.2 = valB W64 z - valB W64 x * w := by
  have h := carryL_val W64 (fun i c => lessS (z.getD i 0) (x.getD i 0) w c) (fun i => z.getD i 0 + (x.getD i 0 * w) * (-1)) (-1) isW x.length 0 0 ⟨Int.le_refl 0, W64_pos⟩
    (fun j _ _ c hc => lessS_ok (isW_get hz j) (isW_get hx j) hw hc)
  rw [sumB_add, sumB_smul, sumB_smul, sumB_all, ← hl, sumB_all] at h
  rw [← hl]
  refine ⟨h.1, h.2.1, ?_⟩
  have h3 := h.2.2
  rw [Int.neg_mul, Int.one_mul, Int.mul_neg] at h3
  omega

/-- -1, 0 or 1. -/
def cmpI (a b : Int) : Int := if a < b then -1 else if b < a then 1 else 0
end Go.Proofs.YtldefhhfcbmbpaaDoor.Ex
/- What the reference's functions on digits hand back (printed in Tx1, Tx2). -/
namespace Go.Proofs.YtldefhhfcbmbpaaDoor.Ex
open Go.RowKit Go.Proofs.YtldefhhfcbmbpaaDoorW.PrintWords Go.Proofs.YtldefhhfcbmbpaaDoorW.PrintLast Go.Proofs.YtldefhhfcbmbpaaDoorW.PrintMore Go.Proofs.YtldefhhfcbmbpaaDoor.T
set_option linter.unusedVariables false
set_option linter.unusedSimpArgs false

/-- The base of the reference's digits. -/
def H32 : Int := 4294967296
theorem H32_eq : H32 = 4294967296 := rfl
theorem H32_pos : 0 < H32 := by decide
theorem H32_sq : H32 * H32 = W64 := by decide
theorem rd_nat (l : List Int) (i : Nat) : rd l (i : Int) = l.getD i 0 := by simp [rd]
theorem w64_nat (n : Nat) (h : n < 4611686018427387904) : wrap64 (n : Int) = (n : Int) := by unfold wrap64; omega
theorem w64_int (n : Int) (h0 : -4611686018427387904 ≤ n) (h : n < 4611686018427387904) : wrap64 n = n := by unfold wrap64; omega
theorem wrapW (q : Int) (h0 : 0 ≤ q) (h1 : q < 18446744073709551616) : IntKind.u64.wrap q = q := Int.emod_eq_of_lt h0 h1
theorem tmodH (q : Int) (h : 0 ≤ q) : Int.tmod q 4294967296 = q % H32 := Int.tmod_eq_emod_of_nonneg h
theorem tdivH (q : Int) (h : 0 ≤ q) : Int.tdiv q 4294967296 = q / H32 := Int.tdiv_eq_ediv_of_nonneg h
theorem Ev.now' {α : Type} {g : Nat → Option α} {r : α} (h : ∀ k, g (k + 1) = some r) : Ev g r := Ev.step h (Ev.now r)

/-! ### digits -/
def digitsL : List Int → List Int
  | [] => []
  | x :: l => x % H32 :: x / H32 :: digitsL l
theorem digitsL_length : ∀ l, (digitsL l).length = 2 * l.length
  | [] => rfl
  | x :: l => by simp [digitsL, digitsL_length l]; omega
theorem digitsL_in : ∀ {l}, inW l → inB H32 (digitsL l)
  | [], _ => inB_nil
  | x :: l, h => by
    have h1 := inW_cons.1 h
    have h2 := h1.1.1
    have h3 := h1.1.2
    rw [W64_eq] at h3
    exact inB_cons.2 ⟨by rw [H32_eq]; omega, inB_cons.2 ⟨by rw [H32_eq]; omega, digitsL_in h1.2⟩⟩
theorem digitsL_val : ∀ l, valB H32 (digitsL l) = valB W64 l
  | [] => rfl
  | x :: l => by
    show x % H32 + H32 * (x / H32 + H32 * valB H32 (digitsL l)) = x + W64 * valB W64 l
    rw [digitsL_val l, Int.mul_add, ← Int.mul_assoc, H32_sq, ← Int.add_assoc]
    have := Int.emod_add_mul_ediv x H32
    omega
theorem Digits_loop (l : List Int) (hl : inW l) (hn : l.length ≤ 1000000) : ∀ n i acc, i + n = l.length → acc.length = 2 * i → Ev (fun k => reckonerref01_Digits.l0 k l acc (i : Int)) (acc ++ digitsL (l.drop i))
  | 0, i, acc, h, _ => by
    rw [List.drop_of_length_le (by omega)]
    refine Ev.now' fun k => ?_
    rw [reckonerref01_Digits.l0, if_neg (by omega)]
    simp [digitsL]
  | n + 1, i, acc, h, ha => by
    have hi : i < l.length := by omega
    have ih := Digits_loop l hl hn n (i + 1) (acc ++ [l[i] % H32, l[i] / H32]) (by omega) (by simp [ha]; omega)
    have hx : isW l[i] := hl _ (List.getElem_mem _)
    have h1 := hx.1
    have h2 := hx.2
    rw [W64_eq] at h2
    rw [List.drop_eq_getElem_cons hi]
    have e : acc ++ digitsL (l[i] :: l.drop (i + 1)) = (acc ++ [l[i] % H32, l[i] / H32]) ++ digitsL (l.drop (i + 1)) := by simp [digitsL]
    rw [e]
    refine Ev.step (fun k => ?_) ih
    have hg : l.getD i 0 = l[i] := by simp [List.getD_eq_getElem?_getD, List.getElem?_eq_getElem hi]
    have e1 : wrap64 ((i : Int) + 1) = ((i + 1 : Nat) : Int) := by rw [← w64_nat (i + 1) (by omega)]; rfl
    rw [reckonerref01_Digits.l0, if_pos (by omega), if_pos (by omega), Option.bind_some, if_pos (by simp; omega), rd_nat, hg, e1, tmodH _ h1, tdivH _ h1, wrapW _ (by rw [H32_eq]; omega) (by rw [H32_eq]; omega)]
theorem Digits_ev (l : List Int) (hl : inW l) (hn : l.length ≤ 1000000) : Ev (fun k => reckonerref01_Digits.f k l) (digitsL l) := by
  have h := Digits_loop l hl hn l.length 0 [] (by omega) rfl
  rw [List.drop_zero, List.nil_append] at h
  exact h

/-! ### a row of digits -/
def rowL : List Int → List Int
  | a :: b :: l => (a + b * H32) :: rowL l
  | _ => []
theorem rowL_in : ∀ {d}, inB H32 d → inW (rowL d)
  | [], _ => inW_nil
  | [_], _ => inW_nil
  | a :: b :: l, h => by
    have h1 := inB_cons.1 h
    have h2 := inB_cons.1 h1.2
    have h3 := h1.1
    have h4 := h2.1
    rw [H32_eq] at h3 h4
    exact inW_cons.2 ⟨by unfold isW; rw [H32_eq, W64_eq]; omega, rowL_in h2.2⟩
theorem rowL_length : ∀ d, (rowL d).length = d.length / 2
  | [] => rfl
  | [_] => by simp [rowL]
  | a :: b :: l => by
    have h := rowL_length l
    show (rowL l).length + 1 = (l.length + 1 + 1) / 2
    omega
theorem rowL_val : ∀ d, d.length % 2 = 0 → valB W64 (rowL d) = valB H32 d
  | [], _ => rfl
  | [_], h => by simp at h
  | a :: b :: l, h => by
    show a + b * H32 + W64 * valB W64 (rowL l) = a + H32 * (b + H32 * valB H32 l)
    rw [rowL_val l (by simp at h; omega), Int.mul_add, ← Int.mul_assoc, H32_sq, Int.mul_comm b]
    omega
theorem Row_loop (d : List Int) (hd : inB H32 d) (hn : d.length ≤ 4000000) : ∀ n i acc, 2 * (i + n) = d.length ∨ 2 * (i + n) + 1 = d.length → acc.length = i → Ev (fun k => reckonerref01_Row.l0 k d acc ((2 * i : Nat) : Int)) (acc ++ rowL (d.drop (2 * i)))
  | 0, i, acc, h, _ => by
    have e : rowL (d.drop (2 * i)) = [] := by
      have h1 : (d.drop (2 * i)).length ≤ 1 := by rw [List.length_drop]; omega
      match hm : d.drop (2 * i), h1 with
      | [], _ => rfl
      | [_], _ => rfl
      | _ :: _ :: _, h1 => simp at h1
    rw [e, List.append_nil]
    refine Ev.now' fun k => ?_
    have e1 : wrap64 (((2 * i : Nat) : Int) + 1) = ((2 * i + 1 : Nat) : Int) := by rw [← w64_nat (2 * i + 1) (by omega)]; rfl
    rw [reckonerref01_Row.l0, e1, if_neg (by omega)]
  | n + 1, i, acc, h, ha => by
    have hi : 2 * i < d.length := by omega
    have hi1 : 2 * i + 1 < d.length := by omega
    have ih := Row_loop d hd hn n (i + 1) (acc ++ [d[2 * i] + d[2 * i + 1] * H32]) (by omega) (by simp [ha])
    have h1 := hd _ (List.getElem_mem hi)
    have h2 := hd _ (List.getElem_mem hi1)
    rw [H32_eq] at h1 h2
    rw [List.drop_eq_getElem_cons hi, List.drop_eq_getElem_cons hi1]
    have e : acc ++ rowL (d[2 * i] :: d[2 * i + 1] :: d.drop (2 * i + 1 + 1)) = (acc ++ [d[2 * i] + d[2 * i + 1] * H32]) ++ rowL (d.drop (2 * (i + 1))) := by simp [rowL, Nat.mul_add]
    rw [e]
    refine Ev.step (fun k => ?_) ih
    have hg : d.getD (2 * i) 0 = d[2 * i] := by simp [List.getD_eq_getElem?_getD, List.getElem?_eq_getElem hi]
    have hg1 : d.getD (2 * i + 1) 0 = d[2 * i + 1] := by simp [List.getD_eq_getElem?_getD, List.getElem?_eq_getElem hi1]
    have e1 : wrap64 (((2 * i : Nat) : Int) + 1) = ((2 * i + 1 : Nat) : Int) := by rw [← w64_nat (2 * i + 1) (by omega)]; rfl
    have e2 : wrap64 (((2 * i : Nat) : Int) + 2) = ((2 * (i + 1) : Nat) : Int) := by rw [← w64_nat (2 * (i + 1)) (by omega)]; rfl
    rw [reckonerref01_Row.l0, e1, if_pos (by omega), if_pos (by omega), if_pos (by omega), if_pos (by omega), if_pos (by omega), rd_nat, rd_nat, hg, hg1, e2, wrapW (d[2 * i + 1] * 4294967296) (by omega) (by omega), wrapW _ (by omega) (by omega)]
    rfl
theorem Row_ev (d : List Int) (hd : inB H32 d) (hn : d.length ≤ 4000000) : Ev (fun k => reckonerref01_Row.f k d) (rowL d) := by
  have h := Row_loop d hd hn (d.length / 2) 0 [] (by omega) rfl
  rw [List.drop_zero, List.nil_append] at h
  exact h

/-! ### a digit, 0 beyond the end -/
theorem digit_some (a : List Int) (i : Nat) : reckonerref01_digit.f a (i : Int) = some (a.getD i 0) := by
  unfold reckonerref01_digit.f
  by_cases h : i < a.length
  · rw [if_pos (by omega), if_pos (by omega), rd_nat]
  · rw [if_neg (by omega)]
    simp [List.getD_eq_getElem?_getD, List.getElem?_eq_none (by omega : a.length ≤ i)]

/-! ### sums -/
def plusS (a b : List Int) (i : Nat) (c : Int) : Int × Int := ((c + a.getD i 0 + b.getD i 0) % H32, (c + a.getD i 0 + b.getD i 0) / H32)
theorem plusS_ok {a b : List Int} (ha : inB H32 a) (hb : inB H32 b) (i : Nat) {c : Int} (hc : 0 ≤ c ∧ c ≤ 1) :
    (0 ≤ (plusS a b i c).2 ∧ (plusS a b i c).2 ≤ 1) ∧ (0 ≤ (plusS a b i c).1 ∧ (plusS a b i c).1 < H32) ∧ (plusS a b i c).1 + H32 * (1 * (plusS a b i c).2) = (a.getD i 0 + b.getD i 0) + 1 * c := by
  have h1 := inB_getD H32_pos ha i
  have h2 := inB_getD H32_pos hb i
  unfold plusS
  simp only [H32_eq] at *
  omega
theorem Plus_loop (a b : List Int) (ha : inB H32 a) (hb : inB H32 b) (hn : a.length ≤ 4000000) (hm : b.length ≤ 4000000) : ∀ n i c (acc : List Int), i + n = max a.length b.length → acc.length = i → 0 ≤ c ∧ c ≤ 1 →
    Ev (fun k => reckonerref01_Plus.l0 k a b acc c (i : Int)) (acc ++ (carryL (plusS a b) n i c).1 ++ [(carryL (plusS a b) n i c).2])
  | 0, i, c, acc, h, hacc, hc => by
    refine Ev.step (f := fun k => reckonerref01_Plus.j1 k a b acc c (i : Int) false) (fun k => ?_) (Ev.now' fun k => ?_)
    · rw [reckonerref01_Plus.l0, if_neg (by omega)]
      have e : decide ((i : Int) < (b.length : Int)) = false := decide_eq_false (by omega)
      rw [e]
    · rw [reckonerref01_Plus.j1, if_neg (by decide), if_pos (by omega)]
      simp [carryL]
  | n + 1, i, c, acc, h, hacc, hc => by
    have q1 : acc.length < 17592186044416 := by omega
    have q2 : ¬ (i : Int) < (a.length : Int) → (i : Int) < (b.length : Int) := by omega
    have h1 := inB_getD H32_pos ha i
    have h2 := inB_getD H32_pos hb i
    rw [H32_eq] at h1 h2
    have q3 : IntKind.u64.wrap (c + a.getD i 0) = c + a.getD i 0 := wrapW _ (by omega) (by omega)
    have q4 : 0 ≤ c + a.getD i 0 + b.getD i 0 ∧ c + a.getD i 0 + b.getD i 0 < 18446744073709551616 := by omega
    have q5 : 0 ≤ (c + a.getD i 0 + b.getD i 0) / H32 ∧ (c + a.getD i 0 + b.getD i 0) / H32 < 18446744073709551616 := by rw [H32_eq]; omega
    have e1 : wrap64 ((i : Int) + 1) = ((i + 1 : Nat) : Int) := by rw [← w64_nat (i + 1) (by omega)]; rfl
    obtain ⟨k1, k2, _⟩ := plusS_ok ha hb i hc
    have ih := Plus_loop a b ha hb hn hm n (i + 1) (plusS a b i c).2 (acc ++ [(plusS a b i c).1]) (by omega) (by simp [hacc]) k1
    have e : acc ++ (carryL (plusS a b) (n + 1) i c).1 ++ [(carryL (plusS a b) (n + 1) i c).2] = (acc ++ [(plusS a b i c).1]) ++ (carryL (plusS a b) n (i + 1) (plusS a b i c).2).1 ++ [(carryL (plusS a b) n (i + 1) (plusS a b i c).2).2] := by simp [carryL]
    rw [e]
    refine Ev.step (f := fun k => reckonerref01_Plus.j1 k a b acc c (i : Int) true) (fun k => ?_) (Ev.step (fun k => ?_) ih)
    · show reckonerref01_Plus.l0 (k + 1) a b acc c (i : Int) = reckonerref01_Plus.j1 k a b acc c (i : Int) true
      rw [reckonerref01_Plus.l0]
      by_cases hl : (i : Int) < (a.length : Int)
      · exact if_pos hl
      · have e : decide ((i : Int) < (b.length : Int)) = true := decide_eq_true (q2 hl)
        exact (if_neg hl).trans (by rw [e])
    · rw [reckonerref01_Plus.j1, if_pos rfl, digit_some, digit_some, Option.bind_some, Option.bind_some, if_pos q1, e1, q3, wrapW _ q4.1 q4.2, tmodH _ q4.1, tdivH _ q4.1, wrapW _ q5.1 q5.2]
      rfl
/-- A sum of digits. -/
theorem Plus_ev (a b : List Int) (ha : inB H32 a) (hb : inB H32 b) (hn : a.length ≤ 4000000) (hm : b.length ≤ 4000000) :
    ∃ r, Ev (fun k => reckonerref01_Plus.f k a b) r ∧ inB H32 r ∧ r.length = max a.length b.length + 1 ∧ valB H32 r = valB H32 a + valB H32 b := by
  have h := Plus_loop a b ha hb hn hm (max a.length b.length) 0 0 [] (by omega) rfl ⟨Int.le_refl 0, by decide⟩
  obtain ⟨k1, k2, k3⟩ := carryL_val H32 (plusS a b) (fun i => a.getD i 0 + b.getD i 0) 1 (fun c => 0 ≤ c ∧ c ≤ 1) (max a.length b.length) 0 0 ⟨Int.le_refl 0, by decide⟩ (fun j _ _ c hc => plusS_ok ha hb j hc)
  have kl := carryL_length (plusS a b) (max a.length b.length) 0 0
  rw [List.nil_append] at h
  refine ⟨_, h, inB_append.2 ⟨k2, inB_cons.2 ⟨⟨k1.1, by have := k1.2; rw [H32_eq]; omega⟩, inB_nil⟩⟩, by simp [kl], ?_⟩
  rw [valB_append, kl]
  rw [sumB_add, sumB_pad H32 a _ (Nat.le_max_left _ _), sumB_pad H32 b _ (Nat.le_max_right _ _)] at k3
  simp only [valB, Int.mul_zero, Int.add_zero, Int.one_mul] at k3 ⊢
  exact k3

/-! ### differences -/
def minusS (a b : List Int) (i : Nat) (c : Int) : Int × Int := ((a.getD i 0 + H32 - b.getD i 0 - c) % H32, 1 - (a.getD i 0 + H32 - b.getD i 0 - c) / H32)
theorem minusS_ok {a b : List Int} (ha : inB H32 a) (hb : inB H32 b) (i : Nat) {c : Int} (hc : 0 ≤ c ∧ c ≤ 1) :
    (0 ≤ (minusS a b i c).2 ∧ (minusS a b i c).2 ≤ 1) ∧ (0 ≤ (minusS a b i c).1 ∧ (minusS a b i c).1 < H32) ∧ (minusS a b i c).1 + H32 * (-1 * (minusS a b i c).2) = (a.getD i 0 + b.getD i 0 * (-1)) + -1 * c := by
  have h1 := inB_getD H32_pos ha i
  have h2 := inB_getD H32_pos hb i
  unfold minusS
  simp only [H32_eq] at *
  omega
theorem Minus_loop (a b : List Int) (ha : inB H32 a) (hb : inB H32 b) (hn : a.length ≤ 4000000) : ∀ n i c (acc : List Int), i + n = a.length → acc.length = i → 0 ≤ c ∧ c ≤ 1 →
    Ev (fun k => reckonerref01_Minus.l0 k a b acc c (i : Int)) (acc ++ (carryL (minusS a b) n i c).1, ((carryL (minusS a b) n i c).2 == 1))
  | 0, i, c, acc, h, hacc, hc => by
    refine Ev.now' fun k => ?_
    rw [reckonerref01_Minus.l0, if_neg (by omega)]
    simp [carryL]
  | n + 1, i, c, acc, h, hacc, hc => by
    have q1 : acc.length < 17592186044416 := by omega
    have q2 : (i : Int) < (a.length : Int) := by omega
    have q2' : (0 : Int) ≤ (i : Int) := by omega
    have h1 := inB_getD H32_pos ha i
    have h2 := inB_getD H32_pos hb i
    rw [H32_eq] at h1 h2
    have q3 : IntKind.u64.wrap (a.getD i 0 + 4294967296) = a.getD i 0 + 4294967296 := wrapW _ (by omega) (by omega)
    have q4 : IntKind.u64.wrap (a.getD i 0 + 4294967296 - b.getD i 0) = a.getD i 0 + 4294967296 - b.getD i 0 := wrapW _ (by omega) (by omega)
    have q5 : 0 ≤ a.getD i 0 + 4294967296 - b.getD i 0 - c ∧ a.getD i 0 + 4294967296 - b.getD i 0 - c < 18446744073709551616 := by omega
    have q6 : 0 ≤ (a.getD i 0 + 4294967296 - b.getD i 0 - c) / H32 ∧ (a.getD i 0 + 4294967296 - b.getD i 0 - c) / H32 ≤ 1 := by rw [H32_eq]; omega
    have q7 : (a.getD i 0 + 4294967296 - b.getD i 0 - c) / H32 < 18446744073709551616 := by omega
    have q8 : 0 ≤ 1 - (a.getD i 0 + 4294967296 - b.getD i 0 - c) / H32 ∧ 1 - (a.getD i 0 + 4294967296 - b.getD i 0 - c) / H32 < 18446744073709551616 := by omega
    have e1 : wrap64 ((i : Int) + 1) = ((i + 1 : Nat) : Int) := by rw [← w64_nat (i + 1) (by omega)]; rfl
    obtain ⟨k1, k2, _⟩ := minusS_ok ha hb i hc
    have ih := Minus_loop a b ha hb hn n (i + 1) (minusS a b i c).2 (acc ++ [(minusS a b i c).1]) (by omega) (by simp [hacc]) k1
    have e : acc ++ (carryL (minusS a b) (n + 1) i c).1 = (acc ++ [(minusS a b i c).1]) ++ (carryL (minusS a b) n (i + 1) (minusS a b i c).2).1 := by simp [carryL]
    have e0 : (carryL (minusS a b) (n + 1) i c).2 = (carryL (minusS a b) n (i + 1) (minusS a b i c).2).2 := by simp [carryL]
    rw [e, e0]
    refine Ev.step (fun k => ?_) ih
    rw [reckonerref01_Minus.l0, if_pos q2, if_pos q2', digit_some, Option.bind_some, if_pos q1, e1, rd_nat, q3, q4, wrapW _ q5.1 q5.2, tmodH _ q5.1, tdivH _ q5.1, wrapW _ q6.1 q7, wrapW _ q8.1 q8.2]
    rfl
/-- A difference of digits, where b is not longer than a, and what was borrowed. -/
theorem Minus_ev (a b : List Int) (ha : inB H32 a) (hb : inB H32 b) (hn : a.length ≤ 4000000) (hl : b.length ≤ a.length) :
    ∃ r c, Ev (fun k => reckonerref01_Minus.f k a b) (r, (c == 1)) ∧ (0 ≤ c ∧ c ≤ 1) ∧ inB H32 r ∧ r.length = a.length ∧ valB H32 r - H32 ^ a.length * c = valB H32 a - valB H32 b := by
  have h := Minus_loop a b ha hb hn a.length 0 0 [] (by omega) rfl ⟨Int.le_refl 0, by decide⟩
  obtain ⟨k1, k2, k3⟩ := carryL_val H32 (minusS a b) (fun i => a.getD i 0 + b.getD i 0 * (-1)) (-1) (fun c => 0 ≤ c ∧ c ≤ 1) a.length 0 0 ⟨Int.le_refl 0, by decide⟩ (fun j _ _ c hc => minusS_ok ha hb j hc)
  rw [List.nil_append] at h
  refine ⟨_, _, h, k1, k2, carryL_length _ _ _ _, ?_⟩
  rw [sumB_add, sumB_smul, sumB_all, sumB_pad H32 b _ hl] at k3
  rw [Int.neg_mul, Int.one_mul, Int.mul_neg] at k3
  omega
/-- .. where b may be longer, with no digit but 0 there. -/
theorem Minus_ev' (a b : List Int) (ha : inB H32 a) (hb : inB H32 b) (hn : a.length ≤ 4000000) (hz : valB H32 b < H32 ^ a.length) :
    ∃ r c, Ev (fun k => reckonerref01_Minus.f k a b) (r, (c == 1)) ∧ (0 ≤ c ∧ c ≤ 1) ∧ inB H32 r ∧ r.length = a.length ∧ valB H32 r - H32 ^ a.length * c = valB H32 a - valB H32 b := by
  have h := Minus_loop a b ha hb hn a.length 0 0 [] (by omega) rfl ⟨Int.le_refl 0, by decide⟩
  obtain ⟨k1, k2, k3⟩ := carryL_val H32 (minusS a b) (fun i => a.getD i 0 + b.getD i 0 * (-1)) (-1) (fun c => 0 ≤ c ∧ c ≤ 1) a.length 0 0 ⟨Int.le_refl 0, by decide⟩ (fun j _ _ c hc => minusS_ok ha hb j hc)
  rw [List.nil_append] at h
  refine ⟨_, _, h, k1, k2, carryL_length _ _ _ _, ?_⟩
  rw [sumB_add, sumB_smul, sumB_all, sumB_low H32_pos b hb _ hz] at k3
  rw [Int.neg_mul, Int.one_mul, Int.mul_neg] at k3
  omega

/-! ### two rows the same -/
theorem Same_loop (a b : List Int) (hl : a.length = b.length) (hn : a.length ≤ 1000000) : ∀ n i, i + n = a.length → a.take i = b.take i → Ev (fun k => reckonerref01_Same.l0 k a b (i : Int)) (decide (a = b))
  | 0, i, h, ht => by
    refine Ev.now' fun k => ?_
    rw [List.take_of_length_le (by omega), List.take_of_length_le (by omega)] at ht
    rw [reckonerref01_Same.l0, if_neg (by omega), decide_eq_true ht]
  | n + 1, i, h, ht => by
    have e1 : wrap64 ((i : Int) + 1) = ((i + 1 : Nat) : Int) := by rw [← w64_nat (i + 1) (by omega)]; rfl
    have hi : i < a.length := by omega
    have hi' : i < b.length := by omega
    have ga : a.getD i 0 = a[i] := by simp [List.getD_eq_getElem?_getD, List.getElem?_eq_getElem hi]
    have gb : b.getD i 0 = b[i] := by simp [List.getD_eq_getElem?_getD, List.getElem?_eq_getElem hi']
    by_cases hs : a[i] = b[i]
    · refine Ev.step (fun k => ?_) (Same_loop a b hl hn n (i + 1) (by omega) ?_)
      · rw [reckonerref01_Same.l0, if_pos (by omega), if_pos (by omega), if_pos (by omega), rd_nat, rd_nat, ga, gb, if_pos hs, e1]
      · rw [List.take_succ_eq_append_getElem hi, List.take_succ_eq_append_getElem hi', ht, hs]
    · refine Ev.now' fun k => ?_
      rw [reckonerref01_Same.l0, if_pos (by omega), if_pos (by omega), if_pos (by omega), rd_nat, rd_nat, ga, gb, if_neg hs]
      rw [decide_eq_false]
      rintro rfl
      exact hs rfl
theorem same_ev (a b : List Int) (hn : a.length ≤ 1000000) : Ev (fun k => reckonerlaw01_same.f k a b) (decide (a = b)) := by
  have h : Ev (fun k => reckonerref01_Same.f k a b) (decide (a = b)) := by
    by_cases hl : a.length = b.length
    · refine Ev.congr (fun k => ?_) (Same_loop a b hl hn a.length 0 (by omega) rfl)
      show reckonerref01_Same.f k a b = _
      unfold reckonerref01_Same.f
      rw [if_pos (by omega)]
      rfl
    · refine Ev.congr (f := fun _ => some (decide (a = b))) (fun k => ?_) (Ev.now _)
      show reckonerref01_Same.f k a b = _
      unfold reckonerref01_Same.f
      rw [if_neg (by omega), decide_eq_false (fun e => hl (by rw [e]))]
  exact Ev.bind h (Ev.now _)
theorem same_true {a b : List Int} (h : a = b) (hn : a.length ≤ 1000000) : Ev (fun k => reckonerlaw01_same.f k a b) true := by
  have h1 := same_ev a b hn
  rw [decide_eq_true h] at h1
  exact h1
end Go.Proofs.YtldefhhfcbmbpaaDoor.Ex
/- The reference's Cut, Add, Sub (printed in Tx1, Tx2), and the row functions' results in values. -/
namespace Go.Proofs.YtldefhhfcbmbpaaDoor.Ex
open Go.RowKit Go.Proofs.YtldefhhfcbmbpaaDoorW.PrintWords Go.Proofs.YtldefhhfcbmbpaaDoorW.PrintLast Go.Proofs.YtldefhhfcbmbpaaDoorW.PrintMore Go.Proofs.YtldefhhfcbmbpaaDoor.T
set_option linter.unusedVariables false
set_option linter.unusedSimpArgs false

theorem H32_pow (n : Nat) : H32 ^ (2 * n) = W64 ^ n := by
  rw [Int.pow_mul, show H32 ^ 2 = W64 by decide]
theorem Ev.ite_pos {α : Type} {c : Nat → Prop} [∀ k, Decidable (c k)] {a b : Nat → Option α} {r : α} (h : ∀ k, c k) (ha : Ev a r) : Ev (fun k => if c k then a k else b k) r := Ev.congr (fun k => if_pos (h k)) ha

/-- The value of a row's two highest digits. -/
theorem getD_two {d : List Int} (n : Nat) (h : n + 2 ≤ d.length) : d.drop n = d.getD n 0 :: d.getD (n + 1) 0 :: d.drop (n + 2) := by
  have h1 : n < d.length := by omega
  have h2 : n + 1 < d.length := by omega
  rw [List.drop_eq_getElem_cons h1, List.drop_eq_getElem_cons h2]
  simp [List.getD_eq_getElem?_getD, List.getElem?_eq_getElem h1, List.getElem?_eq_getElem h2]

/-- What Cut makes of digits that are enough. -/
theorem Cut_done (d : List Int) (hd : inB H32 d) (n : Nat) (hn : n ≤ 1000000) (hm : d.length ≤ 4000000) (hl : 2 * n + 2 ≤ d.length) :
    Ev (fun k => reckonerref01_Cut.l0 k (n : Int) d) (rowL (d.take (2 * n)), d.getD (2 * n) 0 + d.getD (2 * n + 1) 0 * H32) := by
  have e1 : wrap64 (2 * (n : Int)) = ((2 * n : Nat) : Int) := by rw [← w64_nat (2 * n) (by omega)]; rfl
  have e2 : wrap64 (((2 * n : Nat) : Int) + 2) = ((2 * n + 2 : Nat) : Int) := by rw [← w64_nat (2 * n + 2) (by omega)]; rfl
  have e3 : wrap64 (((2 * n : Nat) : Int) + 1) = ((2 * n + 1 : Nat) : Int) := by rw [← w64_nat (2 * n + 1) (by omega)]; rfl
  have h1 := inB_getD H32_pos hd (2 * n)
  have h2 := inB_getD H32_pos hd (2 * n + 1)
  rw [H32_eq] at h1 h2
  have q1 : ¬ (d.length : Int) < ((2 * n + 2 : Nat) : Int) := by omega
  have q2 : (0 : Int) ≤ ((2 * n : Nat) : Int) := by omega
  have q3 : ((2 * n : Nat) : Int) ≤ (d.length : Int) := by omega
  have q4 : ((2 * n : Nat) : Int) < (d.length : Int) := by omega
  have q5 : (0 : Int) ≤ ((2 * n + 1 : Nat) : Int) := by omega
  have q6 : ((2 * n + 1 : Nat) : Int) < (d.length : Int) := by omega
  have q7 : IntKind.u64.wrap (d.getD (2 * n + 1) 0 * 4294967296) = d.getD (2 * n + 1) 0 * 4294967296 := wrapW _ (by omega) (by omega)
  have q8 : IntKind.u64.wrap (d.getD (2 * n) 0 + d.getD (2 * n + 1) 0 * 4294967296) = d.getD (2 * n) 0 + d.getD (2 * n + 1) 0 * 4294967296 := wrapW _ (by omega) (by omega)
  have hR := Row_ev (d.take (2 * n)) (inB_take hd _) (by rw [List.length_take]; omega)
  refine Ev.step (f := fun k => (reckonerref01_Row.f k (d.take (2 * n))).bind fun t => some (t, d.getD (2 * n) 0 + d.getD (2 * n + 1) 0 * H32)) (fun k => ?_) (Ev.bind hR (Ev.now _))
  rw [reckonerref01_Cut.l0, e1, e2, e3, if_neg q1, if_pos q2, if_pos q3, Int.toNat_natCast]
  simp only [if_pos q4, if_pos q5, if_pos q6, rd_nat, q7, q8]
  rfl
/-- Cut: the row of n words, and the word above it; what digits there are beyond that is left out. -/
theorem Cut_loop (n : Nat) (hn : n ≤ 1000000) : ∀ m (d : List Int), inB H32 d → d.length ≤ 4000000 → 2 * n + 2 - d.length = m →
    ∃ r t, Ev (fun k => reckonerref01_Cut.l0 k (n : Int) d) (r, t) ∧ inW r ∧ r.length = n ∧ isW t ∧ valB W64 r + W64 ^ n * t = valB H32 d % (W64 ^ n * W64)
  | 0, d, hd, hm, hl => by
    have h1 := inB_getD H32_pos hd (2 * n)
    have h2 := inB_getD H32_pos hd (2 * n + 1)
    have hl2 : 2 * n + 2 ≤ d.length := by omega
    have hlt : (d.take (2 * n)).length = 2 * n := by rw [List.length_take]; omega
    refine ⟨_, _, Cut_done d hd n hn hm hl2, rowL_in (inB_take hd _), by rw [rowL_length, hlt]; omega, ?_, ?_⟩
    · rw [H32_eq] at h1 h2
      unfold isW
      rw [H32_eq, W64_eq]
      omega
    · rw [rowL_val _ (by rw [hlt]; omega)]
      have e1 : W64 ^ n * W64 = H32 ^ (2 * n + 2) := by rw [show 2 * n + 2 = 2 * (n + 1) by omega, H32_pow, Int.pow_succ]
      rw [e1, ← valB_take H32_pos hd (2 * n + 2) hl2, valB_split H32 (d.take (2 * n + 2)) (2 * n) (by rw [List.length_take]; omega), List.take_take, Nat.min_eq_left (by omega : 2 * n ≤ 2 * n + 2), H32_pow]
      congr 1
      have e2 : (d.take (2 * n + 2)).drop (2 * n) = [d.getD (2 * n) 0, d.getD (2 * n + 1) 0] := by
        rw [List.drop_take, getD_two (2 * n) hl2]
        simp
      rw [e2]
      congr 1
      simp [valB, Int.mul_comm]
  | m + 1, d, hd, hm, hl => by
    have e1 : wrap64 (2 * (n : Int)) = ((2 * n : Nat) : Int) := by rw [← w64_nat (2 * n) (by omega)]; rfl
    have e2 : wrap64 (((2 * n : Nat) : Int) + 2) = ((2 * n + 2 : Nat) : Int) := by rw [← w64_nat (2 * n + 2) (by omega)]; rfl
    have q1 : (d.length : Int) < ((2 * n + 2 : Nat) : Int) := by omega
    have q2 : d.length < 17592186044416 := by omega
    have ho : inB H32 (d ++ [0]) := inB_append.2 ⟨hd, inB_cons.2 ⟨⟨Int.le_refl 0, H32_pos⟩, inB_nil⟩⟩
    obtain ⟨r, t, h1, h2⟩ := Cut_loop n hn m (d ++ [0]) ho (by simp; omega) (by simp; omega)
    refine ⟨r, t, Ev.step (fun k => ?_) h1, ?_⟩
    · rw [reckonerref01_Cut.l0, e1, e2, if_pos q1, if_pos q2]
    · have e3 : valB H32 (d ++ [0]) = valB H32 d := by rw [valB_append]; simp [valB]
      rw [e3] at h2
      exact h2
theorem Cut_ev (n : Nat) (hn : n ≤ 1000000) (d : List Int) (hd : inB H32 d) (hm : d.length ≤ 4000000) :
    ∃ r t, Ev (fun k => reckonerref01_Cut.f k d (n : Int)) (r, t) ∧ inW r ∧ r.length = n ∧ isW t ∧ valB W64 r + W64 ^ n * t = valB H32 d % (W64 ^ n * W64) := by
  obtain ⟨r, t, h1, h2⟩ := Cut_loop n hn _ d hd hm rfl
  refine ⟨r, t, ?_, h2⟩
  have q : (([] : List Int).length + d.length < 17592186044416) := by simp; omega
  refine Ev.congr (fun k => ?_) h1
  show reckonerref01_Cut.f k d (n : Int) = _
  unfold reckonerref01_Cut.f
  rw [if_pos q, List.nil_append]

/-- Two rows of words of one length with a word above them are the same if their values are. -/
theorem row_eq {a b : List Int} {s t : Int} {n : Nat} (ha : inW a) (hb : inW b) (hla : a.length = n) (hlb : b.length = n) (h : valB W64 a + W64 ^ n * s = valB W64 b + W64 ^ n * t) : a = b ∧ s = t := by
  have h1 := valB_nonneg W64_pos (inB_of_inW ha)
  have h2 := valB_lt W64_pos (inB_of_inW ha)
  have h3 := valB_nonneg W64_pos (inB_of_inW hb)
  have h4 := valB_lt W64_pos (inB_of_inW hb)
  rw [hla] at h2
  rw [hlb] at h4
  obtain ⟨e1, e2⟩ := div_unique h1 h2 h3 h4 h
  exact ⟨valB_inj W64_pos (inB_of_inW ha) (inB_of_inW hb) (hla.trans hlb.symm) e1, e2⟩
theorem pow_W64_pos (n : Nat) : 0 < W64 ^ n := pow_posB W64_pos n

/-- The reference's sum is the program's. -/
theorem Add_ev (x y : List Int) (c : Int) (hx : inW x) (hy : inW y) (hl : y.length = x.length) (hc : 0 ≤ c ∧ c ≤ 1) (hn : x.length ≤ 4096) :
    Ev (fun k => reckonerref01_Add.f k x y c) (carryL (fun i c => addS (x.getD i 0) (y.getD i 0) c) x.length 0 c) := by
  have d1 := Digits_ev x hx (by omega)
  have d2 := Digits_ev y hy (by omega)
  obtain ⟨p, hp1, hp2, hp3, hp4⟩ := Plus_ev (digitsL x) (digitsL y) (digitsL_in hx) (digitsL_in hy) (by rw [digitsL_length]; omega) (by rw [digitsL_length]; omega)
  have hlp : p.length = 2 * x.length + 1 := by rw [hp3, digitsL_length, digitsL_length, hl, Nat.max_self]
  have hcc : inB H32 [c] := inB_cons.2 ⟨⟨hc.1, by have := hc.2; rw [H32_eq]; omega⟩, inB_nil⟩
  obtain ⟨q, hq1, hq2, hq3, hq4⟩ := Plus_ev p [c] hp2 hcc (by omega) (by simp)
  have hlq : q.length ≤ 4000000 := by rw [hq3]; simp only [List.length_cons, List.length_nil]; omega
  obtain ⟨r, t, hr1, hr2, hr3, hr4, hr5⟩ := Cut_ev x.length (by omega) q hq2 hlq
  obtain ⟨v1, v2, v3⟩ := add_val x y c hx hy hl hc
  have hw : valB H32 q = valB W64 x + valB W64 y + c := by
    rw [hq4, hp4, digitsL_val, digitsL_val]
    simp [valB]
  have hlen := carryL_length (fun i c => addS (x.getD i 0) (y.getD i 0) c) x.length 0 c
  have hv0 := valB_nonneg W64_pos v2
  have hv1 := valB_lt W64_pos v2
  rw [hlen] at hv1
  have hpp := pow_W64_pos x.length
  have hmod : valB H32 q % (W64 ^ x.length * W64) = valB H32 q := by
    refine Int.emod_eq_of_lt (by rw [hw, ← v3]; exact Int.add_nonneg hv0 (Int.mul_nonneg (by omega) v1.1)) ?_
    rw [hw, ← v3]
    have h1 : W64 ^ x.length * (carryL (fun i c => addS (x.getD i 0) (y.getD i 0) c) x.length 0 c).2 ≤ W64 ^ x.length * 1 := Int.mul_le_mul_of_nonneg_left v1.2 (by omega)
    have h2 : W64 ^ x.length * 2 ≤ W64 ^ x.length * W64 := Int.mul_le_mul_of_nonneg_left (by decide) (by omega)
    omega
  rw [hmod, hw, ← v3] at hr5
  obtain ⟨e1, e2⟩ := row_eq hr2 v2 hr3 hlen hr5
  have hE : (carryL (fun i c => addS (x.getD i 0) (y.getD i 0) c) x.length 0 c) = (r, t) := by rw [e1, e2]
  rw [hE]
  refine Ev.congr (fun k => rfl) (Ev.bind d1 (Ev.bind d2 (Ev.bind hp1 (Ev.bind hq1 (Ev.bind hr1 (Ev.now (r, t)))))))

/-- The reference's difference is the program's. -/
theorem Sub_ev (x y : List Int) (c : Int) (hx : inW x) (hy : inW y) (hl : y.length = x.length) (hc : 0 ≤ c ∧ c ≤ 1) (hn : x.length ≤ 4096) :
    Ev (fun k => reckonerref01_Sub.f k x y c) (carryL (fun i c => subS (x.getD i 0) (y.getD i 0) c) x.length 0 c) := by
  have d1 := Digits_ev x hx (by omega)
  have d2 := Digits_ev y hy (by omega)
  have hcc : inB H32 [c] := inB_cons.2 ⟨⟨hc.1, by have := hc.2; rw [H32_eq]; omega⟩, inB_nil⟩
  obtain ⟨p, hp1, hp2, hp3, hp4⟩ := Plus_ev (digitsL y) [c] (digitsL_in hy) hcc (by rw [digitsL_length]; omega) (by simp)
  have hlp : p.length ≤ 2 * x.length + 2 := by rw [hp3, digitsL_length, hl]; simp only [List.length_cons, List.length_nil]; omega
  have ha : inB H32 (digitsL x ++ [0, 0]) := inB_append.2 ⟨digitsL_in hx, inB_cons.2 ⟨⟨Int.le_refl 0, H32_pos⟩, inB_cons.2 ⟨⟨Int.le_refl 0, H32_pos⟩, inB_nil⟩⟩⟩
  have hla : (digitsL x ++ [0, 0]).length = 2 * x.length + 2 := by simp [digitsL_length]
  obtain ⟨d, b, hm1, hm2, hm3, hm4, hm5⟩ := Minus_ev (digitsL x ++ [0, 0]) p ha hp2 (by omega) (by omega)
  obtain ⟨v1, v2, v3⟩ := sub_val x y c hx hy hl hc
  have hlen := carryL_length (fun i c => subS (x.getD i 0) (y.getD i 0) c) x.length 0 c
  obtain ⟨z, u, hzu⟩ : ∃ z u, carryL (fun i c => subS (x.getD i 0) (y.getD i 0) c) x.length 0 c = (z, u) := ⟨_, _, rfl⟩
  rw [hzu] at v1 v2 v3 hlen ⊢
  simp only at v1 v2 v3 hlen
  have e1 : valB H32 (digitsL x ++ [0, 0]) = valB W64 x := by rw [valB_append, digitsL_val]; simp [valB]
  have e2 : valB H32 p = valB W64 y + c := by rw [hp4, digitsL_val]; simp [valB]
  rw [hla] at hm4 hm5
  rw [e1, e2, show 2 * x.length + 2 = 2 * (x.length + 1) by omega, H32_pow, Int.pow_succ] at hm5
  have hdl : 2 * x.length ≤ d.length := by omega
  have hsp := valB_split H32 d (2 * x.length) hdl
  rw [H32_pow] at hsp
  have hrow := rowL_val (d.take (2 * x.length)) (by rw [List.length_take, Nat.min_eq_left hdl]; omega)
  have hrl : (rowL (d.take (2 * x.length))).length = x.length := by rw [rowL_length, List.length_take, Nat.min_eq_left hdl]; omega
  have hri := rowL_in (inB_take hm3 (2 * x.length))
  have hr0 := valB_nonneg W64_pos (inB_of_inW hri)
  have hr1 := valB_lt W64_pos (inB_of_inW hri)
  rw [hrl] at hr1
  have hv0 := valB_nonneg W64_pos v2
  have hv1 := valB_lt W64_pos v2
  rw [hlen] at hv1
  have hpp := pow_W64_pos x.length
  -- the row
  have key : valB W64 (rowL (d.take (2 * x.length))) + W64 ^ x.length * (valB H32 (d.drop (2 * x.length)) - W64 * b) = valB W64 z + W64 ^ x.length * (-u) := by
    rw [Int.mul_sub, ← Int.mul_assoc, Int.mul_neg, hrow]
    omega
  obtain ⟨k1, k2⟩ := div_unique hr0 hr1 hv0 hv1 key
  have hz : rowL (d.take (2 * x.length)) = z := valB_inj W64_pos (inB_of_inW hri) v2 (hrl.trans hlen.symm) k1
  have hdd := valB_nonneg H32_pos (inB_drop hm3 (2 * x.length))
  have hdd2 := valB_lt H32_pos (inB_drop hm3 (2 * x.length))
  have hdl2 : (d.drop (2 * x.length)).length = 2 := by rw [List.length_drop]; omega
  rw [hdl2] at hdd2
  have hH2 : H32 ^ 2 = W64 := by decide
  rw [hH2] at hdd2
  have hbu : b = u := by
    rw [W64_eq] at k2 hdd2
    omega
  have hR := Row_ev (d.take (2 * x.length)) (inB_take hm3 _) (by rw [List.length_take]; omega)
  rw [hz] at hR
  have e3 : wrap64 (2 * (x.length : Int)) = ((2 * x.length : Nat) : Int) := by rw [← w64_nat (2 * x.length) (by omega)]; rfl
  have q1 : (digitsL x).length + ([0, 0] : List Int).length < 17592186044416 := by rw [digitsL_length]; simp only [List.length_cons, List.length_nil]; omega
  have q2 : (0 : Int) ≤ ((2 * x.length : Nat) : Int) := by omega
  have q3 : ((2 * x.length : Nat) : Int) ≤ (d.length : Int) := by omega
  refine Ev.congr (f := fun k => (reckonerref01_Digits.f k x).bind fun t162 => if t162.length + ([0, 0] : List Int).length < 17592186044416 then ((reckonerref01_Digits.f k y).bind fun t171 => (reckonerref01_Plus.f k t171 [c]).bind fun t177 => (reckonerref01_Minus.f k (t162 ++ [0, 0]) t177).bind fun bt => if bt.2 = true then (if 0 ≤ (wrap64 (2 * (x.length : Int))) then (if (wrap64 (2 * (x.length : Int))) ≤ (bt.1.length : Int) then ((reckonerref01_Row.f k (bt.1.take ((wrap64 (2 * (x.length : Int))) : Int).toNat)).bind fun t188 => (some (t188, 1))) else none) else none) else (if 0 ≤ (wrap64 (2 * (x.length : Int))) then (if (wrap64 (2 * (x.length : Int))) ≤ (bt.1.length : Int) then ((reckonerref01_Row.f k (bt.1.take ((wrap64 (2 * (x.length : Int))) : Int).toNat)).bind fun t195 => (some (t195, 0))) else none) else none)) else none) (fun k => rfl) ?_
  refine Ev.bind d1 (Ev.ite_pos (fun _ => q1) (Ev.bind d2 (Ev.bind hp1 (Ev.bind hm1 ?_))))
  simp only [e3, Int.toNat_natCast, if_pos q2, if_pos q3]
  by_cases hb : b = 1
  · have hbb : (b == 1) = true := beq_iff_eq.2 hb
    simp only [hbb, if_true]
    rw [← hbu, hb]
    exact Ev.bind hR (Ev.now _)
  · have hbb : (b == 1) = false := beq_eq_false_iff_ne.2 hb
    simp only [hbb, Bool.false_eq_true, if_false]
    rw [← hbu, show b = 0 by omega]
    exact Ev.bind hR (Ev.now _)
end Go.Proofs.YtldefhhfcbmbpaaDoor.Ex
