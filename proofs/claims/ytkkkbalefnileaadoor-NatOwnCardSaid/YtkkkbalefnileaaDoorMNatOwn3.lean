/- NatOwn (a card): for every two rows of words, the results of Add, Mul, Left, Sum, Trim, DivMod and Or are new memory, and none of them changes its arguments (their first 20 words). (Part 4 of 4.) -/
import Derived.RegionTactic
import Derived.ChangeAlike
import Derived.BigRegion
import Derived.Test.YtkkkbalefnileaaDoorRows
import Derived.LaidMore
import Derived.OpenShut
import Derived.StringKeys
import Derived.SizedLaws
import Derived.ChangeSlices
import Derived.Test.YtkkkbalefnileaaDoorTie
import Derived.Test.YtkkkbalefnileaaDoorCards
import Derived.Deep.DeepHandedRow
import Derived.Deep.DeepWitnessRowRef
import Derived.SevenTiedAt
import Derived.LaidLaws
import Derived.WalkKit
import Derived.ProofKit
import Derived.ShutString
import Derived.ChangeOld
import Derived.Below
import Derived.Test.YtkkkbalefnileaaDoorMNatOwn2
-- PRINTED by print.py (a twelfth state) out of the translation. Not trusted: Lean checks it.
namespace Go.Proofs.YtkkkbalefnileaaDoor.T
open Go.RowKit Go.Proofs.YtkkkbalefnileaaDoorW.PrintWords Go.Proofs.YtkkkbalefnileaaDoorW.PrintLast Go.Proofs.YtkkkbalefnileaaDoorW.PrintMore
attribute [local go_sem] max2_int min2_int max_two min_two max_three min_three max_four min_four   -- for this text's walks alone
open YtkkkbalefnileaaDoor.Ex
set_option linter.unusedVariables false
set_option linter.unusedSimpArgs false

/-! ### reckonerref02_Joined: function 17 -/
-- OURS: function 33 (nat_DivMod)

-- OURS: function 34 (nat_Pow)

-- OURS: function 37 (nat_Sub)

-- OURS: function 38 (nat_Square)

/-! ### reckonerref02_Mul: function 80 -/
def reckonerref02_Mul.f (k : Nat) (l0 : List Int) (l1 : List Int) : Option (List Int) := (reckonerref01_Digits.f k l0).bind fun t295 => ((reckonerref01_Digits.f k l1).bind fun t298 => ((reckonerref01_Times.f k t295 t298).bind fun t301 => ((reckonerref02_nat.f k t301).bind fun t304 => (some t304))))
set_option maxHeartbeats 8000000 in
set_option maxRecDepth 100000 in
theorem reckonerref02_Mul.calls (k : Nat) (A0 : Option Addr) (c0 : Nat) (l0 : List Int) (A1 : Option Addr) (c1 : Nat) (l1 : List Int) (r : List Int) (w : World) (hr0 : Kd.C (Kd.int .u64) w A0 l0.length l0) (hc0 : l0.length ≤ c0) (hr1 : Kd.C (Kd.int .u64) w A1 l1.length l1) (hc1 : l1.length ≤ c1) (h : reckonerref02_Mul.f k l0 l1 = some r) :
  Calls Tryd.prog 80 #[.slice A0 l0.length c0, .slice A1 l1.length c1] w fun e w' => ∃ v0_ : Value, e = .returned (v0_) ∧ Kd.R (Kd.int .u64) 36 w' w.heap.size (fun _ => True) v0_ r ∧ Below w.heap.size w w' := by
 have HR0 := Aside0.mk hr0
 have HC0 := Aside0.mk hc0
 clear hr0 hc0
 have HR1 := Aside0.mk hr1
 have HC1 := Aside0.mk hc1
 clear hr1 hc1
 have HB := Aside0.mk (Below.refl w.heap.size w)
 have H : ((reckonerref01_Digits.f k l0).bind fun t295 => ((reckonerref01_Digits.f k l1).bind fun t298 => ((reckonerref01_Times.f k t295 t298).bind fun t301 => ((reckonerref02_nat.f k t301).bind fun t304 => (some t304))))) = some r := h
 clear h
 replace H := Option.bind_eq_some_iff.mp H
 obtain ⟨t295, A30, H⟩ := H
 replace H : ((reckonerref01_Digits.f k l1).bind fun t298 => ((reckonerref01_Times.f k t295 t298).bind fun t301 => ((reckonerref02_nat.f k t301).bind fun t304 => (some t304)))) = some r := H
 have A3 := Aside0.mk A30
 clear A30
 replace H := Option.bind_eq_some_iff.mp H
 obtain ⟨t298, A40, H⟩ := H
 replace H : ((reckonerref01_Times.f k t295 t298).bind fun t301 => ((reckonerref02_nat.f k t301).bind fun t304 => (some t304))) = some r := H
 have A4 := Aside0.mk A40
 clear A40
 replace H := Option.bind_eq_some_iff.mp H
 obtain ⟨t301, A50, H⟩ := H
 replace H : ((reckonerref02_nat.f k t301).bind fun t304 => (some t304)) = some r := H
 have A5 := Aside0.mk A50
 clear A50
 replace H := Option.bind_eq_some_iff.mp H
 obtain ⟨t304, A60, H⟩ := H
 replace H : (some t304) = some r := H
 have A6 := Aside0.mk A60
 clear A60
 obtain rfl := Option.some.inj H
 go_enter Tryd.func80, Tryd.ntmps80
 go_wp2_with (first | ((with_reducible refine gate_callee (f := 53) rfl ?_); refine goesL_ (some 6) rfl rfl Tryd.func53 (by kernel_rfl) rfl #[.slice A0 l0.length c0] rfl (by (try simp only [List.map_toArray, List.map_cons, List.map_nil]); first | done | rfl | (simp only [List.length_drop, List.length_take]; rfl)) ?_; (with_reducible refine (reckonerref01_Digits.calls k _ _ l0 t295 _ ?side1 ?side2 A3.out).mono ?_); (case side1 => repeat (first | exact HR0.out | (with_reducible refine Kd.C_alloc ?_ _) | (with_reducible refine Kd.C_drewN ?_ _) | (with_reducible refine Kd.C_drew ?_))); (case side2 => exact HC0.out); rintro e w7 ⟨v296, rfl, ho0, hb⟩; refine ⟨_, rfl, ?_⟩; have n0_ := Aside0.mk (Kd.R_lower ho0 (below_size (by repeat (first | (with_reducible first | exact HB.out | apply below_alloc | apply pw_below_drewN | apply below_drew1) | exact HB.out)))); have n1_ := Aside0.mk (below_step (by repeat (first | (with_reducible first | exact HB.out | apply below_alloc | apply pw_below_drewN | apply below_drew1) | exact HB.out)) hb); clear HB; have HO297 := n0_; have HB := n1_; clear n0_ n1_; (try clear hb); (try clear hb2); (try clear hk); (try clear hi); (try clear ho0)) | ((with_reducible refine gate_callee (f := 53) rfl ?_); refine goesL_ (some 8) rfl rfl Tryd.func53 (by kernel_rfl) rfl #[.slice A1 l1.length c1] rfl (by (try simp only [List.map_toArray, List.map_cons, List.map_nil]); first | done | rfl | (simp only [List.length_drop, List.length_take]; rfl)) ?_; (with_reducible refine (reckonerref01_Digits.calls k _ _ l1 t298 _ ?side1 ?side2 A4.out).mono ?_); (case side1 => repeat (first | exact (Kd.C_below HR1.out HB.out) | (with_reducible refine Kd.C_alloc ?_ _) | (with_reducible refine Kd.C_drewN ?_ _) | (with_reducible refine Kd.C_drew ?_))); (case side2 => exact HC1.out); rintro e w8 ⟨v299, rfl, ho0, hb⟩; refine ⟨_, rfl, ?_⟩; have n0_ := Aside0.mk (Kd.R_elder' (by (with_reducible repeat (first | apply Kd.R_alloc | apply Kd.R_drewN | apply Kd.R_drew)); exact HO297.out) (Kd.R_base ho0) hb); have n1_ := Aside0.mk (Kd.R_lower (Kd.R_new' ho0 (Kd.R_lt (by (with_reducible repeat (first | apply Kd.R_alloc | apply Kd.R_drewN | apply Kd.R_drew)); exact HO297.out))) (below_size (by repeat (first | (with_reducible first | exact HB.out | apply below_alloc | apply pw_below_drewN | apply below_drew1) | exact HB.out)))); have n2_ := Aside0.mk (below_step (by repeat (first | (with_reducible first | exact HB.out | apply below_alloc | apply pw_below_drewN | apply below_drew1) | exact HB.out)) hb); clear HO297; clear HB; have HO297 := n0_; have HO300 := n1_; have HB := n2_; clear n0_ n1_ n2_; (try clear hb); (try clear hb2); (try clear hk); (try clear hi); (try clear ho0); obtain ⟨Ao9, co9, eo9⟩ := Kd.R_slice HO297.out; subst eo9; obtain ⟨Ao10, co10, eo10⟩ := Kd.R_slice HO300.out; subst eo10) | ((with_reducible refine gate_callee (f := 98) rfl ?_); refine goesL_ (some 9) rfl rfl Tryd.func98 (by kernel_rfl) rfl #[.slice Ao9 t295.length co9, .slice Ao10 t298.length co10] rfl (by (try simp only [List.map_toArray, List.map_cons, List.map_nil]); first | done | rfl | (simp only [List.length_drop, List.length_take]; rfl)) ?_; (with_reducible refine (reckonerref01_Times.calls k _ _ t295 _ _ t298 t301 _ ?side1 ?side2 ?side3 ?side4 A5.out).mono ?_); (case side1 => repeat (first | exact (Kd.R_reads' HO297.out).2.2 | (with_reducible refine Kd.C_alloc ?_ _) | (with_reducible refine Kd.C_drewN ?_ _) | (with_reducible refine Kd.C_drew ?_))); (case side2 => exact (Kd.R_reads' HO297.out).2.1); (case side3 => repeat (first | exact (Kd.R_reads' HO300.out).2.2 | (with_reducible refine Kd.C_alloc ?_ _) | (with_reducible refine Kd.C_drewN ?_ _) | (with_reducible refine Kd.C_drew ?_))); (case side4 => exact (Kd.R_reads' HO300.out).2.1); rintro e w11 ⟨v302, rfl, ho0, hb⟩; refine ⟨_, rfl, ?_⟩; have n0_ := Aside0.mk (Kd.R_elder' (by (with_reducible repeat (first | apply Kd.R_alloc | apply Kd.R_drewN | apply Kd.R_drew)); exact HO297.out) (Kd.R_base ho0) hb); have n1_ := Aside0.mk (Kd.R_elder' (by (with_reducible repeat (first | apply Kd.R_alloc | apply Kd.R_drewN | apply Kd.R_drew)); exact HO300.out) (Kd.R_base ho0) hb); have n2_ := Aside0.mk (Kd.R_lower (Kd.R_new' (Kd.R_new' ho0 (Kd.R_lt (by (with_reducible repeat (first | apply Kd.R_alloc | apply Kd.R_drewN | apply Kd.R_drew)); exact HO297.out))) (Kd.R_lt (by (with_reducible repeat (first | apply Kd.R_alloc | apply Kd.R_drewN | apply Kd.R_drew)); exact HO300.out))) (below_size (by repeat (first | (with_reducible first | exact HB.out | apply below_alloc | apply pw_below_drewN | apply below_drew1) | exact HB.out)))); have n3_ := Aside0.mk (below_step (by repeat (first | (with_reducible first | exact HB.out | apply below_alloc | apply pw_below_drewN | apply below_drew1) | exact HB.out)) hb); clear HO297; clear HO300; clear HB; have HO297 := n0_; have HO300 := n1_; have HO303 := n2_; have HB := n3_; clear n0_ n1_ n2_ n3_; (try clear hb); (try clear hb2); (try clear hk); (try clear hi); (try clear ho0); obtain ⟨Ao12, co12, eo12⟩ := Kd.R_slice HO303.out; subst eo12) | ((with_reducible refine gate_callee (f := 52) rfl ?_); refine goesL_ (some 10) rfl rfl Tryd.func52 (by kernel_rfl) rfl #[.slice Ao12 t301.length co12] rfl (by (try simp only [List.map_toArray, List.map_cons, List.map_nil]); first | done | rfl | (simp only [List.length_drop, List.length_take]; rfl)) ?_; (with_reducible refine (reckonerref02_nat.calls k _ _ t301 t304 _ ?side1 ?side2 A6.out).mono ?_); (case side1 => repeat (first | exact (Kd.R_reads' HO303.out).2.2 | (with_reducible refine Kd.C_alloc ?_ _) | (with_reducible refine Kd.C_drewN ?_ _) | (with_reducible refine Kd.C_drew ?_))); (case side2 => exact (Kd.R_reads' HO303.out).2.1); rintro e w13 ⟨v305, rfl, ho0, hb⟩; refine ⟨_, rfl, ?_⟩; have n0_ := Aside0.mk (Kd.R_elder' (by (with_reducible repeat (first | apply Kd.R_alloc | apply Kd.R_drewN | apply Kd.R_drew)); exact HO297.out) (Kd.R_base ho0) hb); have n1_ := Aside0.mk (Kd.R_elder' (by (with_reducible repeat (first | apply Kd.R_alloc | apply Kd.R_drewN | apply Kd.R_drew)); exact HO300.out) (Kd.R_base ho0) hb); have n2_ := Aside0.mk (Kd.R_elder' (by (with_reducible repeat (first | apply Kd.R_alloc | apply Kd.R_drewN | apply Kd.R_drew)); exact HO303.out) (Kd.R_base ho0) hb); have n3_ := Aside0.mk (Kd.R_lower (Kd.R_new' (Kd.R_new' (Kd.R_new' ho0 (Kd.R_lt (by (with_reducible repeat (first | apply Kd.R_alloc | apply Kd.R_drewN | apply Kd.R_drew)); exact HO297.out))) (Kd.R_lt (by (with_reducible repeat (first | apply Kd.R_alloc | apply Kd.R_drewN | apply Kd.R_drew)); exact HO300.out))) (Kd.R_lt (by (with_reducible repeat (first | apply Kd.R_alloc | apply Kd.R_drewN | apply Kd.R_drew)); exact HO303.out))) (below_size (by repeat (first | (with_reducible first | exact HB.out | apply below_alloc | apply pw_below_drewN | apply below_drew1) | exact HB.out)))); have n4_ := Aside0.mk (below_step (by repeat (first | (with_reducible first | exact HB.out | apply below_alloc | apply pw_below_drewN | apply below_drew1) | exact HB.out)) hb); clear HO297; clear HO300; clear HO303; clear HB; have HO297 := n0_; have HO300 := n1_; have HO303 := n2_; have HO306 := n3_; have HB := n4_; clear n0_ n1_ n2_ n3_ n4_; (try clear hb); (try clear hb2); (try clear hk); (try clear hi); (try clear ho0)))
 go_ret
 exact ⟨_, by first | rfl | (simp [errW_none, errW_some] <;> rfl) | (simp [*, errW_none, errW_some] <;> rfl), by (with_reducible repeat (first | apply Kd.R_alloc | apply Kd.R_drewN | apply Kd.R_drew)); exact Kd.R_mono HO306.out (fun _ hk => trivial), by repeat (first | (with_reducible first | exact HB.out | apply below_alloc | apply pw_below_drewN | apply below_drew1) | exact HB.out)⟩
/-! ### reckonerref02_Parse: function 51 -/
def reckonerref02_Parse.l0 : Nat → ByteArray → List Int → Int → Option (List Int)
  | 0, _, _, _ => none
  | k + 1, x0, x3, x4 => if x4 < (x0.size : Int) then ((reckonerref02_FromWord.f k 10).bind fun t307 => ((reckonerref02_Mul.f k x3 t307).bind fun t310 => (if 0 ≤ x4 then ((reckonerref02_FromWord.f k (((bt x0 x4) - 48) % 256)).bind fun t313 => ((reckonerref02_Add.f k t310 t313).bind fun t316 => (reckonerref02_Parse.l0 k x0 t316 (wrap64 (x4 + 1))))) else (none)))) else (some x3)
def reckonerref02_Parse.f (k : Nat) (a0 : ByteArray) : Option (List Int) := reckonerref02_Parse.l0 k a0 ([] : List Int) 0
def reckonerref02_Parse.T5 : Bool × List (List Nat × List Nat) := (true, [([], []), ([], []), ([0, 1, 1], [0, 1]), ([], []), ([], []), ([3, 4], [3, 4]), ([5], [5]), ([6], [6]), ([7, 2], [7]), ([2, 8, 8], [2, 8]), ([9, 9, 0, 1, 2, 3, 4, 5, 6, 7, 8, 9], [0, 9])])
def reckonerref02_Parse.B5 : List Nat := [0, 0, 3, 0, 0, 24, 56, 120, 255, 511, 1023]
theorem reckonerref02_Parse.tab5 : rtab .any (opsOf Tryd.f51 5) = reckonerref02_Parse.T5 := by kernel_rfl
theorem reckonerref02_Parse.bits5 : waitsOk reckonerref02_Parse.T5.2 reckonerref02_Parse.B5 = true := by kernel_rfl
set_option maxHeartbeats 8000000 in
set_option maxRecDepth 100000 in
theorem reckonerref02_Parse.calls (k : Nat) (a0 : ByteArray) (r : List Int) (w : World) (h : reckonerref02_Parse.f k a0 = some r) :
  Calls Tryd.prog 51 #[.string a0] w fun e w' => ∃ v0_ : Value, e = .returned (v0_) ∧ Kd.R (Kd.int .u64) 36 w' w.heap.size (fun _ => True) v0_ r ∧ Below w.heap.size w w' := by
 have HB := Aside0.mk (Below.refl w.heap.size w)
 have H : (reckonerref02_Parse.l0 k a0 ([] : List Int) 0) = some r := h
 clear h
 have H' := Aside0.mk H
 clear H
 go_enter Tryd.func51, Tryd.ntmps51
 go_wp2
 go_loopg [3, 4] k (fun kq v3 v4 w' => ∃ (x3_1 : List Int) (x4_1 : Int), v4 = .int .i64 x4_1 ∧ Aside0 (reckonerref02_Parse.l0 kq a0 x3_1 x4_1 = some r) ∧ Aside0 (kq ≤ k) ∧ Aside0 (Kd.R (Kd.int .u64) 36 w' w.heap.size (fun _ => True) v3 x3_1) ∧ Aside0 (Below w.heap.size w w'))
 case atStart => exact ⟨(([] : List Int)), (0), (by first | rfl | (simp; done) | (simp [*]; done)), H', ⟨Nat.le_refl _⟩, ⟨by first | exact Kd.R_nil _ _ _ _ _ | exact Kd.N_nil _ _ _ _ _ | exact Kd.V_nil _ _ _ _ _ | exact Kd.Q_nil _ _ _ _ _ | exact Kd.S_nil _ _ _ _ _⟩, ⟨by repeat (first | (with_reducible first | exact HB.out | apply below_alloc | apply pw_below_drewN | apply below_drew1) | exact HB.out)⟩⟩
 case round =>
  clear H'
  obtain ⟨x3_1, x4_1, rfl, HA, HK1, HO_3, HB⟩ := hrel
  cases gk with
  | zero => exact absurd HA.out (by simp [reckonerref02_Parse.l0])
  | succ k1 =>
   have H := HA.out
   clear HA
   simp only [reckonerref02_Parse.l0] at H
   by_cases c2 : x4_1 < (a0.size : Int)
   ·rw [if_pos c2] at H
    have c2b0 : decide (x4_1 < (a0.size : Int)) = true := decide_eq_true c2
    clear c2
    replace H := Option.bind_eq_some_iff.mp H
    obtain ⟨t307, A30, H⟩ := H
    replace H : ((reckonerref02_Mul.f k1 x3_1 t307).bind fun t310 => (if 0 ≤ x4_1 then ((reckonerref02_FromWord.f k1 (((bt a0 x4_1) - 48) % 256)).bind fun t313 => ((reckonerref02_Add.f k1 t310 t313).bind fun t316 => (reckonerref02_Parse.l0 k1 a0 t316 (wrap64 (x4_1 + 1))))) else (none))) = some r := H
    have A3 := Aside0.mk A30
    clear A30
    replace H := Option.bind_eq_some_iff.mp H
    obtain ⟨t310, A40, H⟩ := H
    replace H : (if 0 ≤ x4_1 then ((reckonerref02_FromWord.f k1 (((bt a0 x4_1) - 48) % 256)).bind fun t313 => ((reckonerref02_Add.f k1 t310 t313).bind fun t316 => (reckonerref02_Parse.l0 k1 a0 t316 (wrap64 (x4_1 + 1))))) else (none)) = some r := H
    have A4 := Aside0.mk A40
    clear A40
    by_cases c5 : 0 ≤ x4_1
    ·rw [if_pos c5] at H
     have c5b0 : decide (0 ≤ x4_1) = true := decide_eq_true c5
     clear c5
     replace H := Option.bind_eq_some_iff.mp H
     obtain ⟨t313, A70, H⟩ := H
     replace H : ((reckonerref02_Add.f k1 t310 t313).bind fun t316 => (reckonerref02_Parse.l0 k1 a0 t316 (wrap64 (x4_1 + 1)))) = some r := H
     have A7 := Aside0.mk A70
     clear A70
     replace H := Option.bind_eq_some_iff.mp H
     obtain ⟨t316, A80, H⟩ := H
     replace H : (reckonerref02_Parse.l0 k1 a0 t316 (wrap64 (x4_1 + 1))) = some r := H
     have A8 := Aside0.mk A80
     clear A80
     have H' := Aside0.mk H
     clear H
     try go_wp2
     have n0_ := Aside0.mk (Kd.R_drew HO_3.out)
     have n1_ := Aside0.mk (below_drew1 HB.out)
     clear HO_3
     clear HB
     have HO_3 := n0_
     have HB := n1_
     clear n0_ n1_
     have p6 : 0 ≤ (x4_1 : Int) := of_decide_eq_true (by first | (with_reducible assumption) | assumption)
     have q6 : x4_1 < (a0.size : Int) := of_decide_eq_true (by first | (with_reducible assumption) | assumption)
     have hx6 := bt_at a0 x4_1
     replace p6 := eq_true p6
     replace q6 := eq_true q6
     refine start_ (n := 11) (S := fun w' => True) (ds := []) #[false, false, false, false, false, false, false, false, false, false, false] (by kernel_rfl) rfl rfl trivial (fun hHeld => ?_); refine with_tabW reckonerref02_Parse.tab5 reckonerref02_Parse.bits5 (fun HT_ HW_ => ?_)
     generalize wr.drew = w9 at HO_3 HB hHeld ⊢
     refine pure_ (i := 0) (N := some 11) (v := ?_) (a' := ?_) #[true, false, false, false, false, false, false, false, false, false, false] rfl rfl (any_of HT_.out (by kernel_rfl)) (fun _ _ _ h => h) (Or.inl ⟨by rfl, ?_⟩) ?_ ?_
     rotate_left
     ·intro w'
      go_simp
      with_reducible rfl
     rotate_left
     ·simp only [Act.put, List.setIfInBounds_toArray, List.set_cons_zero, List.set_cons_succ, i64_w, i32_w]
      rfl
     refine pure_ (i := 3) (N := some 14) (v := ?_) (a' := ?_) #[true, false, false, true, false, false, false, false, false, false, false] rfl rfl (any_of HT_.out (by kernel_rfl)) (fun _ _ _ h => h) (Or.inl ⟨by rfl, ?_⟩) ?_ ?_
     rotate_left
     ·intro w'
      go_simp
      with_reducible rfl
     rotate_left
     ·simp only [Act.put, List.setIfInBounds_toArray, List.set_cons_zero, List.set_cons_succ, i64_w, i32_w]
      rfl
     refine pure_ (i := 4) (N := some 15) (v := ?_) (a' := ?_) #[true, false, false, true, true, false, false, false, false, false, false] rfl rfl (any_of HT_.out (by kernel_rfl)) (fun _ _ _ h => h) (Or.inl ⟨by rfl, ?_⟩) ?_ ?_
     rotate_left
     ·intro w'
      go_simp
      with_reducible rfl
     rotate_left
     ·simp only [Act.put, List.setIfInBounds_toArray, List.set_cons_zero, List.set_cons_succ, i64_w, i32_w]
      rfl
     refine take_ (i := 5) (N := some 16) (v := ?_) (a' := ?_) #[true, false, false, true, true, true, false, false, false, false, false] rfl rfl (take_ofW HT_.out HW_.out (by kernel_rfl)) (fun _ _ _ h => h) (Or.inl ⟨by rfl, ?_⟩) hHeld ?_ ?_
     rotate_left
     ·intro w' _
      go_simp
      with_reducible rfl
     rotate_left
     ·simp only [Act.put, List.setIfInBounds_toArray, List.set_cons_zero, List.set_cons_succ, i64_w, i32_w]
      rfl
     refine pure_ (i := 6) (N := some 17) (v := ?_) (a' := ?_) #[true, false, false, true, true, true, true, false, false, false, false] rfl rfl (any_of HT_.out (by kernel_rfl)) (fun _ _ _ h => h) (Or.inl ⟨by rfl, ?_⟩) ?_ ?_
     rotate_left
     ·intro w'
      go_simp
      with_reducible rfl
     rotate_left
     ·simp only [Act.put, List.setIfInBounds_toArray, List.set_cons_zero, List.set_cons_succ, i64_w, i32_w]
      rfl
     refine pure_ (i := 7) (N := some 18) (v := ?_) (a' := ?_) #[true, false, false, true, true, true, true, true, false, false, false] rfl rfl (any_of HT_.out (by kernel_rfl)) (fun _ _ _ h => h) (Or.inl ⟨by rfl, ?_⟩) ?_ ?_
     rotate_left
     ·intro w'
      go_simp
      with_reducible rfl
     rotate_left
     ·simp only [Act.put, List.setIfInBounds_toArray, List.set_cons_zero, List.set_cons_succ, i64_w, i32_w]
      rfl
     refine one_ (i := 1) (N := some 12) #[true, true, false, true, true, true, true, true, false, false, false] rfl rfl (one_of HT_.out (by kernel_rfl)) (by decide) (fun K hK => ?_)
     refine goes_ Tryd.func46 (by kernel_rfl) rfl #[.int .u64 10] (by rfl) rfl rfl (by (try simp only [List.map_toArray, List.map_cons, List.map_nil]); first | done | rfl | exact congrArg (fun z => #[Value.int .u64 z]) (u8_u64 _) | (simp only [List.length_drop, List.length_take]; rfl)) ?_
     with_reducible refine (reckonerref02_FromWord.calls k1 10 t307 _ A3.out).mono ?_
     rintro e w10 ⟨v308, rfl, ho0, hb⟩
     refine ⟨_, rfl, ?_⟩
     have n0_ := Aside0.mk (Kd.R_elder' (by (with_reducible repeat (first | apply Kd.R_alloc | apply Kd.R_drewN | apply Kd.R_drew)); exact HO_3.out) (Kd.R_base ho0) hb)
     have n1_ := Aside0.mk (Kd.R_lower (Kd.R_new' ho0 (Kd.R_lt (by (with_reducible repeat (first | apply Kd.R_alloc | apply Kd.R_drewN | apply Kd.R_drew)); exact HO_3.out))) (below_size (by repeat (first | (with_reducible first | exact HB.out | apply below_alloc | apply pw_below_drewN | apply below_drew1) | exact HB.out))))
     have n2_ := Aside0.mk (below_step (by repeat (first | (with_reducible first | exact HB.out | apply below_alloc | apply pw_below_drewN | apply below_drew1) | exact HB.out)) hb)
     clear HO_3
     clear HB
     have HO_3 := n0_
     have HO309 := n1_
     have HB := n2_
     clear n0_ n1_ n2_
     (try clear hb)
     (try clear hb2)
     (try clear hk)
     (try clear hi)
     (try clear ho0)
     obtain ⟨Ao11, co11, eo11⟩ := Kd.R_slice HO_3.out
     (first | subst eo11 | (injection eo11 with f1_ f2_ f3_; have f4_ := f1_.symm; have f5_ := f3_.symm; clear f1_ f2_ f3_; subst f4_; subst f5_))
     obtain ⟨Ao12, co12, eo12⟩ := Kd.R_slice HO309.out
     (first | subst eo12 | (injection eo12 with f1_ f2_ f3_; have f4_ := f1_.symm; have f5_ := f3_.symm; clear f1_ f2_ f3_; subst f4_; subst f5_))
     refine hK.out _ _ trivial (fun hHeld => ?_)
     clear hK K
     refine norm_ (a' := ?_) ?_ ?_
     rotate_left
     ·show Act.put _ (some 12) _ = _
      simp only [Act.put, List.setIfInBounds_toArray, List.set_cons_zero, List.set_cons_succ, i64_w, i32_w]
      rfl
     refine one_ (i := 2) (N := some 13) #[true, true, true, true, true, true, true, true, false, false, false] rfl rfl (one_of HT_.out (by kernel_rfl)) (by decide) (fun K hK => ?_)
     refine goes_ Tryd.func80 (by kernel_rfl) rfl #[.slice Ao11 x3_1.length co11, .slice Ao12 t307.length co12] (by rfl) rfl rfl (by (try simp only [List.map_toArray, List.map_cons, List.map_nil]); first | done | rfl | exact congrArg (fun z => #[Value.int .u64 z]) (u8_u64 _) | (simp only [List.length_drop, List.length_take]; rfl)) ?_
     with_reducible refine (reckonerref02_Mul.calls k1 _ _ x3_1 _ _ t307 t310 _ ?side1 ?side2 ?side3 ?side4 A4.out).mono ?_
     (case side1 => repeat (first | exact (Kd.R_reads' HO_3.out).2.2 | (with_reducible refine Kd.C_alloc ?_ _) | (with_reducible refine Kd.C_drewN ?_ _) | (with_reducible refine Kd.C_drew ?_)))
     (case side2 => exact (Kd.R_reads' HO_3.out).2.1)
     (case side3 => repeat (first | exact (Kd.R_reads' HO309.out).2.2 | (with_reducible refine Kd.C_alloc ?_ _) | (with_reducible refine Kd.C_drewN ?_ _) | (with_reducible refine Kd.C_drew ?_)))
     (case side4 => exact (Kd.R_reads' HO309.out).2.1)
     rintro e w13 ⟨v311, rfl, ho0, hb⟩
     refine ⟨_, rfl, ?_⟩
     have n0_ := Aside0.mk (Kd.R_elder' (by (with_reducible repeat (first | apply Kd.R_alloc | apply Kd.R_drewN | apply Kd.R_drew)); exact HO_3.out) (Kd.R_base ho0) hb)
     have n1_ := Aside0.mk (Kd.R_elder' (by (with_reducible repeat (first | apply Kd.R_alloc | apply Kd.R_drewN | apply Kd.R_drew)); exact HO309.out) (Kd.R_base ho0) hb)
     have n2_ := Aside0.mk (Kd.R_lower (Kd.R_new' (Kd.R_new' ho0 (Kd.R_lt (by (with_reducible repeat (first | apply Kd.R_alloc | apply Kd.R_drewN | apply Kd.R_drew)); exact HO_3.out))) (Kd.R_lt (by (with_reducible repeat (first | apply Kd.R_alloc | apply Kd.R_drewN | apply Kd.R_drew)); exact HO309.out))) (below_size (by repeat (first | (with_reducible first | exact HB.out | apply below_alloc | apply pw_below_drewN | apply below_drew1) | exact HB.out))))
     have n3_ := Aside0.mk (below_step (by repeat (first | (with_reducible first | exact HB.out | apply below_alloc | apply pw_below_drewN | apply below_drew1) | exact HB.out)) hb)
     clear HO_3
     clear HO309
     clear HB
     have HO_3 := n0_
     have HO309 := n1_
     have HO312 := n2_
     have HB := n3_
     clear n0_ n1_ n2_ n3_
     (try clear hb)
     (try clear hb2)
     (try clear hk)
     (try clear hi)
     (try clear ho0)
     refine hK.out _ _ trivial (fun hHeld => ?_)
     clear hK K
     refine norm_ (a' := ?_) ?_ ?_
     rotate_left
     ·show Act.put _ (some 13) _ = _
      simp only [Act.put, List.setIfInBounds_toArray, List.set_cons_zero, List.set_cons_succ, i64_w, i32_w]
      rfl
     refine one_ (i := 8) (N := some 19) #[true, true, true, true, true, true, true, true, true, false, false] rfl rfl (one_of HT_.out (by kernel_rfl)) (by decide) (fun K hK => ?_)
     refine goes_ Tryd.func46 (by kernel_rfl) rfl #[.int .u64 (((bt a0 x4_1) - 48) % 256)] (by rfl) rfl rfl (by (try simp only [List.map_toArray, List.map_cons, List.map_nil]); first | done | rfl | exact congrArg (fun z => #[Value.int .u64 z]) (u8_u64 _) | (simp only [List.length_drop, List.length_take]; rfl)) ?_
     with_reducible refine (reckonerref02_FromWord.calls k1 (((bt a0 x4_1) - 48) % 256) t313 _ A7.out).mono ?_
     rintro e w14 ⟨v314, rfl, ho0, hb⟩
     refine ⟨_, rfl, ?_⟩
     have n0_ := Aside0.mk (Kd.R_elder' (by (with_reducible repeat (first | apply Kd.R_alloc | apply Kd.R_drewN | apply Kd.R_drew)); exact HO_3.out) (Kd.R_base ho0) hb)
     have n1_ := Aside0.mk (Kd.R_elder' (by (with_reducible repeat (first | apply Kd.R_alloc | apply Kd.R_drewN | apply Kd.R_drew)); exact HO309.out) (Kd.R_base ho0) hb)
     have n2_ := Aside0.mk (Kd.R_elder' (by (with_reducible repeat (first | apply Kd.R_alloc | apply Kd.R_drewN | apply Kd.R_drew)); exact HO312.out) (Kd.R_base ho0) hb)
     have n3_ := Aside0.mk (Kd.R_lower (Kd.R_new' (Kd.R_new' (Kd.R_new' ho0 (Kd.R_lt (by (with_reducible repeat (first | apply Kd.R_alloc | apply Kd.R_drewN | apply Kd.R_drew)); exact HO_3.out))) (Kd.R_lt (by (with_reducible repeat (first | apply Kd.R_alloc | apply Kd.R_drewN | apply Kd.R_drew)); exact HO309.out))) (Kd.R_lt (by (with_reducible repeat (first | apply Kd.R_alloc | apply Kd.R_drewN | apply Kd.R_drew)); exact HO312.out))) (below_size (by repeat (first | (with_reducible first | exact HB.out | apply below_alloc | apply pw_below_drewN | apply below_drew1) | exact HB.out))))
     have n4_ := Aside0.mk (below_step (by repeat (first | (with_reducible first | exact HB.out | apply below_alloc | apply pw_below_drewN | apply below_drew1) | exact HB.out)) hb)
     clear HO_3
     clear HO309
     clear HO312
     clear HB
     have HO_3 := n0_
     have HO309 := n1_
     have HO312 := n2_
     have HO315 := n3_
     have HB := n4_
     clear n0_ n1_ n2_ n3_ n4_
     (try clear hb)
     (try clear hb2)
     (try clear hk)
     (try clear hi)
     (try clear ho0)
     obtain ⟨Ao15, co15, eo15⟩ := Kd.R_slice HO312.out
     (first | subst eo15 | (injection eo15 with f1_ f2_ f3_; have f4_ := f1_.symm; have f5_ := f3_.symm; clear f1_ f2_ f3_; subst f4_; subst f5_))
     obtain ⟨Ao16, co16, eo16⟩ := Kd.R_slice HO315.out
     (first | subst eo16 | (injection eo16 with f1_ f2_ f3_; have f4_ := f1_.symm; have f5_ := f3_.symm; clear f1_ f2_ f3_; subst f4_; subst f5_))
     refine hK.out _ _ trivial (fun hHeld => ?_)
     clear hK K
     refine norm_ (a' := ?_) ?_ ?_
     rotate_left
     ·show Act.put _ (some 19) _ = _
      simp only [Act.put, List.setIfInBounds_toArray, List.set_cons_zero, List.set_cons_succ, i64_w, i32_w]
      rfl
     refine one_ (i := 9) (N := some 20) #[true, true, true, true, true, true, true, true, true, true, false] rfl rfl (one_of HT_.out (by kernel_rfl)) (by decide) (fun K hK => ?_)
     refine goes_ Tryd.func47 (by kernel_rfl) rfl #[.slice Ao15 t310.length co15, .slice Ao16 t313.length co16] (by rfl) rfl rfl (by (try simp only [List.map_toArray, List.map_cons, List.map_nil]); first | done | rfl | exact congrArg (fun z => #[Value.int .u64 z]) (u8_u64 _) | (simp only [List.length_drop, List.length_take]; rfl)) ?_
     with_reducible refine (reckonerref02_Add.calls k1 _ _ t310 _ _ t313 t316 _ ?side1 ?side2 ?side3 ?side4 A8.out).mono ?_
     (case side1 => repeat (first | exact (Kd.R_reads' HO312.out).2.2 | (with_reducible refine Kd.C_alloc ?_ _) | (with_reducible refine Kd.C_drewN ?_ _) | (with_reducible refine Kd.C_drew ?_)))
     (case side2 => exact (Kd.R_reads' HO312.out).2.1)
     (case side3 => repeat (first | exact (Kd.R_reads' HO315.out).2.2 | (with_reducible refine Kd.C_alloc ?_ _) | (with_reducible refine Kd.C_drewN ?_ _) | (with_reducible refine Kd.C_drew ?_)))
     (case side4 => exact (Kd.R_reads' HO315.out).2.1)
     rintro e w17 ⟨v317, rfl, ho0, hb⟩
     refine ⟨_, rfl, ?_⟩
     have n0_ := Aside0.mk (Kd.R_elder' (by (with_reducible repeat (first | apply Kd.R_alloc | apply Kd.R_drewN | apply Kd.R_drew)); exact HO_3.out) (Kd.R_base ho0) hb)
     have n1_ := Aside0.mk (Kd.R_elder' (by (with_reducible repeat (first | apply Kd.R_alloc | apply Kd.R_drewN | apply Kd.R_drew)); exact HO309.out) (Kd.R_base ho0) hb)
     have n2_ := Aside0.mk (Kd.R_elder' (by (with_reducible repeat (first | apply Kd.R_alloc | apply Kd.R_drewN | apply Kd.R_drew)); exact HO312.out) (Kd.R_base ho0) hb)
     have n3_ := Aside0.mk (Kd.R_elder' (by (with_reducible repeat (first | apply Kd.R_alloc | apply Kd.R_drewN | apply Kd.R_drew)); exact HO315.out) (Kd.R_base ho0) hb)
     have n4_ := Aside0.mk (Kd.R_lower (Kd.R_new' (Kd.R_new' (Kd.R_new' (Kd.R_new' ho0 (Kd.R_lt (by (with_reducible repeat (first | apply Kd.R_alloc | apply Kd.R_drewN | apply Kd.R_drew)); exact HO_3.out))) (Kd.R_lt (by (with_reducible repeat (first | apply Kd.R_alloc | apply Kd.R_drewN | apply Kd.R_drew)); exact HO309.out))) (Kd.R_lt (by (with_reducible repeat (first | apply Kd.R_alloc | apply Kd.R_drewN | apply Kd.R_drew)); exact HO312.out))) (Kd.R_lt (by (with_reducible repeat (first | apply Kd.R_alloc | apply Kd.R_drewN | apply Kd.R_drew)); exact HO315.out))) (below_size (by repeat (first | (with_reducible first | exact HB.out | apply below_alloc | apply pw_below_drewN | apply below_drew1) | exact HB.out))))
     have n5_ := Aside0.mk (below_step (by repeat (first | (with_reducible first | exact HB.out | apply below_alloc | apply pw_below_drewN | apply below_drew1) | exact HB.out)) hb)
     clear HO_3
     clear HO309
     clear HO312
     clear HO315
     clear HB
     have HO_3 := n0_
     have HO309 := n1_
     have HO312 := n2_
     have HO315 := n3_
     have HO318 := n4_
     have HB := n5_
     clear n0_ n1_ n2_ n3_ n4_ n5_
     (try clear hb)
     (try clear hb2)
     (try clear hk)
     (try clear hi)
     (try clear ho0)
     refine hK.out _ _ trivial (fun hHeld => ?_)
     clear hK K
     refine norm_ (a' := ?_) ?_ ?_
     rotate_left
     ·show Act.put _ (some 20) _ = _
      simp only [Act.put, List.setIfInBounds_toArray, List.set_cons_zero, List.set_cons_succ, i64_w, i32_w]
      rfl
     refine pure_ (i := 10) (N := some 3) (v := ?_) (a' := ?_) #[true, true, true, true, true, true, true, true, true, true, true] rfl rfl (any_of HT_.out (by kernel_rfl)) (fun _ _ _ h => h) (Or.inl ⟨by rfl, ?_⟩) ?_ ?_
     rotate_left
     ·intro w'
      go_simp
      with_reducible rfl
     rotate_left
     ·simp only [Act.put, List.setIfInBounds_toArray, List.set_cons_zero, List.set_cons_succ, i64_w, i32_w]
      rfl
     refine done_ (done_of HT_.out (by kernel_rfl)) ?_
     try go_wp2
     go_roundg k1
     case measure => have := HK1.out; omega
     case rel => exact ⟨(t316), (wrap64 (x4_1 + 1)), (by first | rfl | (simp; done) | (simp [*]; done)), H', ⟨by have := HK1.out; omega⟩, ⟨by (with_reducible repeat (first | apply Kd.R_alloc | apply Kd.R_drewN | apply Kd.R_drew)); exact Kd.R_mono HO318.out (fun _ hk => trivial)⟩, ⟨by repeat (first | (with_reducible first | exact HB.out | apply below_alloc | apply pw_below_drewN | apply below_drew1) | exact HB.out)⟩⟩
    ·rw [if_neg c5] at H
     exact absurd H (by simp)
   ·rw [if_neg c2] at H
    have c2b0 : decide (x4_1 < (a0.size : Int)) = false := decide_eq_false c2
    clear c2
    obtain rfl := Option.some.inj H
    go_wp2
    go_ret
    exact ⟨_, by first | rfl | (simp [errW_none, errW_some] <;> rfl) | (simp [*, errW_none, errW_some] <;> rfl), by (with_reducible repeat (first | apply Kd.R_alloc | apply Kd.R_drewN | apply Kd.R_drew)); exact HO_3.out, by repeat (first | (with_reducible first | exact HB.out | apply below_alloc | apply pw_below_drewN | apply below_drew1) | exact HB.out)⟩
/-! ### reckonerlaw02_awake: function 18 -/
def reckonerlaw02_awake.f (k : Nat)  : Option (Bool) := (nat_Pow.f (([10] : List Int)) 20).bind fun bt322 => ((nat_Square.f (([18446744073709551615] : List Int))).bind fun bt329 => ((nat_DivMod.f (([7766279631452241920, 5] : List Int)) (([3] : List Int))).bind fun bt339 => ((nat_Sub.f (([1] : List Int)) (([2] : List Int))).bind fun bt352 => (if bt322.2 = 0 then ((reckonerref02_Parse.f k (⟨#[49, 48, 48, 48, 48, 48, 48, 48, 48, 48, 48, 48, 48, 48, 48, 48, 48, 48, 48, 48, 48]⟩ : ByteArray)).bind fun t356 => ((reckonerref02_Is.f k bt322.1 t356).bind fun t359 => (if t359 = true then (if bt329.2 = 0 then ((reckonerref02_Is.f k bt329.1 (([1, 18446744073709551614] : List Int))).bind fun t363 => (if t363 = true then (if bt339.2.2 = 0 then ((reckonerref02_Parse.f k (⟨#[51, 51, 51, 51, 51, 51, 51, 51, 51, 51, 51, 51, 51, 51, 51, 51, 51, 51, 51, 51]⟩ : ByteArray)).bind fun t364 => ((reckonerref02_Is.f k bt339.1 t364).bind fun t367 => (if t367 = true then ((reckonerref02_Is.f k bt339.2.1 (([1] : List Int))).bind fun t371 => (if t371 = true then (some (bt352.2 == 8)) else (none))) else (none)))) else (none)) else (none))) else (none)) else (none)))) else (none)))))
set_option maxHeartbeats 8000000 in
set_option maxRecDepth 100000 in
theorem reckonerlaw02_awake.calls (k : Nat)  (r : Bool) (w : World) (h : reckonerlaw02_awake.f k  = some r) :
  Calls Tryd.prog 18 #[] w fun e w' => e = .returned (.bool r) ∧ Below w.heap.size w w' := by
 have HB := Aside0.mk (Below.refl w.heap.size w)
 have H : ((nat_Pow.f (([10] : List Int)) 20).bind fun bt322 => ((nat_Square.f (([18446744073709551615] : List Int))).bind fun bt329 => ((nat_DivMod.f (([7766279631452241920, 5] : List Int)) (([3] : List Int))).bind fun bt339 => ((nat_Sub.f (([1] : List Int)) (([2] : List Int))).bind fun bt352 => (if bt322.2 = 0 then ((reckonerref02_Parse.f k (⟨#[49, 48, 48, 48, 48, 48, 48, 48, 48, 48, 48, 48, 48, 48, 48, 48, 48, 48, 48, 48, 48]⟩ : ByteArray)).bind fun t356 => ((reckonerref02_Is.f k bt322.1 t356).bind fun t359 => (if t359 = true then (if bt329.2 = 0 then ((reckonerref02_Is.f k bt329.1 (([1, 18446744073709551614] : List Int))).bind fun t363 => (if t363 = true then (if bt339.2.2 = 0 then ((reckonerref02_Parse.f k (⟨#[51, 51, 51, 51, 51, 51, 51, 51, 51, 51, 51, 51, 51, 51, 51, 51, 51, 51, 51, 51]⟩ : ByteArray)).bind fun t364 => ((reckonerref02_Is.f k bt339.1 t364).bind fun t367 => (if t367 = true then ((reckonerref02_Is.f k bt339.2.1 (([1] : List Int))).bind fun t371 => (if t371 = true then (some (bt352.2 == 8)) else (none))) else (none)))) else (none)) else (none))) else (none)) else (none)))) else (none)))))) = some r := h
 clear h
 obtain ⟨y319, hy319⟩ : ∃ y_ : List Int, y_ = (([10] : List Int)) := ⟨_, rfl⟩
 replace H : ((nat_Pow.f y319 20).bind fun bt322 => ((nat_Square.f (([18446744073709551615] : List Int))).bind fun bt329 => ((nat_DivMod.f (([7766279631452241920, 5] : List Int)) (([3] : List Int))).bind fun bt339 => ((nat_Sub.f (([1] : List Int)) (([2] : List Int))).bind fun bt352 => (if bt322.2 = 0 then ((reckonerref02_Parse.f k (⟨#[49, 48, 48, 48, 48, 48, 48, 48, 48, 48, 48, 48, 48, 48, 48, 48, 48, 48, 48, 48, 48]⟩ : ByteArray)).bind fun t356 => ((reckonerref02_Is.f k bt322.1 t356).bind fun t359 => (if t359 = true then (if bt329.2 = 0 then ((reckonerref02_Is.f k bt329.1 (([1, 18446744073709551614] : List Int))).bind fun t363 => (if t363 = true then (if bt339.2.2 = 0 then ((reckonerref02_Parse.f k (⟨#[51, 51, 51, 51, 51, 51, 51, 51, 51, 51, 51, 51, 51, 51, 51, 51, 51, 51, 51, 51]⟩ : ByteArray)).bind fun t364 => ((reckonerref02_Is.f k bt339.1 t364).bind fun t367 => (if t367 = true then ((reckonerref02_Is.f k bt339.2.1 (([1] : List Int))).bind fun t371 => (if t371 = true then (some (bt352.2 == 8)) else (none))) else (none)))) else (none)) else (none))) else (none)) else (none)))) else (none)))))) = some r := by first | (rw [hy319]; with_reducible exact H) | (have H2_ := (Option.bind_some _ _).symm.trans H; rw [hy319]; with_reducible exact H2_) | (have H2_ := (Option.bind_some _ _).symm.trans H; with_reducible exact H2_) | with_reducible exact H | (rw [hy319]; exact H) | exact H
 have Ny319 := Aside0.mk hy319
 clear hy319
 replace H := Option.bind_eq_some_iff.mp H
 obtain ⟨⟨t322, t323⟩, A10, H⟩ := H
 replace H : ((nat_Square.f (([18446744073709551615] : List Int))).bind fun bt329 => ((nat_DivMod.f (([7766279631452241920, 5] : List Int)) (([3] : List Int))).bind fun bt339 => ((nat_Sub.f (([1] : List Int)) (([2] : List Int))).bind fun bt352 => (if t323 = 0 then ((reckonerref02_Parse.f k (⟨#[49, 48, 48, 48, 48, 48, 48, 48, 48, 48, 48, 48, 48, 48, 48, 48, 48, 48, 48, 48, 48]⟩ : ByteArray)).bind fun t356 => ((reckonerref02_Is.f k t322 t356).bind fun t359 => (if t359 = true then (if bt329.2 = 0 then ((reckonerref02_Is.f k bt329.1 (([1, 18446744073709551614] : List Int))).bind fun t363 => (if t363 = true then (if bt339.2.2 = 0 then ((reckonerref02_Parse.f k (⟨#[51, 51, 51, 51, 51, 51, 51, 51, 51, 51, 51, 51, 51, 51, 51, 51, 51, 51, 51, 51]⟩ : ByteArray)).bind fun t364 => ((reckonerref02_Is.f k bt339.1 t364).bind fun t367 => (if t367 = true then ((reckonerref02_Is.f k bt339.2.1 (([1] : List Int))).bind fun t371 => (if t371 = true then (some (bt352.2 == 8)) else (none))) else (none)))) else (none)) else (none))) else (none)) else (none)))) else (none))))) = some r := H
 have A1 := Aside0.mk A10
 clear A10
 obtain ⟨y326, hy326⟩ : ∃ y_ : List Int, y_ = (([18446744073709551615] : List Int)) := ⟨_, rfl⟩
 replace H : ((nat_Square.f y326).bind fun bt329 => ((nat_DivMod.f (([7766279631452241920, 5] : List Int)) (([3] : List Int))).bind fun bt339 => ((nat_Sub.f (([1] : List Int)) (([2] : List Int))).bind fun bt352 => (if t323 = 0 then ((reckonerref02_Parse.f k (⟨#[49, 48, 48, 48, 48, 48, 48, 48, 48, 48, 48, 48, 48, 48, 48, 48, 48, 48, 48, 48, 48]⟩ : ByteArray)).bind fun t356 => ((reckonerref02_Is.f k t322 t356).bind fun t359 => (if t359 = true then (if bt329.2 = 0 then ((reckonerref02_Is.f k bt329.1 (([1, 18446744073709551614] : List Int))).bind fun t363 => (if t363 = true then (if bt339.2.2 = 0 then ((reckonerref02_Parse.f k (⟨#[51, 51, 51, 51, 51, 51, 51, 51, 51, 51, 51, 51, 51, 51, 51, 51, 51, 51, 51, 51]⟩ : ByteArray)).bind fun t364 => ((reckonerref02_Is.f k bt339.1 t364).bind fun t367 => (if t367 = true then ((reckonerref02_Is.f k bt339.2.1 (([1] : List Int))).bind fun t371 => (if t371 = true then (some (bt352.2 == 8)) else (none))) else (none)))) else (none)) else (none))) else (none)) else (none)))) else (none))))) = some r := by first | (rw [hy326]; with_reducible exact H) | (have H2_ := (Option.bind_some _ _).symm.trans H; rw [hy326]; with_reducible exact H2_) | (have H2_ := (Option.bind_some _ _).symm.trans H; with_reducible exact H2_) | with_reducible exact H | (rw [hy326]; exact H) | exact H
 have Ny326 := Aside0.mk hy326
 clear hy326
 replace H := Option.bind_eq_some_iff.mp H
 obtain ⟨⟨t329, t330⟩, A20, H⟩ := H
 replace H : ((nat_DivMod.f (([7766279631452241920, 5] : List Int)) (([3] : List Int))).bind fun bt339 => ((nat_Sub.f (([1] : List Int)) (([2] : List Int))).bind fun bt352 => (if t323 = 0 then ((reckonerref02_Parse.f k (⟨#[49, 48, 48, 48, 48, 48, 48, 48, 48, 48, 48, 48, 48, 48, 48, 48, 48, 48, 48, 48, 48]⟩ : ByteArray)).bind fun t356 => ((reckonerref02_Is.f k t322 t356).bind fun t359 => (if t359 = true then (if t330 = 0 then ((reckonerref02_Is.f k t329 (([1, 18446744073709551614] : List Int))).bind fun t363 => (if t363 = true then (if bt339.2.2 = 0 then ((reckonerref02_Parse.f k (⟨#[51, 51, 51, 51, 51, 51, 51, 51, 51, 51, 51, 51, 51, 51, 51, 51, 51, 51, 51, 51]⟩ : ByteArray)).bind fun t364 => ((reckonerref02_Is.f k bt339.1 t364).bind fun t367 => (if t367 = true then ((reckonerref02_Is.f k bt339.2.1 (([1] : List Int))).bind fun t371 => (if t371 = true then (some (bt352.2 == 8)) else (none))) else (none)))) else (none)) else (none))) else (none)) else (none)))) else (none)))) = some r := H
 have A2 := Aside0.mk A20
 clear A20
 obtain ⟨y333, hy333⟩ : ∃ y_ : List Int, y_ = (([7766279631452241920, 5] : List Int)) := ⟨_, rfl⟩
 replace H : ((nat_DivMod.f y333 (([3] : List Int))).bind fun bt339 => ((nat_Sub.f (([1] : List Int)) (([2] : List Int))).bind fun bt352 => (if t323 = 0 then ((reckonerref02_Parse.f k (⟨#[49, 48, 48, 48, 48, 48, 48, 48, 48, 48, 48, 48, 48, 48, 48, 48, 48, 48, 48, 48, 48]⟩ : ByteArray)).bind fun t356 => ((reckonerref02_Is.f k t322 t356).bind fun t359 => (if t359 = true then (if t330 = 0 then ((reckonerref02_Is.f k t329 (([1, 18446744073709551614] : List Int))).bind fun t363 => (if t363 = true then (if bt339.2.2 = 0 then ((reckonerref02_Parse.f k (⟨#[51, 51, 51, 51, 51, 51, 51, 51, 51, 51, 51, 51, 51, 51, 51, 51, 51, 51, 51, 51]⟩ : ByteArray)).bind fun t364 => ((reckonerref02_Is.f k bt339.1 t364).bind fun t367 => (if t367 = true then ((reckonerref02_Is.f k bt339.2.1 (([1] : List Int))).bind fun t371 => (if t371 = true then (some (bt352.2 == 8)) else (none))) else (none)))) else (none)) else (none))) else (none)) else (none)))) else (none)))) = some r := by first | (rw [hy333]; with_reducible exact H) | (have H2_ := (Option.bind_some _ _).symm.trans H; rw [hy333]; with_reducible exact H2_) | (have H2_ := (Option.bind_some _ _).symm.trans H; with_reducible exact H2_) | with_reducible exact H | (rw [hy333]; exact H) | exact H
 have Ny333 := Aside0.mk hy333
 clear hy333
 obtain ⟨y336, hy336⟩ : ∃ y_ : List Int, y_ = (([3] : List Int)) := ⟨_, rfl⟩
 replace H : ((nat_DivMod.f y333 y336).bind fun bt339 => ((nat_Sub.f (([1] : List Int)) (([2] : List Int))).bind fun bt352 => (if t323 = 0 then ((reckonerref02_Parse.f k (⟨#[49, 48, 48, 48, 48, 48, 48, 48, 48, 48, 48, 48, 48, 48, 48, 48, 48, 48, 48, 48, 48]⟩ : ByteArray)).bind fun t356 => ((reckonerref02_Is.f k t322 t356).bind fun t359 => (if t359 = true then (if t330 = 0 then ((reckonerref02_Is.f k t329 (([1, 18446744073709551614] : List Int))).bind fun t363 => (if t363 = true then (if bt339.2.2 = 0 then ((reckonerref02_Parse.f k (⟨#[51, 51, 51, 51, 51, 51, 51, 51, 51, 51, 51, 51, 51, 51, 51, 51, 51, 51, 51, 51]⟩ : ByteArray)).bind fun t364 => ((reckonerref02_Is.f k bt339.1 t364).bind fun t367 => (if t367 = true then ((reckonerref02_Is.f k bt339.2.1 (([1] : List Int))).bind fun t371 => (if t371 = true then (some (bt352.2 == 8)) else (none))) else (none)))) else (none)) else (none))) else (none)) else (none)))) else (none)))) = some r := by first | (rw [hy336]; with_reducible exact H) | (have H2_ := (Option.bind_some _ _).symm.trans H; rw [hy336]; with_reducible exact H2_) | (have H2_ := (Option.bind_some _ _).symm.trans H; with_reducible exact H2_) | with_reducible exact H | (rw [hy336]; exact H) | exact H
 have Ny336 := Aside0.mk hy336
 clear hy336
 replace H := Option.bind_eq_some_iff.mp H
 obtain ⟨⟨t339, t340, t341⟩, A30, H⟩ := H
 replace H : ((nat_Sub.f (([1] : List Int)) (([2] : List Int))).bind fun bt352 => (if t323 = 0 then ((reckonerref02_Parse.f k (⟨#[49, 48, 48, 48, 48, 48, 48, 48, 48, 48, 48, 48, 48, 48, 48, 48, 48, 48, 48, 48, 48]⟩ : ByteArray)).bind fun t356 => ((reckonerref02_Is.f k t322 t356).bind fun t359 => (if t359 = true then (if t330 = 0 then ((reckonerref02_Is.f k t329 (([1, 18446744073709551614] : List Int))).bind fun t363 => (if t363 = true then (if t341 = 0 then ((reckonerref02_Parse.f k (⟨#[51, 51, 51, 51, 51, 51, 51, 51, 51, 51, 51, 51, 51, 51, 51, 51, 51, 51, 51, 51]⟩ : ByteArray)).bind fun t364 => ((reckonerref02_Is.f k t339 t364).bind fun t367 => (if t367 = true then ((reckonerref02_Is.f k t340 (([1] : List Int))).bind fun t371 => (if t371 = true then (some (bt352.2 == 8)) else (none))) else (none)))) else (none)) else (none))) else (none)) else (none)))) else (none))) = some r := H
 have A3 := Aside0.mk A30
 clear A30
 obtain ⟨y346, hy346⟩ : ∃ y_ : List Int, y_ = (([1] : List Int)) := ⟨_, rfl⟩
 replace H : ((nat_Sub.f y346 (([2] : List Int))).bind fun bt352 => (if t323 = 0 then ((reckonerref02_Parse.f k (⟨#[49, 48, 48, 48, 48, 48, 48, 48, 48, 48, 48, 48, 48, 48, 48, 48, 48, 48, 48, 48, 48]⟩ : ByteArray)).bind fun t356 => ((reckonerref02_Is.f k t322 t356).bind fun t359 => (if t359 = true then (if t330 = 0 then ((reckonerref02_Is.f k t329 (([1, 18446744073709551614] : List Int))).bind fun t363 => (if t363 = true then (if t341 = 0 then ((reckonerref02_Parse.f k (⟨#[51, 51, 51, 51, 51, 51, 51, 51, 51, 51, 51, 51, 51, 51, 51, 51, 51, 51, 51, 51]⟩ : ByteArray)).bind fun t364 => ((reckonerref02_Is.f k t339 t364).bind fun t367 => (if t367 = true then ((reckonerref02_Is.f k t340 (([1] : List Int))).bind fun t371 => (if t371 = true then (some (bt352.2 == 8)) else (none))) else (none)))) else (none)) else (none))) else (none)) else (none)))) else (none))) = some r := by first | (rw [hy346]; with_reducible exact H) | (have H2_ := (Option.bind_some _ _).symm.trans H; rw [hy346]; with_reducible exact H2_) | (have H2_ := (Option.bind_some _ _).symm.trans H; with_reducible exact H2_) | with_reducible exact H | (rw [hy346]; exact H) | exact H
 have Ny346 := Aside0.mk hy346
 clear hy346
 obtain ⟨y349, hy349⟩ : ∃ y_ : List Int, y_ = (([2] : List Int)) := ⟨_, rfl⟩
 replace H : ((nat_Sub.f y346 y349).bind fun bt352 => (if t323 = 0 then ((reckonerref02_Parse.f k (⟨#[49, 48, 48, 48, 48, 48, 48, 48, 48, 48, 48, 48, 48, 48, 48, 48, 48, 48, 48, 48, 48]⟩ : ByteArray)).bind fun t356 => ((reckonerref02_Is.f k t322 t356).bind fun t359 => (if t359 = true then (if t330 = 0 then ((reckonerref02_Is.f k t329 (([1, 18446744073709551614] : List Int))).bind fun t363 => (if t363 = true then (if t341 = 0 then ((reckonerref02_Parse.f k (⟨#[51, 51, 51, 51, 51, 51, 51, 51, 51, 51, 51, 51, 51, 51, 51, 51, 51, 51, 51, 51]⟩ : ByteArray)).bind fun t364 => ((reckonerref02_Is.f k t339 t364).bind fun t367 => (if t367 = true then ((reckonerref02_Is.f k t340 (([1] : List Int))).bind fun t371 => (if t371 = true then (some (bt352.2 == 8)) else (none))) else (none)))) else (none)) else (none))) else (none)) else (none)))) else (none))) = some r := by first | (rw [hy349]; with_reducible exact H) | (have H2_ := (Option.bind_some _ _).symm.trans H; rw [hy349]; with_reducible exact H2_) | (have H2_ := (Option.bind_some _ _).symm.trans H; with_reducible exact H2_) | with_reducible exact H | (rw [hy349]; exact H) | exact H
 have Ny349 := Aside0.mk hy349
 clear hy349
 replace H := Option.bind_eq_some_iff.mp H
 obtain ⟨⟨t352, t353⟩, A40, H⟩ := H
 replace H : (if t323 = 0 then ((reckonerref02_Parse.f k (⟨#[49, 48, 48, 48, 48, 48, 48, 48, 48, 48, 48, 48, 48, 48, 48, 48, 48, 48, 48, 48, 48]⟩ : ByteArray)).bind fun t356 => ((reckonerref02_Is.f k t322 t356).bind fun t359 => (if t359 = true then (if t330 = 0 then ((reckonerref02_Is.f k t329 (([1, 18446744073709551614] : List Int))).bind fun t363 => (if t363 = true then (if t341 = 0 then ((reckonerref02_Parse.f k (⟨#[51, 51, 51, 51, 51, 51, 51, 51, 51, 51, 51, 51, 51, 51, 51, 51, 51, 51, 51, 51]⟩ : ByteArray)).bind fun t364 => ((reckonerref02_Is.f k t339 t364).bind fun t367 => (if t367 = true then ((reckonerref02_Is.f k t340 (([1] : List Int))).bind fun t371 => (if t371 = true then (some (t353 == 8)) else (none))) else (none)))) else (none)) else (none))) else (none)) else (none)))) else (none)) = some r := H
 have A4 := Aside0.mk A40
 clear A40
 by_cases c5 : t323 = 0
 ·rw [if_pos c5] at H
  have c5b0 : (t323 == 0) = true := beq_iff_eq.mpr c5
  have c5b1 : (t323 != 0) = false := bne_eq_false_iff_eq.mpr c5
  clear c5
  replace H := Option.bind_eq_some_iff.mp H
  obtain ⟨t356, A60, H⟩ := H
  replace H : ((reckonerref02_Is.f k t322 t356).bind fun t359 => (if t359 = true then (if t330 = 0 then ((reckonerref02_Is.f k t329 (([1, 18446744073709551614] : List Int))).bind fun t363 => (if t363 = true then (if t341 = 0 then ((reckonerref02_Parse.f k (⟨#[51, 51, 51, 51, 51, 51, 51, 51, 51, 51, 51, 51, 51, 51, 51, 51, 51, 51, 51, 51]⟩ : ByteArray)).bind fun t364 => ((reckonerref02_Is.f k t339 t364).bind fun t367 => (if t367 = true then ((reckonerref02_Is.f k t340 (([1] : List Int))).bind fun t371 => (if t371 = true then (some (t353 == 8)) else (none))) else (none)))) else (none)) else (none))) else (none)) else (none))) = some r := H
  have A6 := Aside0.mk A60
  clear A60
  replace H := Option.bind_eq_some_iff.mp H
  obtain ⟨t359, A70, H⟩ := H
  replace H : (if t359 = true then (if t330 = 0 then ((reckonerref02_Is.f k t329 (([1, 18446744073709551614] : List Int))).bind fun t363 => (if t363 = true then (if t341 = 0 then ((reckonerref02_Parse.f k (⟨#[51, 51, 51, 51, 51, 51, 51, 51, 51, 51, 51, 51, 51, 51, 51, 51, 51, 51, 51, 51]⟩ : ByteArray)).bind fun t364 => ((reckonerref02_Is.f k t339 t364).bind fun t367 => (if t367 = true then ((reckonerref02_Is.f k t340 (([1] : List Int))).bind fun t371 => (if t371 = true then (some (t353 == 8)) else (none))) else (none)))) else (none)) else (none))) else (none)) else (none)) = some r := H
  have A7 := Aside0.mk A70
  clear A70
  by_cases c8 : t359 = true
  ·subst c8
   have H1 : (if t330 = 0 then ((reckonerref02_Is.f k t329 (([1, 18446744073709551614] : List Int))).bind fun t363 => (if t363 = true then (if t341 = 0 then ((reckonerref02_Parse.f k (⟨#[51, 51, 51, 51, 51, 51, 51, 51, 51, 51, 51, 51, 51, 51, 51, 51, 51, 51, 51, 51]⟩ : ByteArray)).bind fun t364 => ((reckonerref02_Is.f k t339 t364).bind fun t367 => (if t367 = true then ((reckonerref02_Is.f k t340 (([1] : List Int))).bind fun t371 => (if t371 = true then (some (t353 == 8)) else (none))) else (none)))) else (none)) else (none))) else (none)) = some r := by rw [if_pos rfl] at H; exact H
   clear H
   have H := H1
   clear H1
   by_cases c9 : t330 = 0
   ·rw [if_pos c9] at H
    have c9b0 : (t330 == 0) = true := beq_iff_eq.mpr c9
    have c9b1 : (t330 != 0) = false := bne_eq_false_iff_eq.mpr c9
    clear c9
    obtain ⟨y360, hy360⟩ : ∃ y_ : List Int, y_ = (([1, 18446744073709551614] : List Int)) := ⟨_, rfl⟩
    replace H : ((reckonerref02_Is.f k t329 y360).bind fun t363 => (if t363 = true then (if t341 = 0 then ((reckonerref02_Parse.f k (⟨#[51, 51, 51, 51, 51, 51, 51, 51, 51, 51, 51, 51, 51, 51, 51, 51, 51, 51, 51, 51]⟩ : ByteArray)).bind fun t364 => ((reckonerref02_Is.f k t339 t364).bind fun t367 => (if t367 = true then ((reckonerref02_Is.f k t340 (([1] : List Int))).bind fun t371 => (if t371 = true then (some (t353 == 8)) else (none))) else (none)))) else (none)) else (none))) = some r := by first | (rw [hy360]; with_reducible exact H) | (have H2_ := (Option.bind_some _ _).symm.trans H; rw [hy360]; with_reducible exact H2_) | (have H2_ := (Option.bind_some _ _).symm.trans H; with_reducible exact H2_) | with_reducible exact H | (rw [hy360]; exact H) | exact H
    have Ny360 := Aside0.mk hy360
    clear hy360
    replace H := Option.bind_eq_some_iff.mp H
    obtain ⟨t363, A100, H⟩ := H
    replace H : (if t363 = true then (if t341 = 0 then ((reckonerref02_Parse.f k (⟨#[51, 51, 51, 51, 51, 51, 51, 51, 51, 51, 51, 51, 51, 51, 51, 51, 51, 51, 51, 51]⟩ : ByteArray)).bind fun t364 => ((reckonerref02_Is.f k t339 t364).bind fun t367 => (if t367 = true then ((reckonerref02_Is.f k t340 (([1] : List Int))).bind fun t371 => (if t371 = true then (some (t353 == 8)) else (none))) else (none)))) else (none)) else (none)) = some r := H
    have A10 := Aside0.mk A100
    clear A100
    by_cases c11 : t363 = true
    ·subst c11
     have H1 : (if t341 = 0 then ((reckonerref02_Parse.f k (⟨#[51, 51, 51, 51, 51, 51, 51, 51, 51, 51, 51, 51, 51, 51, 51, 51, 51, 51, 51, 51]⟩ : ByteArray)).bind fun t364 => ((reckonerref02_Is.f k t339 t364).bind fun t367 => (if t367 = true then ((reckonerref02_Is.f k t340 (([1] : List Int))).bind fun t371 => (if t371 = true then (some (t353 == 8)) else (none))) else (none)))) else (none)) = some r := by rw [if_pos rfl] at H; exact H
     clear H
     have H := H1
     clear H1
     by_cases c12 : t341 = 0
     ·rw [if_pos c12] at H
      have c12b0 : (t341 == 0) = true := beq_iff_eq.mpr c12
      have c12b1 : (t341 != 0) = false := bne_eq_false_iff_eq.mpr c12
      clear c12
      replace H := Option.bind_eq_some_iff.mp H
      obtain ⟨t364, A130, H⟩ := H
      replace H : ((reckonerref02_Is.f k t339 t364).bind fun t367 => (if t367 = true then ((reckonerref02_Is.f k t340 (([1] : List Int))).bind fun t371 => (if t371 = true then (some (t353 == 8)) else (none))) else (none))) = some r := H
      have A13 := Aside0.mk A130
      clear A130
      replace H := Option.bind_eq_some_iff.mp H
      obtain ⟨t367, A140, H⟩ := H
      replace H : (if t367 = true then ((reckonerref02_Is.f k t340 (([1] : List Int))).bind fun t371 => (if t371 = true then (some (t353 == 8)) else (none))) else (none)) = some r := H
      have A14 := Aside0.mk A140
      clear A140
      by_cases c15 : t367 = true
      ·subst c15
       have H1 : ((reckonerref02_Is.f k t340 (([1] : List Int))).bind fun t371 => (if t371 = true then (some (t353 == 8)) else (none))) = some r := by rw [if_pos rfl] at H; exact H
       clear H
       have H := H1
       clear H1
       obtain ⟨y368, hy368⟩ : ∃ y_ : List Int, y_ = (([1] : List Int)) := ⟨_, rfl⟩
       replace H : ((reckonerref02_Is.f k t340 y368).bind fun t371 => (if t371 = true then (some (t353 == 8)) else (none))) = some r := by first | (rw [hy368]; with_reducible exact H) | (have H2_ := (Option.bind_some _ _).symm.trans H; rw [hy368]; with_reducible exact H2_) | (have H2_ := (Option.bind_some _ _).symm.trans H; with_reducible exact H2_) | with_reducible exact H | (rw [hy368]; exact H) | exact H
       have Ny368 := Aside0.mk hy368
       clear hy368
       replace H := Option.bind_eq_some_iff.mp H
       obtain ⟨t371, A160, H⟩ := H
       replace H : (if t371 = true then (some (t353 == 8)) else (none)) = some r := H
       have A16 := Aside0.mk A160
       clear A160
       by_cases c17 : t371 = true
       ·subst c17
        have H1 : (some (t353 == 8)) = some r := by rw [if_pos rfl] at H; exact H
        clear H
        have H := H1
        clear H1
        obtain rfl := Option.some.inj H
        go_enter Tryd.func18, Tryd.ntmps18
        try simp only [List.append]
        go_wp2_with (first | ((with_reducible refine gate_dst (N := 11) rfl ?_); (try (refine gate_guard (by rfl) ?_; dsimp only)); refine Kd.R_lit (Kd.int .u64) _ 36 ?hg (N := 11) ?hd (xs := ([10] : List Int)) (inner := [.int .u64 10]) (ok := fun _ => True) (okp := fun _ => True) ?hr ?hp (fun _ hk => hk) trivial (Below.refl _ _) (Nat.le_refl _) (by simp) ?_; (case hd => rfl); (case hg => rfl); (case hr => first | (go_simp; done) | (go_simp; rfl)); (case hp => exact (Reps.one (show Kd.M (Kd.int .u64) _ _ _ 10 [.int .u64 10] from rfl) (Reps.none _ _))); intro v320 w18 ho19 hb hg_ hnew_; clear hg_ hnew_; (first | rw [← Ny319.out] at ho19 | (simp only [Int.reduceToNat] at ho19; rw [← Ny319.out] at ho19)); have n0_ := Aside0.mk (Kd.R_lower ho19 (below_size (by repeat (first | (with_reducible first | exact HB.out | apply below_alloc | apply pw_below_drewN | apply below_drew1) | exact HB.out)))); have n1_ := Aside0.mk (below_step (by repeat (first | (with_reducible first | exact HB.out | apply below_alloc | apply pw_below_drewN | apply below_drew1) | exact HB.out)) hb); clear HB; have HO321 := n0_; have HB := n1_; clear n0_ n1_; clear hb ho19; obtain ⟨Ao20, co20, eo20⟩ := Kd.R_slice HO321.out; subst eo20) | ((with_reducible refine gate_callee (f := 34) rfl ?_); refine goesL_ (some 12) rfl rfl Tryd.func34 (by kernel_rfl) rfl #[.slice Ao20 y319.length co20, .int .i64 20] rfl (by (try simp only [List.map_toArray, List.map_cons, List.map_nil]); first | done | rfl | (simp only [List.length_drop, List.length_take]; rfl)) ?_; (with_reducible refine (nat_Pow.calls _ _ y319 20 t322 t323 _ ?side1 ?side2 A1.out).mono ?_); (case side1 => repeat (first | exact (Kd.R_reads' HO321.out).2.2 | (with_reducible refine Kd.C_alloc ?_ _) | (with_reducible refine Kd.C_drewN ?_ _) | (with_reducible refine Kd.C_drew ?_))); (case side2 => exact (Kd.R_reads' HO321.out).2.1); rintro e w21 ⟨v324, rfl, ho0, hb⟩; refine ⟨_, rfl, ?_⟩; have n0_ := Aside0.mk (Kd.R_elder' (by (with_reducible repeat (first | apply Kd.R_alloc | apply Kd.R_drewN | apply Kd.R_drew)); exact HO321.out) (Kd.R_base ho0) hb); have n1_ := Aside0.mk (Kd.R_lower (Kd.R_new' ho0 (Kd.R_lt (by (with_reducible repeat (first | apply Kd.R_alloc | apply Kd.R_drewN | apply Kd.R_drew)); exact HO321.out))) (below_size (by repeat (first | (with_reducible first | exact HB.out | apply below_alloc | apply pw_below_drewN | apply below_drew1) | exact HB.out)))); have n2_ := Aside0.mk (below_step (by repeat (first | (with_reducible first | exact HB.out | apply below_alloc | apply pw_below_drewN | apply below_drew1) | exact HB.out)) hb); clear HO321; clear HB; have HO321 := n0_; have HO325 := n1_; have HB := n2_; clear n0_ n1_ n2_; (try clear hb); (try clear hb2); (try clear hk); (try clear hi); (try clear ho0)) | ((with_reducible refine gate_dst (N := 16) rfl ?_); (try (refine gate_guard (by rfl) ?_; dsimp only)); refine Kd.R_lit (Kd.int .u64) _ 36 ?hg (N := 16) ?hd (xs := ([18446744073709551615] : List Int)) (inner := [.int .u64 18446744073709551615]) (ok := fun _ => True) (okp := fun _ => True) ?hr ?hp (fun _ hk => hk) trivial (Below.refl _ _) (Nat.le_refl _) (by simp) ?_; (case hd => rfl); (case hg => rfl); (case hr => first | (go_simp; done) | (go_simp; rfl)); (case hp => exact (Reps.one (show Kd.M (Kd.int .u64) _ _ _ 18446744073709551615 [.int .u64 18446744073709551615] from rfl) (Reps.none _ _))); intro v327 w22 ho23 hb hg_ hnew_; clear hg_ hnew_; (first | rw [← Ny326.out] at ho23 | (simp only [Int.reduceToNat] at ho23; rw [← Ny326.out] at ho23)); have n0_ := Aside0.mk (Kd.R_elder' (by (with_reducible repeat (first | apply Kd.R_alloc | apply Kd.R_drewN | apply Kd.R_drew)); exact HO321.out) (Kd.R_base ho23) hb); have n1_ := Aside0.mk (Kd.R_elder' (by (with_reducible repeat (first | apply Kd.R_alloc | apply Kd.R_drewN | apply Kd.R_drew)); exact HO325.out) (Kd.R_base ho23) hb); have n2_ := Aside0.mk (Kd.R_lower (Kd.R_new' (Kd.R_new' ho23 (Kd.R_lt (by (with_reducible repeat (first | apply Kd.R_alloc | apply Kd.R_drewN | apply Kd.R_drew)); exact HO321.out))) (Kd.R_lt (by (with_reducible repeat (first | apply Kd.R_alloc | apply Kd.R_drewN | apply Kd.R_drew)); exact HO325.out))) (below_size (by repeat (first | (with_reducible first | exact HB.out | apply below_alloc | apply pw_below_drewN | apply below_drew1) | exact HB.out)))); have n3_ := Aside0.mk (below_step (by repeat (first | (with_reducible first | exact HB.out | apply below_alloc | apply pw_below_drewN | apply below_drew1) | exact HB.out)) hb); clear HO321; clear HO325; clear HB; have HO321 := n0_; have HO325 := n1_; have HO328 := n2_; have HB := n3_; clear n0_ n1_ n2_ n3_; clear hb ho23; obtain ⟨Ao24, co24, eo24⟩ := Kd.R_slice HO328.out; subst eo24) | ((with_reducible refine gate_callee (f := 38) rfl ?_); refine goesL_ (some 17) rfl rfl Tryd.func38 (by kernel_rfl) rfl #[.slice Ao24 y326.length co24] rfl (by (try simp only [List.map_toArray, List.map_cons, List.map_nil]); first | done | rfl | (simp only [List.length_drop, List.length_take]; rfl)) ?_; (with_reducible refine (nat_Square.calls _ _ y326 t329 t330 _ ?side1 ?side2 A2.out).mono ?_); (case side1 => repeat (first | exact (Kd.R_reads' HO328.out).2.2 | (with_reducible refine Kd.C_alloc ?_ _) | (with_reducible refine Kd.C_drewN ?_ _) | (with_reducible refine Kd.C_drew ?_))); (case side2 => exact (Kd.R_reads' HO328.out).2.1); rintro e w25 ⟨v331, rfl, ho0, hb⟩; refine ⟨_, rfl, ?_⟩; have n0_ := Aside0.mk (Kd.R_elder' (by (with_reducible repeat (first | apply Kd.R_alloc | apply Kd.R_drewN | apply Kd.R_drew)); exact HO321.out) (Kd.R_base ho0) hb); have n1_ := Aside0.mk (Kd.R_elder' (by (with_reducible repeat (first | apply Kd.R_alloc | apply Kd.R_drewN | apply Kd.R_drew)); exact HO325.out) (Kd.R_base ho0) hb); have n2_ := Aside0.mk (Kd.R_elder' (by (with_reducible repeat (first | apply Kd.R_alloc | apply Kd.R_drewN | apply Kd.R_drew)); exact HO328.out) (Kd.R_base ho0) hb); have n3_ := Aside0.mk (Kd.R_lower (Kd.R_new' (Kd.R_new' (Kd.R_new' ho0 (Kd.R_lt (by (with_reducible repeat (first | apply Kd.R_alloc | apply Kd.R_drewN | apply Kd.R_drew)); exact HO321.out))) (Kd.R_lt (by (with_reducible repeat (first | apply Kd.R_alloc | apply Kd.R_drewN | apply Kd.R_drew)); exact HO325.out))) (Kd.R_lt (by (with_reducible repeat (first | apply Kd.R_alloc | apply Kd.R_drewN | apply Kd.R_drew)); exact HO328.out))) (below_size (by repeat (first | (with_reducible first | exact HB.out | apply below_alloc | apply pw_below_drewN | apply below_drew1) | exact HB.out)))); have n4_ := Aside0.mk (below_step (by repeat (first | (with_reducible first | exact HB.out | apply below_alloc | apply pw_below_drewN | apply below_drew1) | exact HB.out)) hb); clear HO321; clear HO325; clear HO328; clear HB; have HO321 := n0_; have HO325 := n1_; have HO328 := n2_; have HO332 := n3_; have HB := n4_; clear n0_ n1_ n2_ n3_ n4_; (try clear hb); (try clear hb2); (try clear hk); (try clear hi); (try clear ho0)) | ((with_reducible refine gate_dst (N := 21) rfl ?_); (try (refine gate_guard (by rfl) ?_; dsimp only)); refine Kd.R_lit (Kd.int .u64) _ 36 ?hg (N := 21) ?hd (xs := ([7766279631452241920, 5] : List Int)) (inner := [.int .u64 7766279631452241920, .int .u64 5]) (ok := fun _ => True) (okp := fun _ => True) ?hr ?hp (fun _ hk => hk) trivial (Below.refl _ _) (Nat.le_refl _) (by simp) ?_; (case hd => rfl); (case hg => rfl); (case hr => first | (go_simp; done) | (go_simp; rfl)); (case hp => exact (Reps.one (show Kd.M (Kd.int .u64) _ _ _ 7766279631452241920 [.int .u64 7766279631452241920] from rfl) (Reps.one (show Kd.M (Kd.int .u64) _ _ _ 5 [.int .u64 5] from rfl) (Reps.none _ _)))); intro v334 w26 ho27 hb hg_ hnew_; clear hg_ hnew_; (first | rw [← Ny333.out] at ho27 | (simp only [Int.reduceToNat] at ho27; rw [← Ny333.out] at ho27)); have n0_ := Aside0.mk (Kd.R_elder' (by (with_reducible repeat (first | apply Kd.R_alloc | apply Kd.R_drewN | apply Kd.R_drew)); exact HO321.out) (Kd.R_base ho27) hb); have n1_ := Aside0.mk (Kd.R_elder' (by (with_reducible repeat (first | apply Kd.R_alloc | apply Kd.R_drewN | apply Kd.R_drew)); exact HO325.out) (Kd.R_base ho27) hb); have n2_ := Aside0.mk (Kd.R_elder' (by (with_reducible repeat (first | apply Kd.R_alloc | apply Kd.R_drewN | apply Kd.R_drew)); exact HO328.out) (Kd.R_base ho27) hb); have n3_ := Aside0.mk (Kd.R_elder' (by (with_reducible repeat (first | apply Kd.R_alloc | apply Kd.R_drewN | apply Kd.R_drew)); exact HO332.out) (Kd.R_base ho27) hb); have n4_ := Aside0.mk (Kd.R_lower (Kd.R_new' (Kd.R_new' (Kd.R_new' (Kd.R_new' ho27 (Kd.R_lt (by (with_reducible repeat (first | apply Kd.R_alloc | apply Kd.R_drewN | apply Kd.R_drew)); exact HO321.out))) (Kd.R_lt (by (with_reducible repeat (first | apply Kd.R_alloc | apply Kd.R_drewN | apply Kd.R_drew)); exact HO325.out))) (Kd.R_lt (by (with_reducible repeat (first | apply Kd.R_alloc | apply Kd.R_drewN | apply Kd.R_drew)); exact HO328.out))) (Kd.R_lt (by (with_reducible repeat (first | apply Kd.R_alloc | apply Kd.R_drewN | apply Kd.R_drew)); exact HO332.out))) (below_size (by repeat (first | (with_reducible first | exact HB.out | apply below_alloc | apply pw_below_drewN | apply below_drew1) | exact HB.out)))); have n5_ := Aside0.mk (below_step (by repeat (first | (with_reducible first | exact HB.out | apply below_alloc | apply pw_below_drewN | apply below_drew1) | exact HB.out)) hb); clear HO321; clear HO325; clear HO328; clear HO332; clear HB; have HO321 := n0_; have HO325 := n1_; have HO328 := n2_; have HO332 := n3_; have HO335 := n4_; have HB := n5_; clear n0_ n1_ n2_ n3_ n4_ n5_; clear hb ho27) | ((with_reducible refine gate_dst (N := 22) rfl ?_); (try (refine gate_guard (by rfl) ?_; dsimp only)); refine Kd.R_lit (Kd.int .u64) _ 36 ?hg (N := 22) ?hd (xs := ([3] : List Int)) (inner := [.int .u64 3]) (ok := fun _ => True) (okp := fun _ => True) ?hr ?hp (fun _ hk => hk) trivial (Below.refl _ _) (Nat.le_refl _) (by simp) ?_; (case hd => rfl); (case hg => rfl); (case hr => first | (go_simp; done) | (go_simp; rfl)); (case hp => exact (Reps.one (show Kd.M (Kd.int .u64) _ _ _ 3 [.int .u64 3] from rfl) (Reps.none _ _))); intro v337 w28 ho29 hb hg_ hnew_; clear hg_ hnew_; (first | rw [← Ny336.out] at ho29 | (simp only [Int.reduceToNat] at ho29; rw [← Ny336.out] at ho29)); have n0_ := Aside0.mk (Kd.R_elder' (by (with_reducible repeat (first | apply Kd.R_alloc | apply Kd.R_drewN | apply Kd.R_drew)); exact HO321.out) (Kd.R_base ho29) hb); have n1_ := Aside0.mk (Kd.R_elder' (by (with_reducible repeat (first | apply Kd.R_alloc | apply Kd.R_drewN | apply Kd.R_drew)); exact HO325.out) (Kd.R_base ho29) hb); have n2_ := Aside0.mk (Kd.R_elder' (by (with_reducible repeat (first | apply Kd.R_alloc | apply Kd.R_drewN | apply Kd.R_drew)); exact HO328.out) (Kd.R_base ho29) hb); have n3_ := Aside0.mk (Kd.R_elder' (by (with_reducible repeat (first | apply Kd.R_alloc | apply Kd.R_drewN | apply Kd.R_drew)); exact HO332.out) (Kd.R_base ho29) hb); have n4_ := Aside0.mk (Kd.R_elder' (by (with_reducible repeat (first | apply Kd.R_alloc | apply Kd.R_drewN | apply Kd.R_drew)); exact HO335.out) (Kd.R_base ho29) hb); have n5_ := Aside0.mk (Kd.R_lower (Kd.R_new' (Kd.R_new' (Kd.R_new' (Kd.R_new' (Kd.R_new' ho29 (Kd.R_lt (by (with_reducible repeat (first | apply Kd.R_alloc | apply Kd.R_drewN | apply Kd.R_drew)); exact HO321.out))) (Kd.R_lt (by (with_reducible repeat (first | apply Kd.R_alloc | apply Kd.R_drewN | apply Kd.R_drew)); exact HO325.out))) (Kd.R_lt (by (with_reducible repeat (first | apply Kd.R_alloc | apply Kd.R_drewN | apply Kd.R_drew)); exact HO328.out))) (Kd.R_lt (by (with_reducible repeat (first | apply Kd.R_alloc | apply Kd.R_drewN | apply Kd.R_drew)); exact HO332.out))) (Kd.R_lt (by (with_reducible repeat (first | apply Kd.R_alloc | apply Kd.R_drewN | apply Kd.R_drew)); exact HO335.out))) (below_size (by repeat (first | (with_reducible first | exact HB.out | apply below_alloc | apply pw_below_drewN | apply below_drew1) | exact HB.out)))); have n6_ := Aside0.mk (below_step (by repeat (first | (with_reducible first | exact HB.out | apply below_alloc | apply pw_below_drewN | apply below_drew1) | exact HB.out)) hb); clear HO321; clear HO325; clear HO328; clear HO332; clear HO335; clear HB; have HO321 := n0_; have HO325 := n1_; have HO328 := n2_; have HO332 := n3_; have HO335 := n4_; have HO338 := n5_; have HB := n6_; clear n0_ n1_ n2_ n3_ n4_ n5_ n6_; clear hb ho29; obtain ⟨Ao30, co30, eo30⟩ := Kd.R_slice HO335.out; subst eo30; obtain ⟨Ao31, co31, eo31⟩ := Kd.R_slice HO338.out; subst eo31) | ((with_reducible refine gate_callee (f := 33) rfl ?_); refine goesL_ (some 23) rfl rfl Tryd.func33 (by kernel_rfl) rfl #[.slice Ao30 y333.length co30, .slice Ao31 y336.length co31] rfl (by (try simp only [List.map_toArray, List.map_cons, List.map_nil]); first | done | rfl | (simp only [List.length_drop, List.length_take]; rfl)) ?_; (with_reducible refine (nat_DivMod.calls _ _ y333 _ _ y336 t339 t340 t341 _ ?side1 ?side2 ?side3 ?side4 A3.out).mono ?_); (case side1 => repeat (first | exact (Kd.R_reads' HO335.out).2.2 | (with_reducible refine Kd.C_alloc ?_ _) | (with_reducible refine Kd.C_drewN ?_ _) | (with_reducible refine Kd.C_drew ?_))); (case side2 => exact (Kd.R_reads' HO335.out).2.1); (case side3 => repeat (first | exact (Kd.R_reads' HO338.out).2.2 | (with_reducible refine Kd.C_alloc ?_ _) | (with_reducible refine Kd.C_drewN ?_ _) | (with_reducible refine Kd.C_drew ?_))); (case side4 => exact (Kd.R_reads' HO338.out).2.1); rintro e w32 ⟨v342, v344, rfl, ho0, ho1, hb⟩; refine ⟨_, rfl, ?_⟩; have n0_ := Aside0.mk (Kd.R_mono (Kd.R_told (Kd.R_told (Kd.R_old (by (with_reducible repeat (first | apply Kd.R_alloc | apply Kd.R_drewN | apply Kd.R_drew)); exact HO321.out) hb) (Kd.R_base ho0)) (Kd.R_base ho1)) (fun _ h_ => h_.1)); have n1_ := Aside0.mk (Kd.R_mono (Kd.R_told (Kd.R_told (Kd.R_old (by (with_reducible repeat (first | apply Kd.R_alloc | apply Kd.R_drewN | apply Kd.R_drew)); exact HO325.out) hb) (Kd.R_base ho0)) (Kd.R_base ho1)) (fun _ h_ => h_.1)); have n2_ := Aside0.mk (Kd.R_mono (Kd.R_told (Kd.R_told (Kd.R_old (by (with_reducible repeat (first | apply Kd.R_alloc | apply Kd.R_drewN | apply Kd.R_drew)); exact HO328.out) hb) (Kd.R_base ho0)) (Kd.R_base ho1)) (fun _ h_ => h_.1)); have n3_ := Aside0.mk (Kd.R_mono (Kd.R_told (Kd.R_told (Kd.R_old (by (with_reducible repeat (first | apply Kd.R_alloc | apply Kd.R_drewN | apply Kd.R_drew)); exact HO332.out) hb) (Kd.R_base ho0)) (Kd.R_base ho1)) (fun _ h_ => h_.1)); have n4_ := Aside0.mk (Kd.R_mono (Kd.R_told (Kd.R_told (Kd.R_old (by (with_reducible repeat (first | apply Kd.R_alloc | apply Kd.R_drewN | apply Kd.R_drew)); exact HO335.out) hb) (Kd.R_base ho0)) (Kd.R_base ho1)) (fun _ h_ => h_.1)); have n5_ := Aside0.mk (Kd.R_mono (Kd.R_told (Kd.R_told (Kd.R_old (by (with_reducible repeat (first | apply Kd.R_alloc | apply Kd.R_drewN | apply Kd.R_drew)); exact HO338.out) hb) (Kd.R_base ho0)) (Kd.R_base ho1)) (fun _ h_ => h_.1)); have n6_ := Aside0.mk (Kd.R_lower (Kd.R_new' (Kd.R_new' (Kd.R_new' (Kd.R_new' (Kd.R_new' (Kd.R_new' ho0 (Kd.R_lt (by (with_reducible repeat (first | apply Kd.R_alloc | apply Kd.R_drewN | apply Kd.R_drew)); exact HO321.out))) (Kd.R_lt (by (with_reducible repeat (first | apply Kd.R_alloc | apply Kd.R_drewN | apply Kd.R_drew)); exact HO325.out))) (Kd.R_lt (by (with_reducible repeat (first | apply Kd.R_alloc | apply Kd.R_drewN | apply Kd.R_drew)); exact HO328.out))) (Kd.R_lt (by (with_reducible repeat (first | apply Kd.R_alloc | apply Kd.R_drewN | apply Kd.R_drew)); exact HO332.out))) (Kd.R_lt (by (with_reducible repeat (first | apply Kd.R_alloc | apply Kd.R_drewN | apply Kd.R_drew)); exact HO335.out))) (Kd.R_lt (by (with_reducible repeat (first | apply Kd.R_alloc | apply Kd.R_drewN | apply Kd.R_drew)); exact HO338.out))) (below_size (by repeat (first | (with_reducible first | exact HB.out | apply below_alloc | apply pw_below_drewN | apply below_drew1) | exact HB.out)))); have n7_ := Aside0.mk (Kd.R_lower (Kd.R_new' (Kd.R_new' (Kd.R_new' (Kd.R_new' (Kd.R_new' (Kd.R_new' ho1 (Kd.R_lt (by (with_reducible repeat (first | apply Kd.R_alloc | apply Kd.R_drewN | apply Kd.R_drew)); exact HO321.out))) (Kd.R_lt (by (with_reducible repeat (first | apply Kd.R_alloc | apply Kd.R_drewN | apply Kd.R_drew)); exact HO325.out))) (Kd.R_lt (by (with_reducible repeat (first | apply Kd.R_alloc | apply Kd.R_drewN | apply Kd.R_drew)); exact HO328.out))) (Kd.R_lt (by (with_reducible repeat (first | apply Kd.R_alloc | apply Kd.R_drewN | apply Kd.R_drew)); exact HO332.out))) (Kd.R_lt (by (with_reducible repeat (first | apply Kd.R_alloc | apply Kd.R_drewN | apply Kd.R_drew)); exact HO335.out))) (Kd.R_lt (by (with_reducible repeat (first | apply Kd.R_alloc | apply Kd.R_drewN | apply Kd.R_drew)); exact HO338.out))) (below_size (by repeat (first | (with_reducible first | exact HB.out | apply below_alloc | apply pw_below_drewN | apply below_drew1) | exact HB.out)))); have n8_ := Aside0.mk (below_step (by repeat (first | (with_reducible first | exact HB.out | apply below_alloc | apply pw_below_drewN | apply below_drew1) | exact HB.out)) hb); clear HO321; clear HO325; clear HO328; clear HO332; clear HO335; clear HO338; clear HB; have HO321 := n0_; have HO325 := n1_; have HO328 := n2_; have HO332 := n3_; have HO335 := n4_; have HO338 := n5_; have HO343 := n6_; have HO345 := n7_; have HB := n8_; clear n0_ n1_ n2_ n3_ n4_ n5_ n6_ n7_ n8_; (try clear hb); (try clear hb2); (try clear hk); (try clear hi); (try clear ho0); (try clear ho1)) | ((with_reducible refine gate_dst (N := 28) rfl ?_); (try (refine gate_guard (by rfl) ?_; dsimp only)); refine Kd.R_lit (Kd.int .u64) _ 36 ?hg (N := 28) ?hd (xs := ([1] : List Int)) (inner := [.int .u64 1]) (ok := fun _ => True) (okp := fun _ => True) ?hr ?hp (fun _ hk => hk) trivial (Below.refl _ _) (Nat.le_refl _) (by simp) ?_; (case hd => rfl); (case hg => rfl); (case hr => first | (go_simp; done) | (go_simp; rfl)); (case hp => exact (Reps.one (show Kd.M (Kd.int .u64) _ _ _ 1 [.int .u64 1] from rfl) (Reps.none _ _))); intro v347 w33 ho34 hb hg_ hnew_; clear hg_ hnew_; (first | rw [← Ny346.out] at ho34 | (simp only [Int.reduceToNat] at ho34; rw [← Ny346.out] at ho34)); have n0_ := Aside0.mk (Kd.R_elder' (by (with_reducible repeat (first | apply Kd.R_alloc | apply Kd.R_drewN | apply Kd.R_drew)); exact HO321.out) (Kd.R_base ho34) hb); have n1_ := Aside0.mk (Kd.R_elder' (by (with_reducible repeat (first | apply Kd.R_alloc | apply Kd.R_drewN | apply Kd.R_drew)); exact HO325.out) (Kd.R_base ho34) hb); have n2_ := Aside0.mk (Kd.R_elder' (by (with_reducible repeat (first | apply Kd.R_alloc | apply Kd.R_drewN | apply Kd.R_drew)); exact HO328.out) (Kd.R_base ho34) hb); have n3_ := Aside0.mk (Kd.R_elder' (by (with_reducible repeat (first | apply Kd.R_alloc | apply Kd.R_drewN | apply Kd.R_drew)); exact HO332.out) (Kd.R_base ho34) hb); have n4_ := Aside0.mk (Kd.R_elder' (by (with_reducible repeat (first | apply Kd.R_alloc | apply Kd.R_drewN | apply Kd.R_drew)); exact HO335.out) (Kd.R_base ho34) hb); have n5_ := Aside0.mk (Kd.R_elder' (by (with_reducible repeat (first | apply Kd.R_alloc | apply Kd.R_drewN | apply Kd.R_drew)); exact HO338.out) (Kd.R_base ho34) hb); have n6_ := Aside0.mk (Kd.R_elder' (by (with_reducible repeat (first | apply Kd.R_alloc | apply Kd.R_drewN | apply Kd.R_drew)); exact HO343.out) (Kd.R_base ho34) hb); have n7_ := Aside0.mk (Kd.R_elder' (by (with_reducible repeat (first | apply Kd.R_alloc | apply Kd.R_drewN | apply Kd.R_drew)); exact HO345.out) (Kd.R_base ho34) hb); have n8_ := Aside0.mk (Kd.R_lower (Kd.R_new' (Kd.R_new' (Kd.R_new' (Kd.R_new' (Kd.R_new' (Kd.R_new' (Kd.R_new' (Kd.R_new' ho34 (Kd.R_lt (by (with_reducible repeat (first | apply Kd.R_alloc | apply Kd.R_drewN | apply Kd.R_drew)); exact HO321.out))) (Kd.R_lt (by (with_reducible repeat (first | apply Kd.R_alloc | apply Kd.R_drewN | apply Kd.R_drew)); exact HO325.out))) (Kd.R_lt (by (with_reducible repeat (first | apply Kd.R_alloc | apply Kd.R_drewN | apply Kd.R_drew)); exact HO328.out))) (Kd.R_lt (by (with_reducible repeat (first | apply Kd.R_alloc | apply Kd.R_drewN | apply Kd.R_drew)); exact HO332.out))) (Kd.R_lt (by (with_reducible repeat (first | apply Kd.R_alloc | apply Kd.R_drewN | apply Kd.R_drew)); exact HO335.out))) (Kd.R_lt (by (with_reducible repeat (first | apply Kd.R_alloc | apply Kd.R_drewN | apply Kd.R_drew)); exact HO338.out))) (Kd.R_lt (by (with_reducible repeat (first | apply Kd.R_alloc | apply Kd.R_drewN | apply Kd.R_drew)); exact HO343.out))) (Kd.R_lt (by (with_reducible repeat (first | apply Kd.R_alloc | apply Kd.R_drewN | apply Kd.R_drew)); exact HO345.out))) (below_size (by repeat (first | (with_reducible first | exact HB.out | apply below_alloc | apply pw_below_drewN | apply below_drew1) | exact HB.out)))); have n9_ := Aside0.mk (below_step (by repeat (first | (with_reducible first | exact HB.out | apply below_alloc | apply pw_below_drewN | apply below_drew1) | exact HB.out)) hb); clear HO321; clear HO325; clear HO328; clear HO332; clear HO335; clear HO338; clear HO343; clear HO345; clear HB; have HO321 := n0_; have HO325 := n1_; have HO328 := n2_; have HO332 := n3_; have HO335 := n4_; have HO338 := n5_; have HO343 := n6_; have HO345 := n7_; have HO348 := n8_; have HB := n9_; clear n0_ n1_ n2_ n3_ n4_ n5_ n6_ n7_ n8_ n9_; clear hb ho34) | ((with_reducible refine gate_dst (N := 29) rfl ?_); (try (refine gate_guard (by rfl) ?_; dsimp only)); refine Kd.R_lit (Kd.int .u64) _ 36 ?hg (N := 29) ?hd (xs := ([2] : List Int)) (inner := [.int .u64 2]) (ok := fun _ => True) (okp := fun _ => True) ?hr ?hp (fun _ hk => hk) trivial (Below.refl _ _) (Nat.le_refl _) (by simp) ?_; (case hd => rfl); (case hg => rfl); (case hr => first | (go_simp; done) | (go_simp; rfl)); (case hp => exact (Reps.one (show Kd.M (Kd.int .u64) _ _ _ 2 [.int .u64 2] from rfl) (Reps.none _ _))); intro v350 w35 ho36 hb hg_ hnew_; clear hg_ hnew_; (first | rw [← Ny349.out] at ho36 | (simp only [Int.reduceToNat] at ho36; rw [← Ny349.out] at ho36)); have n0_ := Aside0.mk (Kd.R_elder' (by (with_reducible repeat (first | apply Kd.R_alloc | apply Kd.R_drewN | apply Kd.R_drew)); exact HO321.out) (Kd.R_base ho36) hb); have n1_ := Aside0.mk (Kd.R_elder' (by (with_reducible repeat (first | apply Kd.R_alloc | apply Kd.R_drewN | apply Kd.R_drew)); exact HO325.out) (Kd.R_base ho36) hb); have n2_ := Aside0.mk (Kd.R_elder' (by (with_reducible repeat (first | apply Kd.R_alloc | apply Kd.R_drewN | apply Kd.R_drew)); exact HO328.out) (Kd.R_base ho36) hb); have n3_ := Aside0.mk (Kd.R_elder' (by (with_reducible repeat (first | apply Kd.R_alloc | apply Kd.R_drewN | apply Kd.R_drew)); exact HO332.out) (Kd.R_base ho36) hb); have n4_ := Aside0.mk (Kd.R_elder' (by (with_reducible repeat (first | apply Kd.R_alloc | apply Kd.R_drewN | apply Kd.R_drew)); exact HO335.out) (Kd.R_base ho36) hb); have n5_ := Aside0.mk (Kd.R_elder' (by (with_reducible repeat (first | apply Kd.R_alloc | apply Kd.R_drewN | apply Kd.R_drew)); exact HO338.out) (Kd.R_base ho36) hb); have n6_ := Aside0.mk (Kd.R_elder' (by (with_reducible repeat (first | apply Kd.R_alloc | apply Kd.R_drewN | apply Kd.R_drew)); exact HO343.out) (Kd.R_base ho36) hb); have n7_ := Aside0.mk (Kd.R_elder' (by (with_reducible repeat (first | apply Kd.R_alloc | apply Kd.R_drewN | apply Kd.R_drew)); exact HO345.out) (Kd.R_base ho36) hb); have n8_ := Aside0.mk (Kd.R_elder' (by (with_reducible repeat (first | apply Kd.R_alloc | apply Kd.R_drewN | apply Kd.R_drew)); exact HO348.out) (Kd.R_base ho36) hb); have n9_ := Aside0.mk (Kd.R_lower (Kd.R_new' (Kd.R_new' (Kd.R_new' (Kd.R_new' (Kd.R_new' (Kd.R_new' (Kd.R_new' (Kd.R_new' (Kd.R_new' ho36 (Kd.R_lt (by (with_reducible repeat (first | apply Kd.R_alloc | apply Kd.R_drewN | apply Kd.R_drew)); exact HO321.out))) (Kd.R_lt (by (with_reducible repeat (first | apply Kd.R_alloc | apply Kd.R_drewN | apply Kd.R_drew)); exact HO325.out))) (Kd.R_lt (by (with_reducible repeat (first | apply Kd.R_alloc | apply Kd.R_drewN | apply Kd.R_drew)); exact HO328.out))) (Kd.R_lt (by (with_reducible repeat (first | apply Kd.R_alloc | apply Kd.R_drewN | apply Kd.R_drew)); exact HO332.out))) (Kd.R_lt (by (with_reducible repeat (first | apply Kd.R_alloc | apply Kd.R_drewN | apply Kd.R_drew)); exact HO335.out))) (Kd.R_lt (by (with_reducible repeat (first | apply Kd.R_alloc | apply Kd.R_drewN | apply Kd.R_drew)); exact HO338.out))) (Kd.R_lt (by (with_reducible repeat (first | apply Kd.R_alloc | apply Kd.R_drewN | apply Kd.R_drew)); exact HO343.out))) (Kd.R_lt (by (with_reducible repeat (first | apply Kd.R_alloc | apply Kd.R_drewN | apply Kd.R_drew)); exact HO345.out))) (Kd.R_lt (by (with_reducible repeat (first | apply Kd.R_alloc | apply Kd.R_drewN | apply Kd.R_drew)); exact HO348.out))) (below_size (by repeat (first | (with_reducible first | exact HB.out | apply below_alloc | apply pw_below_drewN | apply below_drew1) | exact HB.out)))); have n10_ := Aside0.mk (below_step (by repeat (first | (with_reducible first | exact HB.out | apply below_alloc | apply pw_below_drewN | apply below_drew1) | exact HB.out)) hb); clear HO321; clear HO325; clear HO328; clear HO332; clear HO335; clear HO338; clear HO343; clear HO345; clear HO348; clear HB; have HO321 := n0_; have HO325 := n1_; have HO328 := n2_; have HO332 := n3_; have HO335 := n4_; have HO338 := n5_; have HO343 := n6_; have HO345 := n7_; have HO348 := n8_; have HO351 := n9_; have HB := n10_; clear n0_ n1_ n2_ n3_ n4_ n5_ n6_ n7_ n8_ n9_ n10_; clear hb ho36; obtain ⟨Ao37, co37, eo37⟩ := Kd.R_slice HO348.out; subst eo37; obtain ⟨Ao38, co38, eo38⟩ := Kd.R_slice HO351.out; subst eo38) | ((with_reducible refine gate_callee (f := 37) rfl ?_); refine goesL_ (some 30) rfl rfl Tryd.func37 (by kernel_rfl) rfl #[.slice Ao37 y346.length co37, .slice Ao38 y349.length co38] rfl (by (try simp only [List.map_toArray, List.map_cons, List.map_nil]); first | done | rfl | (simp only [List.length_drop, List.length_take]; rfl)) ?_; (with_reducible refine (nat_Sub.calls _ _ y346 _ _ y349 t352 t353 _ ?side1 ?side2 ?side3 ?side4 A4.out).mono ?_); (case side1 => repeat (first | exact (Kd.R_reads' HO348.out).2.2 | (with_reducible refine Kd.C_alloc ?_ _) | (with_reducible refine Kd.C_drewN ?_ _) | (with_reducible refine Kd.C_drew ?_))); (case side2 => exact (Kd.R_reads' HO348.out).2.1); (case side3 => repeat (first | exact (Kd.R_reads' HO351.out).2.2 | (with_reducible refine Kd.C_alloc ?_ _) | (with_reducible refine Kd.C_drewN ?_ _) | (with_reducible refine Kd.C_drew ?_))); (case side4 => exact (Kd.R_reads' HO351.out).2.1); rintro e w39 ⟨v354, rfl, ho0, hb⟩; refine ⟨_, rfl, ?_⟩; have n0_ := Aside0.mk (Kd.R_elder' (by (with_reducible repeat (first | apply Kd.R_alloc | apply Kd.R_drewN | apply Kd.R_drew)); exact HO321.out) (Kd.R_base ho0) hb); have n1_ := Aside0.mk (Kd.R_elder' (by (with_reducible repeat (first | apply Kd.R_alloc | apply Kd.R_drewN | apply Kd.R_drew)); exact HO325.out) (Kd.R_base ho0) hb); have n2_ := Aside0.mk (Kd.R_elder' (by (with_reducible repeat (first | apply Kd.R_alloc | apply Kd.R_drewN | apply Kd.R_drew)); exact HO328.out) (Kd.R_base ho0) hb); have n3_ := Aside0.mk (Kd.R_elder' (by (with_reducible repeat (first | apply Kd.R_alloc | apply Kd.R_drewN | apply Kd.R_drew)); exact HO332.out) (Kd.R_base ho0) hb); have n4_ := Aside0.mk (Kd.R_elder' (by (with_reducible repeat (first | apply Kd.R_alloc | apply Kd.R_drewN | apply Kd.R_drew)); exact HO335.out) (Kd.R_base ho0) hb); have n5_ := Aside0.mk (Kd.R_elder' (by (with_reducible repeat (first | apply Kd.R_alloc | apply Kd.R_drewN | apply Kd.R_drew)); exact HO338.out) (Kd.R_base ho0) hb); have n6_ := Aside0.mk (Kd.R_elder' (by (with_reducible repeat (first | apply Kd.R_alloc | apply Kd.R_drewN | apply Kd.R_drew)); exact HO343.out) (Kd.R_base ho0) hb); have n7_ := Aside0.mk (Kd.R_elder' (by (with_reducible repeat (first | apply Kd.R_alloc | apply Kd.R_drewN | apply Kd.R_drew)); exact HO345.out) (Kd.R_base ho0) hb); have n8_ := Aside0.mk (Kd.R_elder' (by (with_reducible repeat (first | apply Kd.R_alloc | apply Kd.R_drewN | apply Kd.R_drew)); exact HO348.out) (Kd.R_base ho0) hb); have n9_ := Aside0.mk (Kd.R_elder' (by (with_reducible repeat (first | apply Kd.R_alloc | apply Kd.R_drewN | apply Kd.R_drew)); exact HO351.out) (Kd.R_base ho0) hb); have n10_ := Aside0.mk (Kd.R_lower (Kd.R_new' (Kd.R_new' (Kd.R_new' (Kd.R_new' (Kd.R_new' (Kd.R_new' (Kd.R_new' (Kd.R_new' (Kd.R_new' (Kd.R_new' ho0 (Kd.R_lt (by (with_reducible repeat (first | apply Kd.R_alloc | apply Kd.R_drewN | apply Kd.R_drew)); exact HO321.out))) (Kd.R_lt (by (with_reducible repeat (first | apply Kd.R_alloc | apply Kd.R_drewN | apply Kd.R_drew)); exact HO325.out))) (Kd.R_lt (by (with_reducible repeat (first | apply Kd.R_alloc | apply Kd.R_drewN | apply Kd.R_drew)); exact HO328.out))) (Kd.R_lt (by (with_reducible repeat (first | apply Kd.R_alloc | apply Kd.R_drewN | apply Kd.R_drew)); exact HO332.out))) (Kd.R_lt (by (with_reducible repeat (first | apply Kd.R_alloc | apply Kd.R_drewN | apply Kd.R_drew)); exact HO335.out))) (Kd.R_lt (by (with_reducible repeat (first | apply Kd.R_alloc | apply Kd.R_drewN | apply Kd.R_drew)); exact HO338.out))) (Kd.R_lt (by (with_reducible repeat (first | apply Kd.R_alloc | apply Kd.R_drewN | apply Kd.R_drew)); exact HO343.out))) (Kd.R_lt (by (with_reducible repeat (first | apply Kd.R_alloc | apply Kd.R_drewN | apply Kd.R_drew)); exact HO345.out))) (Kd.R_lt (by (with_reducible repeat (first | apply Kd.R_alloc | apply Kd.R_drewN | apply Kd.R_drew)); exact HO348.out))) (Kd.R_lt (by (with_reducible repeat (first | apply Kd.R_alloc | apply Kd.R_drewN | apply Kd.R_drew)); exact HO351.out))) (below_size (by repeat (first | (with_reducible first | exact HB.out | apply below_alloc | apply pw_below_drewN | apply below_drew1) | exact HB.out)))); have n11_ := Aside0.mk (below_step (by repeat (first | (with_reducible first | exact HB.out | apply below_alloc | apply pw_below_drewN | apply below_drew1) | exact HB.out)) hb); clear HO321; clear HO325; clear HO328; clear HO332; clear HO335; clear HO338; clear HO343; clear HO345; clear HO348; clear HO351; clear HB; have HO321 := n0_; have HO325 := n1_; have HO328 := n2_; have HO332 := n3_; have HO335 := n4_; have HO338 := n5_; have HO343 := n6_; have HO345 := n7_; have HO348 := n8_; have HO351 := n9_; have HO355 := n10_; have HB := n11_; clear n0_ n1_ n2_ n3_ n4_ n5_ n6_ n7_ n8_ n9_ n10_ n11_; (try clear hb); (try clear hb2); (try clear hk); (try clear hi); (try clear ho0)) | (go_at_call 51; (with_reducible refine (reckonerref02_Parse.calls k (⟨#[49, 48, 48, 48, 48, 48, 48, 48, 48, 48, 48, 48, 48, 48, 48, 48, 48, 48, 48, 48, 48]⟩ : ByteArray) t356 _ A6.out).mono ?_); rintro e w40 ⟨v357, rfl, ho0, hb⟩; have n0_ := Aside0.mk (Kd.R_elder' (by (with_reducible repeat (first | apply Kd.R_alloc | apply Kd.R_drewN | apply Kd.R_drew)); exact HO321.out) (Kd.R_base ho0) hb); have n1_ := Aside0.mk (Kd.R_elder' (by (with_reducible repeat (first | apply Kd.R_alloc | apply Kd.R_drewN | apply Kd.R_drew)); exact HO325.out) (Kd.R_base ho0) hb); have n2_ := Aside0.mk (Kd.R_elder' (by (with_reducible repeat (first | apply Kd.R_alloc | apply Kd.R_drewN | apply Kd.R_drew)); exact HO328.out) (Kd.R_base ho0) hb); have n3_ := Aside0.mk (Kd.R_elder' (by (with_reducible repeat (first | apply Kd.R_alloc | apply Kd.R_drewN | apply Kd.R_drew)); exact HO332.out) (Kd.R_base ho0) hb); have n4_ := Aside0.mk (Kd.R_elder' (by (with_reducible repeat (first | apply Kd.R_alloc | apply Kd.R_drewN | apply Kd.R_drew)); exact HO335.out) (Kd.R_base ho0) hb); have n5_ := Aside0.mk (Kd.R_elder' (by (with_reducible repeat (first | apply Kd.R_alloc | apply Kd.R_drewN | apply Kd.R_drew)); exact HO338.out) (Kd.R_base ho0) hb); have n6_ := Aside0.mk (Kd.R_elder' (by (with_reducible repeat (first | apply Kd.R_alloc | apply Kd.R_drewN | apply Kd.R_drew)); exact HO343.out) (Kd.R_base ho0) hb); have n7_ := Aside0.mk (Kd.R_elder' (by (with_reducible repeat (first | apply Kd.R_alloc | apply Kd.R_drewN | apply Kd.R_drew)); exact HO345.out) (Kd.R_base ho0) hb); have n8_ := Aside0.mk (Kd.R_elder' (by (with_reducible repeat (first | apply Kd.R_alloc | apply Kd.R_drewN | apply Kd.R_drew)); exact HO348.out) (Kd.R_base ho0) hb); have n9_ := Aside0.mk (Kd.R_elder' (by (with_reducible repeat (first | apply Kd.R_alloc | apply Kd.R_drewN | apply Kd.R_drew)); exact HO351.out) (Kd.R_base ho0) hb); have n10_ := Aside0.mk (Kd.R_elder' (by (with_reducible repeat (first | apply Kd.R_alloc | apply Kd.R_drewN | apply Kd.R_drew)); exact HO355.out) (Kd.R_base ho0) hb); have n11_ := Aside0.mk (Kd.R_lower (Kd.R_new' (Kd.R_new' (Kd.R_new' (Kd.R_new' (Kd.R_new' (Kd.R_new' (Kd.R_new' (Kd.R_new' (Kd.R_new' (Kd.R_new' (Kd.R_new' ho0 (Kd.R_lt (by (with_reducible repeat (first | apply Kd.R_alloc | apply Kd.R_drewN | apply Kd.R_drew)); exact HO321.out))) (Kd.R_lt (by (with_reducible repeat (first | apply Kd.R_alloc | apply Kd.R_drewN | apply Kd.R_drew)); exact HO325.out))) (Kd.R_lt (by (with_reducible repeat (first | apply Kd.R_alloc | apply Kd.R_drewN | apply Kd.R_drew)); exact HO328.out))) (Kd.R_lt (by (with_reducible repeat (first | apply Kd.R_alloc | apply Kd.R_drewN | apply Kd.R_drew)); exact HO332.out))) (Kd.R_lt (by (with_reducible repeat (first | apply Kd.R_alloc | apply Kd.R_drewN | apply Kd.R_drew)); exact HO335.out))) (Kd.R_lt (by (with_reducible repeat (first | apply Kd.R_alloc | apply Kd.R_drewN | apply Kd.R_drew)); exact HO338.out))) (Kd.R_lt (by (with_reducible repeat (first | apply Kd.R_alloc | apply Kd.R_drewN | apply Kd.R_drew)); exact HO343.out))) (Kd.R_lt (by (with_reducible repeat (first | apply Kd.R_alloc | apply Kd.R_drewN | apply Kd.R_drew)); exact HO345.out))) (Kd.R_lt (by (with_reducible repeat (first | apply Kd.R_alloc | apply Kd.R_drewN | apply Kd.R_drew)); exact HO348.out))) (Kd.R_lt (by (with_reducible repeat (first | apply Kd.R_alloc | apply Kd.R_drewN | apply Kd.R_drew)); exact HO351.out))) (Kd.R_lt (by (with_reducible repeat (first | apply Kd.R_alloc | apply Kd.R_drewN | apply Kd.R_drew)); exact HO355.out))) (below_size (by repeat (first | (with_reducible first | exact HB.out | apply below_alloc | apply pw_below_drewN | apply below_drew1) | exact HB.out)))); have n12_ := Aside0.mk (below_step (by repeat (first | (with_reducible first | exact HB.out | apply below_alloc | apply pw_below_drewN | apply below_drew1) | exact HB.out)) hb); clear HO321; clear HO325; clear HO328; clear HO332; clear HO335; clear HO338; clear HO343; clear HO345; clear HO348; clear HO351; clear HO355; clear HB; have HO321 := n0_; have HO325 := n1_; have HO328 := n2_; have HO332 := n3_; have HO335 := n4_; have HO338 := n5_; have HO343 := n6_; have HO345 := n7_; have HO348 := n8_; have HO351 := n9_; have HO355 := n10_; have HO358 := n11_; have HB := n12_; clear n0_ n1_ n2_ n3_ n4_ n5_ n6_ n7_ n8_ n9_ n10_ n11_ n12_; (try clear hb); (try clear hb2); (try clear hk); (try clear hi); (try clear ho0); obtain ⟨Ao41, co41, eo41⟩ := Kd.R_slice HO325.out; subst eo41; obtain ⟨Ao42, co42, eo42⟩ := Kd.R_slice HO358.out; subst eo42) | (go_at_call 12; (with_reducible refine (reckonerref02_Is.calls k _ _ t322 _ _ t356 true _ ?side1 ?side2 ?side3 ?side4 A7.out).mono ?_); (case side1 => repeat (first | exact (Kd.R_reads' HO325.out).2.2 | (with_reducible refine Kd.C_alloc ?_ _) | (with_reducible refine Kd.C_drewN ?_ _) | (with_reducible refine Kd.C_drew ?_))); (case side2 => exact (Kd.R_reads' HO325.out).2.1); (case side3 => repeat (first | exact (Kd.R_reads' HO358.out).2.2 | (with_reducible refine Kd.C_alloc ?_ _) | (with_reducible refine Kd.C_drewN ?_ _) | (with_reducible refine Kd.C_drew ?_))); (case side4 => exact (Kd.R_reads' HO358.out).2.1); rintro e w43 ⟨rfl, hb⟩; have n0_ := Aside0.mk (Kd.R_below (by (with_reducible repeat (first | apply Kd.R_alloc | apply Kd.R_drewN | apply Kd.R_drew)); exact HO321.out) hb); have n1_ := Aside0.mk (Kd.R_below (by (with_reducible repeat (first | apply Kd.R_alloc | apply Kd.R_drewN | apply Kd.R_drew)); exact HO325.out) hb); have n2_ := Aside0.mk (Kd.R_below (by (with_reducible repeat (first | apply Kd.R_alloc | apply Kd.R_drewN | apply Kd.R_drew)); exact HO328.out) hb); have n3_ := Aside0.mk (Kd.R_below (by (with_reducible repeat (first | apply Kd.R_alloc | apply Kd.R_drewN | apply Kd.R_drew)); exact HO332.out) hb); have n4_ := Aside0.mk (Kd.R_below (by (with_reducible repeat (first | apply Kd.R_alloc | apply Kd.R_drewN | apply Kd.R_drew)); exact HO335.out) hb); have n5_ := Aside0.mk (Kd.R_below (by (with_reducible repeat (first | apply Kd.R_alloc | apply Kd.R_drewN | apply Kd.R_drew)); exact HO338.out) hb); have n6_ := Aside0.mk (Kd.R_below (by (with_reducible repeat (first | apply Kd.R_alloc | apply Kd.R_drewN | apply Kd.R_drew)); exact HO343.out) hb); have n7_ := Aside0.mk (Kd.R_below (by (with_reducible repeat (first | apply Kd.R_alloc | apply Kd.R_drewN | apply Kd.R_drew)); exact HO345.out) hb); have n8_ := Aside0.mk (Kd.R_below (by (with_reducible repeat (first | apply Kd.R_alloc | apply Kd.R_drewN | apply Kd.R_drew)); exact HO348.out) hb); have n9_ := Aside0.mk (Kd.R_below (by (with_reducible repeat (first | apply Kd.R_alloc | apply Kd.R_drewN | apply Kd.R_drew)); exact HO351.out) hb); have n10_ := Aside0.mk (Kd.R_below (by (with_reducible repeat (first | apply Kd.R_alloc | apply Kd.R_drewN | apply Kd.R_drew)); exact HO355.out) hb); have n11_ := Aside0.mk (Kd.R_below (by (with_reducible repeat (first | apply Kd.R_alloc | apply Kd.R_drewN | apply Kd.R_drew)); exact HO358.out) hb); have n12_ := Aside0.mk (below_step (by repeat (first | (with_reducible first | exact HB.out | apply below_alloc | apply pw_below_drewN | apply below_drew1) | exact HB.out)) hb); clear HO321; clear HO325; clear HO328; clear HO332; clear HO335; clear HO338; clear HO343; clear HO345; clear HO348; clear HO351; clear HO355; clear HO358; clear HB; have HO321 := n0_; have HO325 := n1_; have HO328 := n2_; have HO332 := n3_; have HO335 := n4_; have HO338 := n5_; have HO343 := n6_; have HO345 := n7_; have HO348 := n8_; have HO351 := n9_; have HO355 := n10_; have HO358 := n11_; have HB := n12_; clear n0_ n1_ n2_ n3_ n4_ n5_ n6_ n7_ n8_ n9_ n10_ n11_ n12_; (try clear hb); (try clear hb2); (try clear hk); (try clear hi)) | ((with_reducible refine gate_dst (N := 46) rfl ?_); (try (refine gate_guard (by rfl) ?_; dsimp only)); refine Kd.R_lit (Kd.int .u64) _ 36 ?hg (N := 46) ?hd (xs := ([1, 18446744073709551614] : List Int)) (inner := [.int .u64 1, .int .u64 18446744073709551614]) (ok := fun _ => True) (okp := fun _ => True) ?hr ?hp (fun _ hk => hk) trivial (Below.refl _ _) (Nat.le_refl _) (by simp) ?_; (case hd => rfl); (case hg => rfl); (case hr => first | (go_simp; done) | (go_simp; rfl)); (case hp => exact (Reps.one (show Kd.M (Kd.int .u64) _ _ _ 1 [.int .u64 1] from rfl) (Reps.one (show Kd.M (Kd.int .u64) _ _ _ 18446744073709551614 [.int .u64 18446744073709551614] from rfl) (Reps.none _ _)))); intro v361 w44 ho45 hb hg_ hnew_; clear hg_ hnew_; (first | rw [← Ny360.out] at ho45 | (simp only [Int.reduceToNat] at ho45; rw [← Ny360.out] at ho45)); have n0_ := Aside0.mk (Kd.R_elder' (by (with_reducible repeat (first | apply Kd.R_alloc | apply Kd.R_drewN | apply Kd.R_drew)); exact HO321.out) (Kd.R_base ho45) hb); have n1_ := Aside0.mk (Kd.R_elder' (by (with_reducible repeat (first | apply Kd.R_alloc | apply Kd.R_drewN | apply Kd.R_drew)); exact HO325.out) (Kd.R_base ho45) hb); have n2_ := Aside0.mk (Kd.R_elder' (by (with_reducible repeat (first | apply Kd.R_alloc | apply Kd.R_drewN | apply Kd.R_drew)); exact HO328.out) (Kd.R_base ho45) hb); have n3_ := Aside0.mk (Kd.R_elder' (by (with_reducible repeat (first | apply Kd.R_alloc | apply Kd.R_drewN | apply Kd.R_drew)); exact HO332.out) (Kd.R_base ho45) hb); have n4_ := Aside0.mk (Kd.R_elder' (by (with_reducible repeat (first | apply Kd.R_alloc | apply Kd.R_drewN | apply Kd.R_drew)); exact HO335.out) (Kd.R_base ho45) hb); have n5_ := Aside0.mk (Kd.R_elder' (by (with_reducible repeat (first | apply Kd.R_alloc | apply Kd.R_drewN | apply Kd.R_drew)); exact HO338.out) (Kd.R_base ho45) hb); have n6_ := Aside0.mk (Kd.R_elder' (by (with_reducible repeat (first | apply Kd.R_alloc | apply Kd.R_drewN | apply Kd.R_drew)); exact HO343.out) (Kd.R_base ho45) hb); have n7_ := Aside0.mk (Kd.R_elder' (by (with_reducible repeat (first | apply Kd.R_alloc | apply Kd.R_drewN | apply Kd.R_drew)); exact HO345.out) (Kd.R_base ho45) hb); have n8_ := Aside0.mk (Kd.R_elder' (by (with_reducible repeat (first | apply Kd.R_alloc | apply Kd.R_drewN | apply Kd.R_drew)); exact HO348.out) (Kd.R_base ho45) hb); have n9_ := Aside0.mk (Kd.R_elder' (by (with_reducible repeat (first | apply Kd.R_alloc | apply Kd.R_drewN | apply Kd.R_drew)); exact HO351.out) (Kd.R_base ho45) hb); have n10_ := Aside0.mk (Kd.R_elder' (by (with_reducible repeat (first | apply Kd.R_alloc | apply Kd.R_drewN | apply Kd.R_drew)); exact HO355.out) (Kd.R_base ho45) hb); have n11_ := Aside0.mk (Kd.R_elder' (by (with_reducible repeat (first | apply Kd.R_alloc | apply Kd.R_drewN | apply Kd.R_drew)); exact HO358.out) (Kd.R_base ho45) hb); have n12_ := Aside0.mk (Kd.R_lower (Kd.R_new' (Kd.R_new' (Kd.R_new' (Kd.R_new' (Kd.R_new' (Kd.R_new' (Kd.R_new' (Kd.R_new' (Kd.R_new' (Kd.R_new' (Kd.R_new' (Kd.R_new' ho45 (Kd.R_lt (by (with_reducible repeat (first | apply Kd.R_alloc | apply Kd.R_drewN | apply Kd.R_drew)); exact HO321.out))) (Kd.R_lt (by (with_reducible repeat (first | apply Kd.R_alloc | apply Kd.R_drewN | apply Kd.R_drew)); exact HO325.out))) (Kd.R_lt (by (with_reducible repeat (first | apply Kd.R_alloc | apply Kd.R_drewN | apply Kd.R_drew)); exact HO328.out))) (Kd.R_lt (by (with_reducible repeat (first | apply Kd.R_alloc | apply Kd.R_drewN | apply Kd.R_drew)); exact HO332.out))) (Kd.R_lt (by (with_reducible repeat (first | apply Kd.R_alloc | apply Kd.R_drewN | apply Kd.R_drew)); exact HO335.out))) (Kd.R_lt (by (with_reducible repeat (first | apply Kd.R_alloc | apply Kd.R_drewN | apply Kd.R_drew)); exact HO338.out))) (Kd.R_lt (by (with_reducible repeat (first | apply Kd.R_alloc | apply Kd.R_drewN | apply Kd.R_drew)); exact HO343.out))) (Kd.R_lt (by (with_reducible repeat (first | apply Kd.R_alloc | apply Kd.R_drewN | apply Kd.R_drew)); exact HO345.out))) (Kd.R_lt (by (with_reducible repeat (first | apply Kd.R_alloc | apply Kd.R_drewN | apply Kd.R_drew)); exact HO348.out))) (Kd.R_lt (by (with_reducible repeat (first | apply Kd.R_alloc | apply Kd.R_drewN | apply Kd.R_drew)); exact HO351.out))) (Kd.R_lt (by (with_reducible repeat (first | apply Kd.R_alloc | apply Kd.R_drewN | apply Kd.R_drew)); exact HO355.out))) (Kd.R_lt (by (with_reducible repeat (first | apply Kd.R_alloc | apply Kd.R_drewN | apply Kd.R_drew)); exact HO358.out))) (below_size (by repeat (first | (with_reducible first | exact HB.out | apply below_alloc | apply pw_below_drewN | apply below_drew1) | exact HB.out)))); have n13_ := Aside0.mk (below_step (by repeat (first | (with_reducible first | exact HB.out | apply below_alloc | apply pw_below_drewN | apply below_drew1) | exact HB.out)) hb); clear HO321; clear HO325; clear HO328; clear HO332; clear HO335; clear HO338; clear HO343; clear HO345; clear HO348; clear HO351; clear HO355; clear HO358; clear HB; have HO321 := n0_; have HO325 := n1_; have HO328 := n2_; have HO332 := n3_; have HO335 := n4_; have HO338 := n5_; have HO343 := n6_; have HO345 := n7_; have HO348 := n8_; have HO351 := n9_; have HO355 := n10_; have HO358 := n11_; have HO362 := n12_; have HB := n13_; clear n0_ n1_ n2_ n3_ n4_ n5_ n6_ n7_ n8_ n9_ n10_ n11_ n12_ n13_; clear hb ho45; obtain ⟨Ao46, co46, eo46⟩ := Kd.R_slice HO332.out; subst eo46; obtain ⟨Ao47, co47, eo47⟩ := Kd.R_slice HO362.out; subst eo47) | (go_at_call 12; (with_reducible refine (reckonerref02_Is.calls k _ _ t329 _ _ y360 true _ ?side1 ?side2 ?side3 ?side4 A10.out).mono ?_); (case side1 => repeat (first | exact (Kd.R_reads' HO332.out).2.2 | (with_reducible refine Kd.C_alloc ?_ _) | (with_reducible refine Kd.C_drewN ?_ _) | (with_reducible refine Kd.C_drew ?_))); (case side2 => exact (Kd.R_reads' HO332.out).2.1); (case side3 => repeat (first | exact (Kd.R_reads' HO362.out).2.2 | (with_reducible refine Kd.C_alloc ?_ _) | (with_reducible refine Kd.C_drewN ?_ _) | (with_reducible refine Kd.C_drew ?_))); (case side4 => exact (Kd.R_reads' HO362.out).2.1); rintro e w48 ⟨rfl, hb⟩; have n0_ := Aside0.mk (Kd.R_below (by (with_reducible repeat (first | apply Kd.R_alloc | apply Kd.R_drewN | apply Kd.R_drew)); exact HO321.out) hb); have n1_ := Aside0.mk (Kd.R_below (by (with_reducible repeat (first | apply Kd.R_alloc | apply Kd.R_drewN | apply Kd.R_drew)); exact HO325.out) hb); have n2_ := Aside0.mk (Kd.R_below (by (with_reducible repeat (first | apply Kd.R_alloc | apply Kd.R_drewN | apply Kd.R_drew)); exact HO328.out) hb); have n3_ := Aside0.mk (Kd.R_below (by (with_reducible repeat (first | apply Kd.R_alloc | apply Kd.R_drewN | apply Kd.R_drew)); exact HO332.out) hb); have n4_ := Aside0.mk (Kd.R_below (by (with_reducible repeat (first | apply Kd.R_alloc | apply Kd.R_drewN | apply Kd.R_drew)); exact HO335.out) hb); have n5_ := Aside0.mk (Kd.R_below (by (with_reducible repeat (first | apply Kd.R_alloc | apply Kd.R_drewN | apply Kd.R_drew)); exact HO338.out) hb); have n6_ := Aside0.mk (Kd.R_below (by (with_reducible repeat (first | apply Kd.R_alloc | apply Kd.R_drewN | apply Kd.R_drew)); exact HO343.out) hb); have n7_ := Aside0.mk (Kd.R_below (by (with_reducible repeat (first | apply Kd.R_alloc | apply Kd.R_drewN | apply Kd.R_drew)); exact HO345.out) hb); have n8_ := Aside0.mk (Kd.R_below (by (with_reducible repeat (first | apply Kd.R_alloc | apply Kd.R_drewN | apply Kd.R_drew)); exact HO348.out) hb); have n9_ := Aside0.mk (Kd.R_below (by (with_reducible repeat (first | apply Kd.R_alloc | apply Kd.R_drewN | apply Kd.R_drew)); exact HO351.out) hb); have n10_ := Aside0.mk (Kd.R_below (by (with_reducible repeat (first | apply Kd.R_alloc | apply Kd.R_drewN | apply Kd.R_drew)); exact HO355.out) hb); have n11_ := Aside0.mk (Kd.R_below (by (with_reducible repeat (first | apply Kd.R_alloc | apply Kd.R_drewN | apply Kd.R_drew)); exact HO358.out) hb); have n12_ := Aside0.mk (Kd.R_below (by (with_reducible repeat (first | apply Kd.R_alloc | apply Kd.R_drewN | apply Kd.R_drew)); exact HO362.out) hb); have n13_ := Aside0.mk (below_step (by repeat (first | (with_reducible first | exact HB.out | apply below_alloc | apply pw_below_drewN | apply below_drew1) | exact HB.out)) hb); clear HO321; clear HO325; clear HO328; clear HO332; clear HO335; clear HO338; clear HO343; clear HO345; clear HO348; clear HO351; clear HO355; clear HO358; clear HO362; clear HB; have HO321 := n0_; have HO325 := n1_; have HO328 := n2_; have HO332 := n3_; have HO335 := n4_; have HO338 := n5_; have HO343 := n6_; have HO345 := n7_; have HO348 := n8_; have HO351 := n9_; have HO355 := n10_; have HO358 := n11_; have HO362 := n12_; have HB := n13_; clear n0_ n1_ n2_ n3_ n4_ n5_ n6_ n7_ n8_ n9_ n10_ n11_ n12_ n13_; (try clear hb); (try clear hb2); (try clear hk); (try clear hi)) | (go_at_call 51; (with_reducible refine (reckonerref02_Parse.calls k (⟨#[51, 51, 51, 51, 51, 51, 51, 51, 51, 51, 51, 51, 51, 51, 51, 51, 51, 51, 51, 51]⟩ : ByteArray) t364 _ A13.out).mono ?_); rintro e w49 ⟨v365, rfl, ho0, hb⟩; have n0_ := Aside0.mk (Kd.R_elder' (by (with_reducible repeat (first | apply Kd.R_alloc | apply Kd.R_drewN | apply Kd.R_drew)); exact HO321.out) (Kd.R_base ho0) hb); have n1_ := Aside0.mk (Kd.R_elder' (by (with_reducible repeat (first | apply Kd.R_alloc | apply Kd.R_drewN | apply Kd.R_drew)); exact HO325.out) (Kd.R_base ho0) hb); have n2_ := Aside0.mk (Kd.R_elder' (by (with_reducible repeat (first | apply Kd.R_alloc | apply Kd.R_drewN | apply Kd.R_drew)); exact HO328.out) (Kd.R_base ho0) hb); have n3_ := Aside0.mk (Kd.R_elder' (by (with_reducible repeat (first | apply Kd.R_alloc | apply Kd.R_drewN | apply Kd.R_drew)); exact HO332.out) (Kd.R_base ho0) hb); have n4_ := Aside0.mk (Kd.R_elder' (by (with_reducible repeat (first | apply Kd.R_alloc | apply Kd.R_drewN | apply Kd.R_drew)); exact HO335.out) (Kd.R_base ho0) hb); have n5_ := Aside0.mk (Kd.R_elder' (by (with_reducible repeat (first | apply Kd.R_alloc | apply Kd.R_drewN | apply Kd.R_drew)); exact HO338.out) (Kd.R_base ho0) hb); have n6_ := Aside0.mk (Kd.R_elder' (by (with_reducible repeat (first | apply Kd.R_alloc | apply Kd.R_drewN | apply Kd.R_drew)); exact HO343.out) (Kd.R_base ho0) hb); have n7_ := Aside0.mk (Kd.R_elder' (by (with_reducible repeat (first | apply Kd.R_alloc | apply Kd.R_drewN | apply Kd.R_drew)); exact HO345.out) (Kd.R_base ho0) hb); have n8_ := Aside0.mk (Kd.R_elder' (by (with_reducible repeat (first | apply Kd.R_alloc | apply Kd.R_drewN | apply Kd.R_drew)); exact HO348.out) (Kd.R_base ho0) hb); have n9_ := Aside0.mk (Kd.R_elder' (by (with_reducible repeat (first | apply Kd.R_alloc | apply Kd.R_drewN | apply Kd.R_drew)); exact HO351.out) (Kd.R_base ho0) hb); have n10_ := Aside0.mk (Kd.R_elder' (by (with_reducible repeat (first | apply Kd.R_alloc | apply Kd.R_drewN | apply Kd.R_drew)); exact HO355.out) (Kd.R_base ho0) hb); have n11_ := Aside0.mk (Kd.R_elder' (by (with_reducible repeat (first | apply Kd.R_alloc | apply Kd.R_drewN | apply Kd.R_drew)); exact HO358.out) (Kd.R_base ho0) hb); have n12_ := Aside0.mk (Kd.R_elder' (by (with_reducible repeat (first | apply Kd.R_alloc | apply Kd.R_drewN | apply Kd.R_drew)); exact HO362.out) (Kd.R_base ho0) hb); have n13_ := Aside0.mk (Kd.R_lower (Kd.R_new' (Kd.R_new' (Kd.R_new' (Kd.R_new' (Kd.R_new' (Kd.R_new' (Kd.R_new' (Kd.R_new' (Kd.R_new' (Kd.R_new' (Kd.R_new' (Kd.R_new' (Kd.R_new' ho0 (Kd.R_lt (by (with_reducible repeat (first | apply Kd.R_alloc | apply Kd.R_drewN | apply Kd.R_drew)); exact HO321.out))) (Kd.R_lt (by (with_reducible repeat (first | apply Kd.R_alloc | apply Kd.R_drewN | apply Kd.R_drew)); exact HO325.out))) (Kd.R_lt (by (with_reducible repeat (first | apply Kd.R_alloc | apply Kd.R_drewN | apply Kd.R_drew)); exact HO328.out))) (Kd.R_lt (by (with_reducible repeat (first | apply Kd.R_alloc | apply Kd.R_drewN | apply Kd.R_drew)); exact HO332.out))) (Kd.R_lt (by (with_reducible repeat (first | apply Kd.R_alloc | apply Kd.R_drewN | apply Kd.R_drew)); exact HO335.out))) (Kd.R_lt (by (with_reducible repeat (first | apply Kd.R_alloc | apply Kd.R_drewN | apply Kd.R_drew)); exact HO338.out))) (Kd.R_lt (by (with_reducible repeat (first | apply Kd.R_alloc | apply Kd.R_drewN | apply Kd.R_drew)); exact HO343.out))) (Kd.R_lt (by (with_reducible repeat (first | apply Kd.R_alloc | apply Kd.R_drewN | apply Kd.R_drew)); exact HO345.out))) (Kd.R_lt (by (with_reducible repeat (first | apply Kd.R_alloc | apply Kd.R_drewN | apply Kd.R_drew)); exact HO348.out))) (Kd.R_lt (by (with_reducible repeat (first | apply Kd.R_alloc | apply Kd.R_drewN | apply Kd.R_drew)); exact HO351.out))) (Kd.R_lt (by (with_reducible repeat (first | apply Kd.R_alloc | apply Kd.R_drewN | apply Kd.R_drew)); exact HO355.out))) (Kd.R_lt (by (with_reducible repeat (first | apply Kd.R_alloc | apply Kd.R_drewN | apply Kd.R_drew)); exact HO358.out))) (Kd.R_lt (by (with_reducible repeat (first | apply Kd.R_alloc | apply Kd.R_drewN | apply Kd.R_drew)); exact HO362.out))) (below_size (by repeat (first | (with_reducible first | exact HB.out | apply below_alloc | apply pw_below_drewN | apply below_drew1) | exact HB.out)))); have n14_ := Aside0.mk (below_step (by repeat (first | (with_reducible first | exact HB.out | apply below_alloc | apply pw_below_drewN | apply below_drew1) | exact HB.out)) hb); clear HO321; clear HO325; clear HO328; clear HO332; clear HO335; clear HO338; clear HO343; clear HO345; clear HO348; clear HO351; clear HO355; clear HO358; clear HO362; clear HB; have HO321 := n0_; have HO325 := n1_; have HO328 := n2_; have HO332 := n3_; have HO335 := n4_; have HO338 := n5_; have HO343 := n6_; have HO345 := n7_; have HO348 := n8_; have HO351 := n9_; have HO355 := n10_; have HO358 := n11_; have HO362 := n12_; have HO366 := n13_; have HB := n14_; clear n0_ n1_ n2_ n3_ n4_ n5_ n6_ n7_ n8_ n9_ n10_ n11_ n12_ n13_ n14_; (try clear hb); (try clear hb2); (try clear hk); (try clear hi); (try clear ho0); obtain ⟨Ao50, co50, eo50⟩ := Kd.R_slice HO343.out; subst eo50; obtain ⟨Ao51, co51, eo51⟩ := Kd.R_slice HO366.out; subst eo51) | (go_at_call 12; (with_reducible refine (reckonerref02_Is.calls k _ _ t339 _ _ t364 true _ ?side1 ?side2 ?side3 ?side4 A14.out).mono ?_); (case side1 => repeat (first | exact (Kd.R_reads' HO343.out).2.2 | (with_reducible refine Kd.C_alloc ?_ _) | (with_reducible refine Kd.C_drewN ?_ _) | (with_reducible refine Kd.C_drew ?_))); (case side2 => exact (Kd.R_reads' HO343.out).2.1); (case side3 => repeat (first | exact (Kd.R_reads' HO366.out).2.2 | (with_reducible refine Kd.C_alloc ?_ _) | (with_reducible refine Kd.C_drewN ?_ _) | (with_reducible refine Kd.C_drew ?_))); (case side4 => exact (Kd.R_reads' HO366.out).2.1); rintro e w52 ⟨rfl, hb⟩; have n0_ := Aside0.mk (Kd.R_below (by (with_reducible repeat (first | apply Kd.R_alloc | apply Kd.R_drewN | apply Kd.R_drew)); exact HO321.out) hb); have n1_ := Aside0.mk (Kd.R_below (by (with_reducible repeat (first | apply Kd.R_alloc | apply Kd.R_drewN | apply Kd.R_drew)); exact HO325.out) hb); have n2_ := Aside0.mk (Kd.R_below (by (with_reducible repeat (first | apply Kd.R_alloc | apply Kd.R_drewN | apply Kd.R_drew)); exact HO328.out) hb); have n3_ := Aside0.mk (Kd.R_below (by (with_reducible repeat (first | apply Kd.R_alloc | apply Kd.R_drewN | apply Kd.R_drew)); exact HO332.out) hb); have n4_ := Aside0.mk (Kd.R_below (by (with_reducible repeat (first | apply Kd.R_alloc | apply Kd.R_drewN | apply Kd.R_drew)); exact HO335.out) hb); have n5_ := Aside0.mk (Kd.R_below (by (with_reducible repeat (first | apply Kd.R_alloc | apply Kd.R_drewN | apply Kd.R_drew)); exact HO338.out) hb); have n6_ := Aside0.mk (Kd.R_below (by (with_reducible repeat (first | apply Kd.R_alloc | apply Kd.R_drewN | apply Kd.R_drew)); exact HO343.out) hb); have n7_ := Aside0.mk (Kd.R_below (by (with_reducible repeat (first | apply Kd.R_alloc | apply Kd.R_drewN | apply Kd.R_drew)); exact HO345.out) hb); have n8_ := Aside0.mk (Kd.R_below (by (with_reducible repeat (first | apply Kd.R_alloc | apply Kd.R_drewN | apply Kd.R_drew)); exact HO348.out) hb); have n9_ := Aside0.mk (Kd.R_below (by (with_reducible repeat (first | apply Kd.R_alloc | apply Kd.R_drewN | apply Kd.R_drew)); exact HO351.out) hb); have n10_ := Aside0.mk (Kd.R_below (by (with_reducible repeat (first | apply Kd.R_alloc | apply Kd.R_drewN | apply Kd.R_drew)); exact HO355.out) hb); have n11_ := Aside0.mk (Kd.R_below (by (with_reducible repeat (first | apply Kd.R_alloc | apply Kd.R_drewN | apply Kd.R_drew)); exact HO358.out) hb); have n12_ := Aside0.mk (Kd.R_below (by (with_reducible repeat (first | apply Kd.R_alloc | apply Kd.R_drewN | apply Kd.R_drew)); exact HO362.out) hb); have n13_ := Aside0.mk (Kd.R_below (by (with_reducible repeat (first | apply Kd.R_alloc | apply Kd.R_drewN | apply Kd.R_drew)); exact HO366.out) hb); have n14_ := Aside0.mk (below_step (by repeat (first | (with_reducible first | exact HB.out | apply below_alloc | apply pw_below_drewN | apply below_drew1) | exact HB.out)) hb); clear HO321; clear HO325; clear HO328; clear HO332; clear HO335; clear HO338; clear HO343; clear HO345; clear HO348; clear HO351; clear HO355; clear HO358; clear HO362; clear HO366; clear HB; have HO321 := n0_; have HO325 := n1_; have HO328 := n2_; have HO332 := n3_; have HO335 := n4_; have HO338 := n5_; have HO343 := n6_; have HO345 := n7_; have HO348 := n8_; have HO351 := n9_; have HO355 := n10_; have HO358 := n11_; have HO362 := n12_; have HO366 := n13_; have HB := n14_; clear n0_ n1_ n2_ n3_ n4_ n5_ n6_ n7_ n8_ n9_ n10_ n11_ n12_ n13_ n14_; (try clear hb); (try clear hb2); (try clear hk); (try clear hi)) | ((with_reducible refine gate_dst (N := 60) rfl ?_); (try (refine gate_guard (by rfl) ?_; dsimp only)); refine Kd.R_lit (Kd.int .u64) _ 36 ?hg (N := 60) ?hd (xs := ([1] : List Int)) (inner := [.int .u64 1]) (ok := fun _ => True) (okp := fun _ => True) ?hr ?hp (fun _ hk => hk) trivial (Below.refl _ _) (Nat.le_refl _) (by simp) ?_; (case hd => rfl); (case hg => rfl); (case hr => first | (go_simp; done) | (go_simp; rfl)); (case hp => exact (Reps.one (show Kd.M (Kd.int .u64) _ _ _ 1 [.int .u64 1] from rfl) (Reps.none _ _))); intro v369 w53 ho54 hb hg_ hnew_; clear hg_ hnew_; (first | rw [← Ny368.out] at ho54 | (simp only [Int.reduceToNat] at ho54; rw [← Ny368.out] at ho54)); have n0_ := Aside0.mk (Kd.R_elder' (by (with_reducible repeat (first | apply Kd.R_alloc | apply Kd.R_drewN | apply Kd.R_drew)); exact HO321.out) (Kd.R_base ho54) hb); have n1_ := Aside0.mk (Kd.R_elder' (by (with_reducible repeat (first | apply Kd.R_alloc | apply Kd.R_drewN | apply Kd.R_drew)); exact HO325.out) (Kd.R_base ho54) hb); have n2_ := Aside0.mk (Kd.R_elder' (by (with_reducible repeat (first | apply Kd.R_alloc | apply Kd.R_drewN | apply Kd.R_drew)); exact HO328.out) (Kd.R_base ho54) hb); have n3_ := Aside0.mk (Kd.R_elder' (by (with_reducible repeat (first | apply Kd.R_alloc | apply Kd.R_drewN | apply Kd.R_drew)); exact HO332.out) (Kd.R_base ho54) hb); have n4_ := Aside0.mk (Kd.R_elder' (by (with_reducible repeat (first | apply Kd.R_alloc | apply Kd.R_drewN | apply Kd.R_drew)); exact HO335.out) (Kd.R_base ho54) hb); have n5_ := Aside0.mk (Kd.R_elder' (by (with_reducible repeat (first | apply Kd.R_alloc | apply Kd.R_drewN | apply Kd.R_drew)); exact HO338.out) (Kd.R_base ho54) hb); have n6_ := Aside0.mk (Kd.R_elder' (by (with_reducible repeat (first | apply Kd.R_alloc | apply Kd.R_drewN | apply Kd.R_drew)); exact HO343.out) (Kd.R_base ho54) hb); have n7_ := Aside0.mk (Kd.R_elder' (by (with_reducible repeat (first | apply Kd.R_alloc | apply Kd.R_drewN | apply Kd.R_drew)); exact HO345.out) (Kd.R_base ho54) hb); have n8_ := Aside0.mk (Kd.R_elder' (by (with_reducible repeat (first | apply Kd.R_alloc | apply Kd.R_drewN | apply Kd.R_drew)); exact HO348.out) (Kd.R_base ho54) hb); have n9_ := Aside0.mk (Kd.R_elder' (by (with_reducible repeat (first | apply Kd.R_alloc | apply Kd.R_drewN | apply Kd.R_drew)); exact HO351.out) (Kd.R_base ho54) hb); have n10_ := Aside0.mk (Kd.R_elder' (by (with_reducible repeat (first | apply Kd.R_alloc | apply Kd.R_drewN | apply Kd.R_drew)); exact HO355.out) (Kd.R_base ho54) hb); have n11_ := Aside0.mk (Kd.R_elder' (by (with_reducible repeat (first | apply Kd.R_alloc | apply Kd.R_drewN | apply Kd.R_drew)); exact HO358.out) (Kd.R_base ho54) hb); have n12_ := Aside0.mk (Kd.R_elder' (by (with_reducible repeat (first | apply Kd.R_alloc | apply Kd.R_drewN | apply Kd.R_drew)); exact HO362.out) (Kd.R_base ho54) hb); have n13_ := Aside0.mk (Kd.R_elder' (by (with_reducible repeat (first | apply Kd.R_alloc | apply Kd.R_drewN | apply Kd.R_drew)); exact HO366.out) (Kd.R_base ho54) hb); have n14_ := Aside0.mk (Kd.R_lower (Kd.R_new' (Kd.R_new' (Kd.R_new' (Kd.R_new' (Kd.R_new' (Kd.R_new' (Kd.R_new' (Kd.R_new' (Kd.R_new' (Kd.R_new' (Kd.R_new' (Kd.R_new' (Kd.R_new' (Kd.R_new' ho54 (Kd.R_lt (by (with_reducible repeat (first | apply Kd.R_alloc | apply Kd.R_drewN | apply Kd.R_drew)); exact HO321.out))) (Kd.R_lt (by (with_reducible repeat (first | apply Kd.R_alloc | apply Kd.R_drewN | apply Kd.R_drew)); exact HO325.out))) (Kd.R_lt (by (with_reducible repeat (first | apply Kd.R_alloc | apply Kd.R_drewN | apply Kd.R_drew)); exact HO328.out))) (Kd.R_lt (by (with_reducible repeat (first | apply Kd.R_alloc | apply Kd.R_drewN | apply Kd.R_drew)); exact HO332.out))) (Kd.R_lt (by (with_reducible repeat (first | apply Kd.R_alloc | apply Kd.R_drewN | apply Kd.R_drew)); exact HO335.out))) (Kd.R_lt (by (with_reducible repeat (first | apply Kd.R_alloc | apply Kd.R_drewN | apply Kd.R_drew)); exact HO338.out))) (Kd.R_lt (by (with_reducible repeat (first | apply Kd.R_alloc | apply Kd.R_drewN | apply Kd.R_drew)); exact HO343.out))) (Kd.R_lt (by (with_reducible repeat (first | apply Kd.R_alloc | apply Kd.R_drewN | apply Kd.R_drew)); exact HO345.out))) (Kd.R_lt (by (with_reducible repeat (first | apply Kd.R_alloc | apply Kd.R_drewN | apply Kd.R_drew)); exact HO348.out))) (Kd.R_lt (by (with_reducible repeat (first | apply Kd.R_alloc | apply Kd.R_drewN | apply Kd.R_drew)); exact HO351.out))) (Kd.R_lt (by (with_reducible repeat (first | apply Kd.R_alloc | apply Kd.R_drewN | apply Kd.R_drew)); exact HO355.out))) (Kd.R_lt (by (with_reducible repeat (first | apply Kd.R_alloc | apply Kd.R_drewN | apply Kd.R_drew)); exact HO358.out))) (Kd.R_lt (by (with_reducible repeat (first | apply Kd.R_alloc | apply Kd.R_drewN | apply Kd.R_drew)); exact HO362.out))) (Kd.R_lt (by (with_reducible repeat (first | apply Kd.R_alloc | apply Kd.R_drewN | apply Kd.R_drew)); exact HO366.out))) (below_size (by repeat (first | (with_reducible first | exact HB.out | apply below_alloc | apply pw_below_drewN | apply below_drew1) | exact HB.out)))); have n15_ := Aside0.mk (below_step (by repeat (first | (with_reducible first | exact HB.out | apply below_alloc | apply pw_below_drewN | apply below_drew1) | exact HB.out)) hb); clear HO321; clear HO325; clear HO328; clear HO332; clear HO335; clear HO338; clear HO343; clear HO345; clear HO348; clear HO351; clear HO355; clear HO358; clear HO362; clear HO366; clear HB; have HO321 := n0_; have HO325 := n1_; have HO328 := n2_; have HO332 := n3_; have HO335 := n4_; have HO338 := n5_; have HO343 := n6_; have HO345 := n7_; have HO348 := n8_; have HO351 := n9_; have HO355 := n10_; have HO358 := n11_; have HO362 := n12_; have HO366 := n13_; have HO370 := n14_; have HB := n15_; clear n0_ n1_ n2_ n3_ n4_ n5_ n6_ n7_ n8_ n9_ n10_ n11_ n12_ n13_ n14_ n15_; clear hb ho54; obtain ⟨Ao55, co55, eo55⟩ := Kd.R_slice HO345.out; subst eo55; obtain ⟨Ao56, co56, eo56⟩ := Kd.R_slice HO370.out; subst eo56) | (go_at_call 12; (with_reducible refine (reckonerref02_Is.calls k _ _ t340 _ _ y368 true _ ?side1 ?side2 ?side3 ?side4 A16.out).mono ?_); (case side1 => repeat (first | exact (Kd.R_reads' HO345.out).2.2 | (with_reducible refine Kd.C_alloc ?_ _) | (with_reducible refine Kd.C_drewN ?_ _) | (with_reducible refine Kd.C_drew ?_))); (case side2 => exact (Kd.R_reads' HO345.out).2.1); (case side3 => repeat (first | exact (Kd.R_reads' HO370.out).2.2 | (with_reducible refine Kd.C_alloc ?_ _) | (with_reducible refine Kd.C_drewN ?_ _) | (with_reducible refine Kd.C_drew ?_))); (case side4 => exact (Kd.R_reads' HO370.out).2.1); rintro e w57 ⟨rfl, hb⟩; have n0_ := Aside0.mk (Kd.R_below (by (with_reducible repeat (first | apply Kd.R_alloc | apply Kd.R_drewN | apply Kd.R_drew)); exact HO321.out) hb); have n1_ := Aside0.mk (Kd.R_below (by (with_reducible repeat (first | apply Kd.R_alloc | apply Kd.R_drewN | apply Kd.R_drew)); exact HO325.out) hb); have n2_ := Aside0.mk (Kd.R_below (by (with_reducible repeat (first | apply Kd.R_alloc | apply Kd.R_drewN | apply Kd.R_drew)); exact HO328.out) hb); have n3_ := Aside0.mk (Kd.R_below (by (with_reducible repeat (first | apply Kd.R_alloc | apply Kd.R_drewN | apply Kd.R_drew)); exact HO332.out) hb); have n4_ := Aside0.mk (Kd.R_below (by (with_reducible repeat (first | apply Kd.R_alloc | apply Kd.R_drewN | apply Kd.R_drew)); exact HO335.out) hb); have n5_ := Aside0.mk (Kd.R_below (by (with_reducible repeat (first | apply Kd.R_alloc | apply Kd.R_drewN | apply Kd.R_drew)); exact HO338.out) hb); have n6_ := Aside0.mk (Kd.R_below (by (with_reducible repeat (first | apply Kd.R_alloc | apply Kd.R_drewN | apply Kd.R_drew)); exact HO343.out) hb); have n7_ := Aside0.mk (Kd.R_below (by (with_reducible repeat (first | apply Kd.R_alloc | apply Kd.R_drewN | apply Kd.R_drew)); exact HO345.out) hb); have n8_ := Aside0.mk (Kd.R_below (by (with_reducible repeat (first | apply Kd.R_alloc | apply Kd.R_drewN | apply Kd.R_drew)); exact HO348.out) hb); have n9_ := Aside0.mk (Kd.R_below (by (with_reducible repeat (first | apply Kd.R_alloc | apply Kd.R_drewN | apply Kd.R_drew)); exact HO351.out) hb); have n10_ := Aside0.mk (Kd.R_below (by (with_reducible repeat (first | apply Kd.R_alloc | apply Kd.R_drewN | apply Kd.R_drew)); exact HO355.out) hb); have n11_ := Aside0.mk (Kd.R_below (by (with_reducible repeat (first | apply Kd.R_alloc | apply Kd.R_drewN | apply Kd.R_drew)); exact HO358.out) hb); have n12_ := Aside0.mk (Kd.R_below (by (with_reducible repeat (first | apply Kd.R_alloc | apply Kd.R_drewN | apply Kd.R_drew)); exact HO362.out) hb); have n13_ := Aside0.mk (Kd.R_below (by (with_reducible repeat (first | apply Kd.R_alloc | apply Kd.R_drewN | apply Kd.R_drew)); exact HO366.out) hb); have n14_ := Aside0.mk (Kd.R_below (by (with_reducible repeat (first | apply Kd.R_alloc | apply Kd.R_drewN | apply Kd.R_drew)); exact HO370.out) hb); have n15_ := Aside0.mk (below_step (by repeat (first | (with_reducible first | exact HB.out | apply below_alloc | apply pw_below_drewN | apply below_drew1) | exact HB.out)) hb); clear HO321; clear HO325; clear HO328; clear HO332; clear HO335; clear HO338; clear HO343; clear HO345; clear HO348; clear HO351; clear HO355; clear HO358; clear HO362; clear HO366; clear HO370; clear HB; have HO321 := n0_; have HO325 := n1_; have HO328 := n2_; have HO332 := n3_; have HO335 := n4_; have HO338 := n5_; have HO343 := n6_; have HO345 := n7_; have HO348 := n8_; have HO351 := n9_; have HO355 := n10_; have HO358 := n11_; have HO362 := n12_; have HO366 := n13_; have HO370 := n14_; have HB := n15_; clear n0_ n1_ n2_ n3_ n4_ n5_ n6_ n7_ n8_ n9_ n10_ n11_ n12_ n13_ n14_ n15_; (try clear hb); (try clear hb2); (try clear hk); (try clear hi)))
        go_ret
        exact ⟨by first | rfl | (simp [errW_none, errW_some] <;> rfl) | (simp [*, errW_none, errW_some] <;> rfl), by repeat (first | (with_reducible first | exact HB.out | apply below_alloc | apply pw_below_drewN | apply below_drew1) | exact HB.out)⟩
       ·replace c17 := Bool.eq_false_iff.mpr c17
        subst c17
        have H1 : (none) = some r := by rw [if_neg (show ¬ (false = true) by decide)] at H; exact H
        clear H
        have H := H1
        clear H1
        exact absurd H (by simp)
      ·replace c15 := Bool.eq_false_iff.mpr c15
       subst c15
       have H1 : (none) = some r := by rw [if_neg (show ¬ (false = true) by decide)] at H; exact H
       clear H
       have H := H1
       clear H1
       exact absurd H (by simp)
     ·rw [if_neg c12] at H
      exact absurd H (by simp)
    ·replace c11 := Bool.eq_false_iff.mpr c11
     subst c11
     have H1 : (none) = some r := by rw [if_neg (show ¬ (false = true) by decide)] at H; exact H
     clear H
     have H := H1
     clear H1
     exact absurd H (by simp)
   ·rw [if_neg c9] at H
    exact absurd H (by simp)
  ·replace c8 := Bool.eq_false_iff.mpr c8
   subst c8
   have H1 : (none) = some r := by rw [if_neg (show ¬ (false = true) by decide)] at H; exact H
   clear H
   have H := H1
   clear H1
   exact absurd H (by simp)
 ·rw [if_neg c5] at H
  exact absurd H (by simp)
end Go.Proofs.YtkkkbalefnileaaDoor.T
/- The reference's functions on numbers. -/
namespace Go.Proofs.YtkkkbalefnileaaDoor.Ex
open Go.RowKit Go.Proofs.YtkkkbalefnileaaDoorW.PrintWords Go.Proofs.YtkkkbalefnileaaDoorW.PrintLast Go.Proofs.YtkkkbalefnileaaDoorW.PrintMore Go.Proofs.YtkkkbalefnileaaDoor.T
set_option linter.unusedVariables false
set_option linter.unusedSimpArgs false

theorem isW_of_wf {x : Int} (h : (Lit.int .u64 x).wf = true) : isW x := by
  have h1 : 0 ≤ x ∧ x ≤ 18446744073709551615 := by
    simp [Lit.wf, IntKind.min, IntKind.max, IntKind.signed, IntKind.bits] at h
    omega
  unfold isW
  rw [W64_eq]
  omega
theorem inW_of_wf {l : List Int} (h : ∀ x ∈ l, (Lit.int .u64 x).wf = true) : inW l := fun x hx => isW_of_wf (h x hx)
theorem inW_take {l : List Int} (h : inW l) (n : Nat) : inW (l.take n) := fun x hx => h x (List.mem_of_mem_take hx)
theorem few_some (l : List Int) (n : Nat) (h : l.length ≤ 17592186044415) : reckonerlaw02_few.f l (n : Int) = some (l.take n) := by
  unfold reckonerlaw02_few.f
  rw [if_pos ⟨by omega, Or.inl h⟩, Int.toNat_natCast]
/-- A row of n words whose value has n words is the value's. -/
theorem can_of_len {r : List Int} (hr : inW r) (h : r = [] ∨ W64 ^ (r.length - 1) ≤ valB W64 r) : r = can (valB W64 r) := by
  have h0 := valW_nonneg hr
  rcases h with h | h
  · rw [h]; rfl
  · have h1 := can_high h0 h
    have h2 := can_le hr
    exact valB_inj W64_pos hr (can_in h0) (by omega) (can_val h0).symm
theorem RNat_ev (d : List Int) (hd : inB H32 d) (hm : d.length ≤ 1000000) : Ev (fun k => reckonerref02_nat.f k d) (can (valB H32 d)) := by
  obtain ⟨m, hm1, hs, hv, hnz⟩ := Short_ev d (by omega)
  have hdm : inB H32 (d.take m) := inB_take hd m
  have hlm : (d.take m).length = m := by rw [List.length_take]; omega
  obtain ⟨r, t, hc, hr1, hr2, hr3, hr4⟩ := Cut_ev ((m + 1) / 2) (by omega) (d.take m) hdm (by omega)
  have hlt := valB_lt H32_pos hdm
  have h0 := valB_nonneg H32_pos hdm
  rw [hlm] at hlt
  have hp : H32 ^ m ≤ W64 ^ ((m + 1) / 2) := by rw [← H32_pow]; exact pow_leB (by omega)
  have hpp := pow_posB W64_pos ((m + 1) / 2)
  have hmod : valB H32 (d.take m) % (W64 ^ ((m + 1) / 2) * W64) = valB H32 (d.take m) := by
    refine Int.emod_eq_of_lt h0 ?_
    have h1 : W64 ^ ((m + 1) / 2) * 1 ≤ W64 ^ ((m + 1) / 2) * W64 := Int.mul_le_mul_of_nonneg_left (by decide) (Int.le_of_lt hpp)
    rw [Int.mul_one] at h1
    omega
  rw [hmod, hv] at hr4
  rw [hv] at hlt h0
  have hrl := valB_lt W64_pos hr1
  have hr0 := valB_nonneg W64_pos hr1
  rw [hr2] at hrl
  have ht : t = 0 := by
    by_cases ht : t ≤ 0
    · have := hr3.1; omega
    · have h1 : W64 ^ ((m + 1) / 2) * 1 ≤ W64 ^ ((m + 1) / 2) * t := Int.mul_le_mul_of_nonneg_left (by omega) (Int.le_of_lt hpp)
      rw [Int.mul_one] at h1
      omega
  rw [ht, Int.mul_zero, Int.add_zero] at hr4
  have hcan : r = can (valB H32 d) := by
    have h1 := can_of_len hr1 (by
      rw [hr2]
      by_cases hm0 : m = 0
      · left; rw [hm0] at hr2; exact List.eq_nil_of_length_eq_zero hr2
      · right
        rw [hr4, ← hv]
        have h2 := valB_take_succ H32 d (m - 1) (by omega)
        rw [show m - 1 + 1 = m by omega] at h2
        rw [h2]
        have h3 := valB_nonneg H32_pos (inB_take hd (m - 1))
        have h4 : 1 ≤ d.getD (m - 1) 0 := by
          have h5 := (inB_getD H32_pos hd (m - 1)).1
          rcases hnz with h | h
          · exact (hm0 h).elim
          · omega
        have h6 : H32 ^ (m - 1) * 1 ≤ H32 ^ (m - 1) * d.getD (m - 1) 0 := Int.mul_le_mul_of_nonneg_left h4 (Int.le_of_lt (pow_posB H32_pos _))
        rw [Int.mul_one] at h6
        have h7 : W64 ^ ((m + 1) / 2 - 1) ≤ H32 ^ (m - 1) := by rw [← H32_pow]; exact pow_leB (by omega)
        omega)
    rw [hr4] at h1
    exact h1
  have e : wrap64 (Int.tdiv (wrap64 (((d.take m).length : Int) + 1)) 2) = (((m + 1) / 2 : Nat) : Int) := by
    rw [hlm, show ((m : Int) + 1) = ((m + 1 : Nat) : Int) by omega, w64_nat (m + 1) (by omega)]
    exact w64_nat ((m + 1) / 2) (by omega)
  refine Ev.bind hs ?_
  simp only [e]
  refine Ev.bind hc ?_
  rw [← hcan]
  exact Ev.now _
theorem RTrim_ev (x : List Int) (hx : inW x) (hn : x.length ≤ 400000) : Ev (fun k => reckonerref02_Trim.f k x) (can (valB W64 x)) := by
  have h := RNat_ev (digitsL x) (digitsL_in hx) (by rw [digitsL_length]; omega)
  rw [digitsL_val] at h
  exact Ev.bind (Digits_ev x hx (by omega)) (Ev.bind h (Ev.now _))
theorem RCan_some {x : List Int} (h : canL x) (hn : x.length ≤ 400000) : reckonerref02_Canonical.f x = some true := by
  unfold reckonerref02_Canonical.f
  by_cases h0 : x = []
  · subst h0; rfl
  · have hp : 0 < x.length := List.length_pos_iff.2 h0
    have e : wrap64 ((x.length : Int) - 1) = ((x.length - 1 : Nat) : Int) := by rw [← w64_nat (x.length - 1) (by omega)]; congr 1; omega
    have hl : x.getD (x.length - 1) 0 ≠ 0 := by
      intro e
      have h1 := canL_low h h0
      have h2 := valB_take_succ W64 x (x.length - 1) (by omega)
      rw [List.take_of_length_le (by omega), e, Int.mul_zero, Int.add_zero] at h2
      have h3 := valB_lt W64_pos (inB_take (canL_in h) (x.length - 1))
      rw [List.length_take, Nat.min_eq_left (by omega)] at h3
      omega
    rw [if_neg (by omega), e, if_pos (by omega), if_pos (by omega), rd_nat, bne_iff_ne.2 hl]
theorem RIs_ev {v : Int} (y : List Int) (hy : inW y) (hn : y.length ≤ 400000) (h : valB W64 y = v) : Ev (fun k => reckonerref02_Is.f k (can v) y) true := by
  have hv : 0 ≤ v := by rw [← h]; exact valW_nonneg hy
  have hl := can_le hy
  rw [h] at hl
  have ht := RTrim_ev y hy hn
  rw [h] at ht
  have hs := RSame_ev (can v) (can v) (by omega)
  rw [decide_eq_true rfl] at hs
  refine Ev.congr (f := fun k => (reckonerref02_Trim.f k y).bind fun t => (reckonerref01_Same.f k (can v) t).bind fun t => some t) (fun k => ?_) (Ev.bind ht (Ev.bind hs (Ev.now true)))
  show reckonerref02_Is.f k (can v) y = _
  unfold reckonerref02_Is.f
  rw [RCan_some (can_canL hv) (by omega), Option.bind_some, if_pos rfl]
theorem RWord_ev (w : Int) (hw : isW w) : Ev (fun k => reckonerref02_FromWord.f k w) (can w) := by
  have h := RNat_ev [w % H32, w / H32] (word_in w hw) (by simp)
  rw [word_val] at h
  refine Ev.congr (f := fun k => (reckonerref02_nat.f k [w % H32, w / H32]).bind fun t => some t) (fun k => ?_) (Ev.bind h (Ev.now _))
  show reckonerref02_FromWord.f k w = _
  unfold reckonerref02_FromWord.f
  rw [Word_some w hw, Option.bind_some]
theorem RAdd_ev (x y : List Int) (hx : inW x) (hy : inW y) (hn : x.length ≤ 400000) (hm : y.length ≤ 400000) : Ev (fun k => reckonerref02_Add.f k x y) (can (valB W64 x + valB W64 y)) := by
  obtain ⟨p, hp1, hp2, hp3, hp4⟩ := Plus_ev (digitsL x) (digitsL y) (digitsL_in hx) (digitsL_in hy) (by rw [digitsL_length]; omega) (by rw [digitsL_length]; omega)
  rw [digitsL_length, digitsL_length] at hp3
  rw [digitsL_val, digitsL_val] at hp4
  have h := RNat_ev p hp2 (by omega)
  rw [hp4] at h
  exact Ev.bind (Digits_ev x hx (by omega)) (Ev.bind (Digits_ev y hy (by omega)) (Ev.bind hp1 (Ev.bind h (Ev.now _))))
theorem RMul_ev (x y : List Int) (hx : inW x) (hy : inW y) (hn : x.length ≤ 200000) (hm : y.length ≤ 200000) : Ev (fun k => reckonerref02_Mul.f k x y) (can (valB W64 x * valB W64 y)) := by
  obtain ⟨p, hp1, hp2, hp3, hp4⟩ := Times_ev (digitsL x) (digitsL y) (digitsL_in hx) (digitsL_in hy) (by rw [digitsL_length]; omega) (by rw [digitsL_length]; omega)
  rw [digitsL_length, digitsL_length] at hp3
  rw [digitsL_val, digitsL_val] at hp4
  have h := RNat_ev p hp2 (by omega)
  rw [hp4] at h
  exact Ev.bind (Digits_ev x hx (by omega)) (Ev.bind (Digits_ev y hy (by omega)) (Ev.bind hp1 (Ev.bind h (Ev.now _))))
end Go.Proofs.YtkkkbalefnileaaDoor.Ex
/- The bits of a value: how many are set, which is the lowest. No program here. -/
namespace Go.Proofs.YtkkkbalefnileaaDoor.Ex
open Go.RowKit Go.Proofs.YtkkkbalefnileaaDoorW.PrintWords Go.Proofs.YtkkkbalefnileaaDoorW.PrintLast Go.Proofs.YtkkkbalefnileaaDoorW.PrintMore Go.Proofs.YtkkkbalefnileaaDoor.T
set_option linter.unusedVariables false
set_option linter.unusedSimpArgs false

/-- t is the lowest bit below n that is set (d if none is). -/
def LowB (v : Int) (n : Nat) (d t : Int) : Prop := (∃ j : Nat, j < n ∧ t = (j : Int) ∧ v / 2 ^ j % 2 = 1 ∧ ∀ i, i < j → v / 2 ^ i % 2 = 0) ∨ (t = d ∧ ∀ i, i < n → v / 2 ^ i % 2 = 0)
theorem LowB.one {v : Int} {n : Nat} {d t t' : Int} (h : LowB v n d t) (h' : LowB v n d t') : t = t' := by
  rcases h with ⟨j, h1, h2, h3, h4⟩ | ⟨h1, h2⟩ <;> rcases h' with ⟨j', k1, k2, k3, k4⟩ | ⟨k1, k2⟩
  · rcases Nat.lt_trichotomy j j' with c | c | c
    · have := k4 j c; omega
    · subst c; rw [h2, k2]
    · have := h4 j' c; omega
  · have := k2 j h1; omega
  · have := h2 j' k1; omega
  · rw [h1, k1]
theorem bit_beyond {v : Int} (h0 : 0 ≤ v) {n i : Nat} (h : v < 2 ^ n) (hi : n ≤ i) : v / 2 ^ i % 2 = 0 := by
  rw [Int.ediv_eq_zero_of_lt h0 (Int.lt_of_lt_of_le h (pow_mono (by decide) hi))]
  rfl
theorem LowB.more {v : Int} (h0 : 0 ≤ v) {n m : Nat} {d t : Int} (h : LowB v n d t) (hv : v < 2 ^ n) (hm : n ≤ m) : LowB v m d t := by
  rcases h with ⟨j, h1, h2, h3, h4⟩ | ⟨h1, h2⟩
  · exact Or.inl ⟨j, by omega, h2, h3, h4⟩
  · refine Or.inr ⟨h1, fun i hi => ?_⟩
    by_cases hin : i < n
    · exact h2 i hin
    · exact bit_beyond h0 hv (by omega)
end Go.Proofs.YtkkkbalefnileaaDoor.Ex
/- The reference's joined numbers, and its numbers with another bit. -/
namespace Go.Proofs.YtkkkbalefnileaaDoor.Ex
open Go.RowKit Go.Proofs.YtkkkbalefnileaaDoorW.PrintWords Go.Proofs.YtkkkbalefnileaaDoorW.PrintLast Go.Proofs.YtkkkbalefnileaaDoorW.PrintMore Go.Proofs.YtkkkbalefnileaaDoor.T
set_option linter.unusedVariables false
set_option linter.unusedSimpArgs false

theorem and_one (x : Int) (hx : isW x) : bits .and .u64 x 1 = Int.tmod x 2 := by
  obtain ⟨X, rfl⟩ := Int.eq_ofNat_of_zero_le hx.1
  have hX := hx.2
  rw [W64_eq] at hX
  have h := bits_and_u64_nat X 1 (by omega) (by decide)
  rw [Nat.and_one_is_mod] at h
  rw [Int.tmod_eq_emod_of_nonneg (by omega)]
  exact h
end Go.Proofs.YtkkkbalefnileaaDoor.Ex
/- nat.Sum. -/
namespace Go.Proofs.YtkkkbalefnileaaDoor.Ex
open Go.RowKit Go.Shelf Go.Proofs.YtkkkbalefnileaaDoorW.PrintWords Go.Proofs.YtkkkbalefnileaaDoorW.PrintLast Go.Proofs.YtkkkbalefnileaaDoorW.PrintMore
set_option linter.unusedVariables false
set_option linter.unusedSimpArgs false

def sumV (l : List (List Int)) : Int := (l.map (valB W64)).sum
theorem sumV_nil : sumV [] = 0 := rfl
theorem sumV_cons (x : List Int) (l : List (List Int)) : sumV (x :: l) = valB W64 x + sumV l := by simp [sumV]
theorem sumV_succ (l : List (List Int)) (k : Nat) (h : k < l.length) : sumV (l.take (k + 1)) = sumV (l.take k) + valB W64 l[k] := by
  unfold sumV
  rw [List.take_succ_eq_append_getElem h, List.map_append, List.sum_append]
  simp
theorem sumV_bound (n : Nat) : ∀ (l : List (List Int)), (∀ x ∈ l, inW x) → (∀ x ∈ l, x.length ≤ n) → 0 ≤ sumV l ∧ sumV l ≤ l.length * W64 ^ n
  | [], _, _ => by simp [sumV]
  | x :: l, h1, h2 => by
    have hx := h1 x (List.mem_cons_self ..)
    have ih := sumV_bound n l (fun y hy => h1 y (List.mem_cons_of_mem _ hy)) (fun y hy => h2 y (List.mem_cons_of_mem _ hy))
    have a0 := valW_nonneg hx
    have a1 := valB_lt W64_pos hx
    have a2 := pow_mono (B := W64) (by decide) (h2 x (List.mem_cons_self ..))
    rw [sumV_cons, List.length_cons, Int.natCast_add, Int.add_mul, Int.natCast_one, Int.one_mul]
    omega
theorem sumV_short (n : Nat) (l : List (List Int)) (h1 : ∀ x ∈ l, inW x) (h2 : ∀ x ∈ l, x.length ≤ n) (h3 : l.length ≤ 1000) : (can (sumV l)).length ≤ n + 1 := by
  obtain ⟨b1, b2⟩ := sumV_bound n l h1 h2
  refine can_short b1 (Int.lt_of_le_of_lt b2 ?_)
  rw [Int.pow_succ, Int.mul_comm]
  exact Int.mul_lt_mul_of_pos_left (Int.lt_of_le_of_lt (Int.ofNat_le.2 h3) (by decide)) (pow_posB W64_pos n)
def nat_Sum.f (l0 : List (List Int)) : Option (List Int × Int) :=
  if ∀ x ∈ l0, inW x then
    if l0.length ≤ 1000 then
      if ∀ x ∈ l0, x.length ≤ 4096 then some (fitV (sumV l0)) else some ([], 2)
    else some ([], 1)
  else none
theorem large_list {l0 : List (List Int)} {b : Bool} (h : decide (∀ x ∈ l0, x.length ≤ 4096) = b) : nat_large.f l0 = some (!b) := by
  unfold nat_large.f
  rw [← h]
  congr 2
  rw [Bool.eq_iff_iff, List.all_eq_true, decide_eq_true_iff]
  simp
set_option maxRecDepth 100000 in
set_option maxHeartbeats 4000000 in
theorem nat_Sum.calls (A0 : Option Addr) (c0 : Nat) (l0 : List (List Int)) (r1 : List Int) (r2 : Int) (w : World) (hr0 : Kd.C (Kd.slice 36 (Kd.int .u64)) w A0 l0.length l0) (hc0 : l0.length ≤ c0) (h : nat_Sum.f l0 = some (r1, r2)) :
  Calls Tryd.prog 32 #[.slice A0 l0.length c0] w fun e w' => ∃ v0_ : Value, e = .returned (.tuple #[v0_, .int .i64 r2]) ∧ Kd.R (Kd.int .u64) 36 w' w.heap.size (fun _ => True) v0_ r1 ∧ Below w.heap.size w w' := by
 unfold nat_Sum.f at h
 by_cases hw : ∀ x ∈ l0, inW x
 ·rw [if_pos hw] at h
  have HR := Aside0.mk hr0
  clear hr0
  by_cases hn : l0.length ≤ 1000
  ·rw [if_pos hn] at h
   have hnb : decide ((1000 : Int) < (l0.length : Int)) = false := decide_eq_false (by omega)
   by_cases h4 : ∀ x ∈ l0, x.length ≤ 4096
   ·rw [if_pos h4] at h
    have HL := Aside0.mk (large_list (decide_eq_true h4))
    have HT := Aside0.mk (fun k => sumV_short 4096 (l0.take k) (fun x hx => hw x (List.mem_of_mem_take hx)) (fun x hx => h4 x (List.mem_of_mem_take hx)) (by rw [List.length_take]; omega))
    have HT0 := Aside0.mk (fun k => (sumV_bound 4096 (l0.take k) (fun x hx => hw x (List.mem_of_mem_take hx)) (fun x hx => h4 x (List.mem_of_mem_take hx))).1)
    have HW := Aside0.mk hw
    have H4 := Aside0.mk h4
    have HH := Aside0.mk h
    clear hw h4 h
    go_enter Tryd.func32, Tryd.ntmps32
    go_wp2_with fail
    refine (nat_large.calls A0 c0 l0 _ _ HR.out hc0 HL.out).mono ?_
    rintro e w1 ⟨rfl, hd⟩
    have HB1 := Aside0.mk hd.below
    clear hd HL
    go_wp2
    go_loopw [4, 14] (fun v i wr => ∃ k : Nat, k ≤ l0.length ∧ i = .int .i64 k ∧ Aside0 (Kd.R (Kd.int .u64) 36 wr w.heap.size (fun _ => True) v (can (sumV (l0.take k)))) ∧ Aside0 (Below w.heap.size w wr)) (fun _ i _ => l0.length - (intOf i).toNat)
    case atStart => exact ⟨0, Nat.zero_le _, rfl, ⟨Kd.R_nil _ _ _ _ _⟩, HB1⟩
    case round =>
     clear HB1
     obtain ⟨k, hk, rfl, HO, HB⟩ := hrel
     obtain ⟨Az, cz, rfl⟩ := Kd.R_slice HO.out
     by_cases hlt : k < l0.length
     ·have hlti : (k : Int) < (l0.length : Int) := by omega
      obtain ⟨ad, c, rfl, hcl, hK, hcell⟩ := Kd.C_get (Kd.C_below HR.out HB.out) [] k (by omega) (by omega)
      obtain ⟨A1, c1, rfl, hl1, hC1⟩ := hK
      have hc1 := hcell 0 _ rfl
      simp only [Int.toNat_natCast] at hc1 hC1 hl1
      have e0 : k * (Kd.slice 36 (Kd.int .u64)).sz + 0 = k := by simp [Kd.slice]
      rw [e0] at hc1
      have hgd : l0.getD k [] = l0[k] := by rw [List.getD_eq_getElem?_getD, List.getElem?_eq_getElem hlt]; rfl
      rw [hgd] at hc1 hC1 hl1
      have HS := Aside0.mk (sumV_succ l0 k hlt)
      have hA : nat_add.f (can (sumV (l0.take k))) l0[k] = some (can (sumV (l0.take (k + 1)))) := by
       unfold nat_add.f
       have q1 := HT.out k
       have q2 := H4.out l0[k] (List.getElem_mem _)
       rw [if_pos ⟨can_in (HT0.out k), HW.out _ (List.getElem_mem _), by omega, by omega⟩, can_val (HT0.out k), HS.out]
      have HA := Aside0.mk hA
      have HC1 := Aside0.mk hC1
      obtain ⟨x, hx⟩ : ∃ x, x = l0[k] := ⟨_, rfl⟩
      rw [← hx] at hc1 hl1 HC1 HA
      clear hcell hC1 hcl hA hx HS hgd
      go_wp2_with fail
      refine (nat_add.calls _ _ _ _ _ _ _ _ (R_C HO.out) (R_cap HO.out) HC1.out hl1 HA.out).mono ?_
      rintro e w2 ⟨v2, rfl, hR2, hb2⟩
      have HO2 := Aside0.mk (Kd.R_lower hR2 (below_size HB.out))
      have HB2 := Aside0.mk (below_step HB.out hb2)
      clear hR2 hb2 HO HB
      go_wp2
      go_roundw
      case rel => exact ⟨k + 1, by omega, by go_num, HO2, HB2⟩
      case measure => simp [intOf]; omega
     ·obtain rfl : k = l0.length := by omega
      have hv := HT0.out l0.length
      rw [List.take_length] at hv HO ⊢
      generalize sumV l0 = v at *
      have hF := fit1 Az cz (can v) _ (can_in hv) (R_C HO.out) (R_cap HO.out)
      rw [can_val hv] at hF
      have hh := HH.out
      unfold fitV at hh
      by_cases h9 : (can v).length ≤ 4096
      ·rw [if_pos h9] at hF hh
       cases hh
       have HF := Aside0.mk hF
       clear hF
       go_wp2_with fail
       refine HF.out.mono ?_
       rintro e w9 ⟨rfl, rfl⟩
       go_wp2
       go_ret2
       exact ⟨_, rfl, HO.out, HB.out⟩
      ·rw [if_neg h9] at hF hh
       cases hh
       have HF := Aside0.mk hF
       clear hF
       go_wp2_with fail
       refine HF.out.mono ?_
       rintro e w9 ⟨rfl, rfl⟩
       go_wp2
       go_ret2
       exact ⟨_, rfl, Kd.R_nil _ _ _ _ _, HB.out⟩
   ·rw [if_neg h4] at h
    cases h
    have HL := Aside0.mk (large_list (decide_eq_false h4))
    clear hw h4
    go_enter Tryd.func32, Tryd.ntmps32
    go_wp2_with fail
    refine (nat_large.calls A0 c0 l0 _ _ HR.out hc0 HL.out).mono ?_
    rintro e w1 ⟨rfl, hd⟩
    have HB1 := Aside0.mk hd.below
    clear hd HL
    go_wp2
    go_ret2
    exact ⟨_, rfl, Kd.R_nil _ _ _ _ _, HB1.out⟩
  ·rw [if_neg hn] at h
   cases h
   have hnb : decide ((1000 : Int) < (l0.length : Int)) = true := decide_eq_true (by omega)
   clear hw
   go_enter Tryd.func32, Tryd.ntmps32
   go_wp2
   go_ret2
   exact ⟨_, rfl, Kd.R_nil _ _ _ _ _, Below.refl _ _⟩
 ·rw [if_neg hw] at h
  cases h
end Go.Proofs.YtkkkbalefnileaaDoor.Ex
/- Rows of words that may be written: what a store leaves. -/
namespace Go.Proofs.YtkkkbalefnileaaDoor.Ex
open Go.RowKit Go.Proofs.YtkkkbalefnileaaDoorW.PrintWords Go.Proofs.YtkkkbalefnileaaDoorW.PrintLast Go.Proofs.YtkkkbalefnileaaDoorW.PrintMore
set_option linter.unusedVariables false
set_option linter.unusedSimpArgs false

/-- A slice whose words lie in a block made since, and may be written. -/
def Wr (W : World) (base : Nat) (v : Value) : Prop :=
  ∃ (A : Option Addr) (n c : Nat), v = .slice A n c ∧ n ≤ maxLen ∧ (0 < n → ∃ g cells, A = some ⟨g, 0, none⟩ ∧ base ≤ g ∧ W.heap[g]? = some (.cells cells 36 (0, 0)) ∧ ∀ j, j < n → ∃ x, cells[j]? = some (.int .u64 x))
theorem Wr.of_R {W : World} {base : Nat} {ok : Nat → Prop} {v : Value} {l : List Int} (h : Kd.R (Kd.int .u64) 36 W base ok v l) : Wr W base v := by
  obtain ⟨A, c, hv⟩ := Kd.R_slice h
  have hm : l.length ≤ maxLen := by
    obtain ⟨inner, ho⟩ := Kd.R_own h
    rcases ho.2 with ⟨_, h0⟩ | ⟨g, cap, cur, he, _, _, h1, h2, _⟩
    · rw [h0]; exact Nat.zero_le _
    · exact Nat.le_trans h1 h2
  refine ⟨A, l.length, c, hv, hm, fun hp => ?_⟩
  obtain ⟨g, cap, hv2, hb, hlt, cells, hc⟩ := Kd.R_form h hp
  rw [hv] at hv2
  injection hv2 with e1 e2 e3
  subst hv
  refine ⟨g, cells, e1, hb, hc, fun j hj => ?_⟩
  have hr := (Kd.R_reads' h).2.2
  obtain ⟨ad, ha, hx⟩ := Kd.at_int hr (j : Int) (by omega) (by omega)
  rw [e1] at ha
  have ha2 := Option.some.inj ha
  subst ha2
  refine ⟨rd l (j : Int), ?_⟩
  have h1 : (⟨g, 0, none⟩ : Addr).add ((j : Int)).toNat = ⟨g, j, none⟩ := by simp [Addr.add]; omega
  rw [h1, blk_cell hc] at hx
  exact hx
theorem Wr.below {W W' : World} {base : Nat} {v : Value} (h : Wr W base v) (hb : Below W.heap.size W W') : Wr W' base v := by
  obtain ⟨A, n, c, hv, hm, hn⟩ := h
  refine ⟨A, n, c, hv, hm, fun hp => ?_⟩
  obtain ⟨g, cells, h1, h2, h3, h4⟩ := hn hp
  exact ⟨g, cells, h1, h2, (hb.block g (blk_lt h3)).trans h3, h4⟩
theorem Wr.set {W : World} {base : Nat} {v : Value} (h : Wr W base v) (g i : Nat) (x : Int) : Wr (W.setCell ⟨g, i, none⟩ (.int .u64 x)) base v := by
  obtain ⟨A, n, c, hv, hm, hn⟩ := h
  refine ⟨A, n, c, hv, hm, fun hp => ?_⟩
  obtain ⟨g', cells, h1, h2, h3, h4⟩ := hn hp
  by_cases hg : g' = g
  · subst hg
    refine ⟨g', _, h1, h2, blk_set h3 i _, fun j hj => ?_⟩
    obtain ⟨y, hy⟩ := h4 j hj
    by_cases hi : i = j
    · subst hi
      refine ⟨x, ?_⟩
      have hlt : i < cells.size := (Array.getElem?_eq_some_iff.1 hy).1
      simp [Array.getElem?_setIfInBounds, hlt]
    · exact ⟨y, by simp [Array.getElem?_setIfInBounds, hi, hy]⟩
  · exact ⟨g', cells, h1, h2, blk_far h3 hg _, h4⟩
def NotIn (vs : List Value) (k : Nat) : Prop := ∀ v ∈ vs, some k ≠ v.ownBlock
/-- Four rows that are in no block of the others. -/
structure Kept4 (W : World) (base : Nat) (vs : List Value) (a b c d : Value) (la lb lc ld : List Int) : Prop where
  a : Kd.R (Kd.int .u64) 36 W base (NotIn vs) a la
  b : Kd.R (Kd.int .u64) 36 W base (NotIn vs) b lb
  c : Kd.R (Kd.int .u64) 36 W base (NotIn vs) c lc
  d : Kd.R (Kd.int .u64) 36 W base (NotIn vs) d ld
theorem Kept4.below {W W' : World} {base : Nat} {vs : List Value} {a b c d : Value} {la lb lc ld : List Int} (h : Kept4 W base vs a b c d la lb lc ld) (hb : Below W.heap.size W W') : Kept4 W' base vs a b c d la lb lc ld :=
  ⟨Kd.R_below h.a hb, Kd.R_below h.b hb, Kd.R_below h.c hb, Kd.R_below h.d hb⟩
theorem Kept4.set {W : World} {base : Nat} {vs : List Value} {a b c d : Value} {la lb lc ld : List Int} (h : Kept4 W base vs a b c d la lb lc ld) {v : Value} (hv : v ∈ vs) {g : Nat} (hg : v.ownBlock = some g) (j : Nat) (u : Value) : Kept4 (W.setCell ⟨g, j, none⟩ u) base vs a b c d la lb lc ld := by
  have hok : ∀ k, NotIn vs k → k ≠ (⟨g, j, none⟩ : Addr).block := fun k hk e => hk v hv (by rw [hg]; exact congrArg some e)
  exact ⟨Kd.R_far h.a hok u, Kd.R_far h.b hok u, Kd.R_far h.c hok u, Kd.R_far h.d hok u⟩
/-- What holds between two rounds of the loops that write. -/
structure OwnI (w : World) (G : Nat) (vs : List Value) (a b c d : Value) (la lb lc ld : List Int) (W : World) : Prop where
  kept : Kept4 W w.heap.size vs a b c d la lb lc ld
  wr : ∀ v ∈ vs, Wr W w.heap.size v
  all : W.heap[G]? = some (.cells vs.toArray 22 (0, 0))
  bel : Below w.heap.size w W
theorem OwnI.set {w : World} {G : Nat} {vs : List Value} {a b c d : Value} {la lb lc ld : List Int} {W : World} (h : OwnI w G vs a b c d la lb lc ld W) {v : Value} (hv : v ∈ vs) {g n c' : Nat} (hg : v = .slice (some ⟨g, 0, none⟩) n c') (hb : w.heap.size ≤ g) {cells : Array Value} (hc : W.heap[g]? = some (.cells cells 36 (0, 0))) (j : Nat) :
    OwnI w G vs a b c d la lb lc ld (W.setCell ⟨g, j, none⟩ (.int .u64 7)) :=
  ⟨h.kept.set hv (by rw [hg]; rfl) j _, fun v' hv' => (h.wr v' hv').set g j 7, blk_far h.all (blk_ne h.all hc (by decide)) _, h.bel.setCell hb _⟩
end Go.Proofs.YtkkkbalefnileaaDoor.Ex
/- The walk of NatOwn. -/
namespace Go.Proofs.YtkkkbalefnileaaDoor.Ex
open Go.RowKit Go.Shelf Go.Proofs.YtkkkbalefnileaaDoorW.PrintWords Go.Proofs.YtkkkbalefnileaaDoorW.PrintLast Go.Proofs.YtkkkbalefnileaaDoorW.PrintMore Go.Proofs.YtkkkbalefnileaaDoor.T
set_option linter.unusedVariables false
set_option linter.unusedSimpArgs false

theorem Wr.lower {W : World} {base H0 : Nat} {v : Value} (h : Wr W base v) (hb : H0 ≤ base) : Wr W H0 v := by
  obtain ⟨A, n, c, hv, hm, hn⟩ := h
  exact ⟨A, n, c, hv, hm, fun hp => by
    obtain ⟨g, cells, h1, h2, h3⟩ := hn hp
    exact ⟨g, cells, h1, Nat.le_trans hb h2, h3⟩⟩
/-- What holds between two rounds of the loops that write. -/
structure OwnN (w : World) (G : Nat) (vs : List Value) (W : World) : Prop where
  wr : ∀ v ∈ vs, Wr W w.heap.size v
  all : W.heap[G]? = some (.cells vs.toArray 23 (0, 0))
  bel : Below w.heap.size w W
theorem OwnN.set {w : World} {G : Nat} {vs : List Value} {W : World} (h : OwnN w G vs W) {v : Value} (hv : v ∈ vs) {g n c' : Nat} (hg : v = .slice (some ⟨g, 0, none⟩) n c') (hb : w.heap.size ≤ g) {cells : Array Value} (hc : W.heap[g]? = some (.cells cells 36 (0, 0))) (j : Nat) :
    OwnN w G vs (W.setCell ⟨g, j, none⟩ (.int .u64 7)) :=
  ⟨fun v' hv' => (h.wr v' hv').set g j 7, blk_far h.all (blk_ne h.all hc (by decide)) _, h.bel.setCell hb _⟩
theorem own_Add (W : World) (H0 : Nat) (hH : H0 ≤ W.heap.size) (A : Option Addr) (c : Nat) (a : List Int) (ha : Kd.C (Kd.int .u64) W A a.length a) (hc : a.length ≤ c) (p : List Int) (f : nat_Add.f a [] = some (p, 0)) : Calls Tryd.prog 29 #[.slice A a.length c, .slice none 0 0] W fun e w' => (∃ (Av : Option Addr) (nv cv : Nat), e = .returned (.tuple #[.slice Av nv cv, .int .i64 0]) ∧ Wr w' H0 (.slice Av nv cv)) ∧ Below W.heap.size W w' := by
  refine (nat_Add.calls A c a none 0 [] p 0 W ha hc ⟨rfl, by decide, fun h => absurd h (by decide)⟩ (Nat.le_refl 0) f).mono ?_
  rintro e w' ⟨v, rfl, hR, hb⟩
  obtain ⟨A', c', rfl⟩ := Kd.R_slice hR
  exact ⟨⟨A', _, c', rfl, (Wr.of_R hR).lower hH⟩, hb⟩
theorem own_Mul (W : World) (H0 : Nat) (hH : H0 ≤ W.heap.size) (A : Option Addr) (c : Nat) (a : List Int) (ha : Kd.C (Kd.int .u64) W A a.length a) (hc : a.length ≤ c) (p : List Int) (f : nat_Mul.f a [1] = some (p, 0)) : Calls Tryd.prog 30 #[.slice A a.length c, .slice (some ⟨W.heap.size, 0, none⟩) 1 1] (W.alloc (.cells #[.int .u64 1] 36)) fun e w' => (∃ (Av : Option Addr) (nv cv : Nat), e = .returned (.tuple #[.slice Av nv cv, .int .i64 0]) ∧ Wr w' H0 (.slice Av nv cv)) ∧ Below W.heap.size W w' := by
  have hB := below_alloc (Below.refl W.heap.size W) (.cells #[.int .u64 1] 36)
  have h1 : RowB (W.alloc (.cells #[.int .u64 1] 36)) W.heap.size [1] := heap_alloc_new _ _
  refine (nat_Mul.calls A c a (some ⟨W.heap.size, 0, none⟩) 1 [1] p 0 _ (Kd.C_below ha hB) hc (R_C (h1.own' 0 (Nat.zero_le _) (by show 1 ≤ 1000000; decide))) (Nat.le_refl 1) f).mono ?_
  rintro e w' ⟨v, rfl, hR, hb⟩
  obtain ⟨A', c', rfl⟩ := Kd.R_slice hR
  exact ⟨⟨A', _, c', rfl, (Wr.of_R hR).lower (Nat.le_trans hH hB.size)⟩, below_step hB hb⟩
theorem own_Left (W : World) (H0 : Nat) (hH : H0 ≤ W.heap.size) (A : Option Addr) (c : Nat) (a : List Int) (ha : Kd.C (Kd.int .u64) W A a.length a) (hc : a.length ≤ c) (p : List Int) (f : nat_Left.f a 0 = some (p, 0)) : Calls Tryd.prog 31 #[.slice A a.length c, .int .i64 0] W fun e w' => (∃ (Av : Option Addr) (nv cv : Nat), e = .returned (.tuple #[.slice Av nv cv, .int .i64 0]) ∧ Wr w' H0 (.slice Av nv cv)) ∧ Below W.heap.size W w' := by
  refine (nat_Left.calls A c a 0 p 0 W ha hc f).mono ?_
  rintro e w' ⟨v, rfl, hR, hb⟩
  obtain ⟨A', c', rfl⟩ := Kd.R_slice hR
  exact ⟨⟨A', _, c', rfl, (Wr.of_R hR).lower hH⟩, hb⟩
theorem own_Sum (W : World) (H0 : Nat) (hH : H0 ≤ W.heap.size) (A : Option Addr) (c : Nat) (a : List Int) (ha : Kd.C (Kd.int .u64) W A a.length a) (hc : a.length ≤ c) (p : List Int) (f : nat_Sum.f [a] = some (p, 0)) : Calls Tryd.prog 32 #[.slice (some ⟨W.heap.size, 0, none⟩) 1 1] (W.alloc (.cells #[.slice A a.length c] 23)) fun e w' => (∃ (Av : Option Addr) (nv cv : Nat), e = .returned (.tuple #[.slice Av nv cv, .int .i64 0]) ∧ Wr w' H0 (.slice Av nv cv)) ∧ Below W.heap.size W w' := by
  have hB := below_alloc (Below.refl W.heap.size W) (.cells #[.slice A a.length c] 23)
  refine (nat_Sum.calls (some ⟨W.heap.size, 0, none⟩) 1 [a] p 0 _ (C_one (Kd.C_below ha hB) hc (heap_alloc_new _ _)) (Nat.le_refl 1) f).mono ?_
  rintro e w' ⟨v, rfl, hR, hb⟩
  obtain ⟨A', c', rfl⟩ := Kd.R_slice hR
  exact ⟨⟨A', _, c', rfl, (Wr.of_R hR).lower (Nat.le_trans hH hB.size)⟩, below_step hB hb⟩
theorem own_Trim (W : World) (H0 : Nat) (hH : H0 ≤ W.heap.size) (A : Option Addr) (c : Nat) (a : List Int) (ha : Kd.C (Kd.int .u64) W A a.length a) (hc : a.length ≤ c) (p : List Int) (f : nat_Trim.f a = some p) : Calls Tryd.prog 23 #[.slice A a.length c] W fun e w' => (∃ (Av : Option Addr) (nv cv : Nat), e = .returned (.slice Av nv cv) ∧ Wr w' H0 (.slice Av nv cv)) ∧ Below W.heap.size W w' := by
  refine (nat_Trim.calls A c a p W ha hc f).mono ?_
  rintro e w' ⟨v, rfl, hR, hb⟩
  obtain ⟨A', c', rfl⟩ := Kd.R_slice hR
  exact ⟨⟨A', _, c', rfl, (Wr.of_R hR).lower hH⟩, hb⟩
theorem own_DivMod (W : World) (H0 : Nat) (hH : H0 ≤ W.heap.size) (A : Option Addr) (c : Nat) (a : List Int) (ha : Kd.C (Kd.int .u64) W A a.length a) (hc : a.length ≤ c) (p p2 : List Int) (f : nat_DivMod.f a [1] = some (p, p2, 0)) : Calls Tryd.prog 33 #[.slice A a.length c, .slice (some ⟨W.heap.size, 0, none⟩) 1 1] (W.alloc (.cells #[.int .u64 1] 36)) fun e w' => (∃ (Av : Option Addr) (nv cv : Nat) (Av2 : Option Addr) (nv2 cv2 : Nat), e = .returned (.tuple #[.slice Av nv cv, .slice Av2 nv2 cv2, .int .i64 0]) ∧ Wr w' H0 (.slice Av nv cv)) ∧ Below W.heap.size W w' := by
  have hB := below_alloc (Below.refl W.heap.size W) (.cells #[.int .u64 1] 36)
  have h1 : RowB (W.alloc (.cells #[.int .u64 1] 36)) W.heap.size [1] := heap_alloc_new _ _
  refine (nat_DivMod.calls A c a (some ⟨W.heap.size, 0, none⟩) 1 [1] p p2 0 _ (Kd.C_below ha hB) hc (R_C (h1.own' 0 (Nat.zero_le _) (by show 1 ≤ 1000000; decide))) (Nat.le_refl 1) f).mono ?_
  rintro e w' ⟨v, v2, rfl, hR, hR2, hb⟩
  obtain ⟨A', c', rfl⟩ := Kd.R_slice hR
  obtain ⟨A2', c2', rfl⟩ := Kd.R_slice hR2
  exact ⟨⟨A', _, c', A2', _, c2', rfl, (Wr.of_R hR).lower (Nat.le_trans hH hB.size)⟩, below_step hB hb⟩
theorem own_Or (W : World) (H0 : Nat) (hH : H0 ≤ W.heap.size) (A : Option Addr) (c : Nat) (a : List Int) (ha : Kd.C (Kd.int .u64) W A a.length a) (hc : a.length ≤ c) (A1 : Option Addr) (c1 : Nat) (b : List Int) (hb1 : Kd.C (Kd.int .u64) W A1 b.length b) (hc1 : b.length ≤ c1) (hj : LaidJ W) (p : List Int) (f : nat_Or.f a b = some (p, 0)) : Calls Tryd.prog 15 #[.slice A a.length c, .slice A1 b.length c1] W fun e w' => (∃ (Av : Option Addr) (nv cv : Nat), e = .returned (.tuple #[.slice Av nv cv, .int .i64 0]) ∧ Wr w' H0 (.slice Av nv cv)) ∧ Below W.heap.size W w' := by
  refine (nat_Or.calls A c a A1 c1 b p 0 W ha hc hb1 hc1 hj f).mono ?_
  rintro e w' ⟨v, rfl, hR, hb⟩
  obtain ⟨A', c', rfl⟩ := Kd.R_slice hR
  exact ⟨⟨A', _, c', rfl, (Wr.of_R hR).lower hH⟩, hb⟩
set_option maxRecDepth 100000 in
set_option maxHeartbeats 16000000 in
theorem NatOwn1 (A0 : Option Addr) (c0 : Nat) (l0 : List Int) (A1 : Option Addr) (c1 : Nat) (l1 : List Int) (w : World) (hr0 : Kd.C (Kd.int .u64) w A0 l0.length l0) (hc0 : l0.length ≤ c0) (hr1 : Kd.C (Kd.int .u64) w A1 l1.length l1) (hc1 : l1.length ≤ c1) (hj : LaidJ w)
    (a b p q r s t u u2 v : List Int) (k1 : Nat) (g1 : reckonerlaw02_few.f l0 20 = some a) (g2 : reckonerlaw02_few.f l1 20 = some b) (g3 : reckonerlaw02_few.f a 20 = some a) (g4 : reckonerlaw02_few.f b 20 = some b)
    (fp : nat_Add.f a [] = some (p, 0)) (fq : nat_Mul.f a [1] = some (q, 0)) (fr : nat_Left.f a 0 = some (r, 0)) (fs : nat_Sum.f [a] = some (s, 0)) (ft : nat_Trim.f a = some t) (fu : nat_DivMod.f a [1] = some (u, u2, 0)) (fv : nat_Or.f a b = some (v, 0)) (aw : reckonerlaw02_awake.f k1 = some true) :
    Calls Tryd.prog 5 #[.slice A0 l0.length c0, .slice A1 l1.length c1] w fun e w' => e = .returned (.bool true) ∧ Below w.heap.size w w' := by
  have HR0 := Aside0.mk hr0
  have HR1 := Aside0.mk hr1
  have HJ0 := Aside0.mk hj
  clear hr0 hr1 hj
  go_enter Tryd.func5, Tryd.ntmps5
  try simp only [List.append]
  go_wp2_with fail
  refine (reckonerlaw02_few.calls A0 c0 l0 20 a _ HR0.out hc0 g1).mono ?_
  rintro e w1 ⟨x1, rfl, hR, hb⟩
  obtain ⟨Aa, ca, rfl⟩ := Kd.R_slice hR
  have HB1 := Aside0.mk hb
  have HCa := Aside0.mk (R_C hR)
  have HLa := Aside0.mk (R_cap hR)
  have HRn := Aside0.mk (Kd.C_below HR1.out hb)
  have HJn := Aside0.mk (HJ0.out.below hb)
  clear hR hb HR0 HR1 HJ0 g1 hc0
  go_wp2_with fail
  refine (reckonerlaw02_few.calls A1 c1 l1 20 b _ HRn.out hc1 g2).mono ?_
  rintro e w2 ⟨x2, rfl, hR, hb⟩
  obtain ⟨Ab, cb, rfl⟩ := Kd.R_slice hR
  have HB2 := Aside0.mk (below_step HB1.out hb)
  have HCa2 := Aside0.mk (Kd.C_below HCa.out hb)
  have HCb2 := Aside0.mk (R_C hR)
  have HLb := Aside0.mk (R_cap hR)
  have HJ2 := Aside0.mk (HJn.out.below hb)
  clear hR hb HRn HB1 HCa HJn g2 hc1
  go_wp2_with fail
  refine (reckonerlaw02_few.calls Aa ca a 20 a _ HCa2.out HLa.out g3).mono ?_
  rintro e w3 ⟨x3, rfl, hR, hb⟩
  obtain ⟨Ac, cc, rfl⟩ := Kd.R_slice hR
  have HB3 := Aside0.mk (below_step HB2.out hb)
  have HCa3 := Aside0.mk (Kd.C_below HCa2.out hb)
  have HCb3 := Aside0.mk (Kd.C_below HCb2.out hb)
  have HCc3 := Aside0.mk (R_C hR)
  have HJ3 := Aside0.mk (HJ2.out.below hb)
  clear hR hb HB2 HCa2 HCb2 HJ2 g3
  go_wp2_with fail
  refine (reckonerlaw02_few.calls Ab cb b 20 b _ HCb3.out HLb.out g4).mono ?_
  rintro e w4 ⟨x4, rfl, hR, hb⟩
  obtain ⟨Ad, cd, rfl⟩ := Kd.R_slice hR
  have HBw := Aside0.mk (below_step HB3.out hb)
  have HCa := Aside0.mk (Kd.C_below HCa3.out hb)
  have HCb := Aside0.mk (Kd.C_below HCb3.out hb)
  have HCc := Aside0.mk (Kd.C_below HCc3.out hb)
  have HCd := Aside0.mk (R_C hR)
  have HJ := Aside0.mk (HJ3.out.below hb)
  have HB := Aside0.mk (Below.refl w4.heap.size w4)
  clear hR hb HB3 HCa3 HCb3 HCc3 HJ3 g4
  go_wp2_with fail
  refine (own_Add _ w4.heap.size HB.out.size Aa ca a (Kd.C_below HCa.out HB.out) HLa.out p fp).mono ?_
  rintro e z0 ⟨⟨B0, n0, d0, rfl, hw0⟩, hb⟩
  have HW0 := Aside0.mk hw0
  have HBn := Aside0.mk (below_step HB.out hb)
  clear hb HB hw0 fp
  have HB := HBn
  clear HBn
  go_wp2_with fail
  refine (own_Mul _ w4.heap.size HB.out.size Aa ca a (Kd.C_below HCa.out HB.out) HLa.out q fq).mono ?_
  rintro e z1 ⟨⟨B1, n1, d1, rfl, hw1⟩, hb⟩
  have Hx0 := Aside0.mk (HW0.out.below hb)
  have HW1 := Aside0.mk hw1
  have HBn := Aside0.mk (below_step HB.out hb)
  clear hb HB hw1 fq HW0
  have HB := HBn
  clear HBn
  have HW0 := Hx0
  clear Hx0
  go_wp2_with fail
  refine (own_Left _ w4.heap.size HB.out.size Aa ca a (Kd.C_below HCa.out HB.out) HLa.out r fr).mono ?_
  rintro e z2 ⟨⟨B2, n2, d2, rfl, hw2⟩, hb⟩
  have Hx0 := Aside0.mk (HW0.out.below hb)
  have Hx1 := Aside0.mk (HW1.out.below hb)
  have HW2 := Aside0.mk hw2
  have HBn := Aside0.mk (below_step HB.out hb)
  clear hb HB hw2 fr HW0 HW1
  have HB := HBn
  clear HBn
  have HW0 := Hx0
  clear Hx0
  have HW1 := Hx1
  clear Hx1
  go_wp2_with fail
  refine (own_Sum _ w4.heap.size HB.out.size Aa ca a (Kd.C_below HCa.out HB.out) HLa.out s fs).mono ?_
  rintro e z3 ⟨⟨B3, n3, d3, rfl, hw3⟩, hb⟩
  have Hx0 := Aside0.mk (HW0.out.below hb)
  have Hx1 := Aside0.mk (HW1.out.below hb)
  have Hx2 := Aside0.mk (HW2.out.below hb)
  have HW3 := Aside0.mk hw3
  have HBn := Aside0.mk (below_step HB.out hb)
  clear hb HB hw3 fs HW0 HW1 HW2
  have HB := HBn
  clear HBn
  have HW0 := Hx0
  clear Hx0
  have HW1 := Hx1
  clear Hx1
  have HW2 := Hx2
  clear Hx2
  go_wp2_with fail
  refine (own_Trim _ w4.heap.size HB.out.size Aa ca a (Kd.C_below HCa.out HB.out) HLa.out t ft).mono ?_
  rintro e z4 ⟨⟨B4, n4, d4, rfl, hw4⟩, hb⟩
  have Hx0 := Aside0.mk (HW0.out.below hb)
  have Hx1 := Aside0.mk (HW1.out.below hb)
  have Hx2 := Aside0.mk (HW2.out.below hb)
  have Hx3 := Aside0.mk (HW3.out.below hb)
  have HW4 := Aside0.mk hw4
  have HBn := Aside0.mk (below_step HB.out hb)
  clear hb HB hw4 ft HW0 HW1 HW2 HW3
  have HB := HBn
  clear HBn
  have HW0 := Hx0
  clear Hx0
  have HW1 := Hx1
  clear Hx1
  have HW2 := Hx2
  clear Hx2
  have HW3 := Hx3
  clear Hx3
  go_wp2_with fail
  refine (own_DivMod _ w4.heap.size HB.out.size Aa ca a (Kd.C_below HCa.out HB.out) HLa.out u u2 fu).mono ?_
  rintro e z5 ⟨⟨B5, n5, d5, B5_, n5_, d5_, rfl, hw5⟩, hb⟩
  have Hx0 := Aside0.mk (HW0.out.below hb)
  have Hx1 := Aside0.mk (HW1.out.below hb)
  have Hx2 := Aside0.mk (HW2.out.below hb)
  have Hx3 := Aside0.mk (HW3.out.below hb)
  have Hx4 := Aside0.mk (HW4.out.below hb)
  have HW5 := Aside0.mk hw5
  have HBn := Aside0.mk (below_step HB.out hb)
  clear hb HB hw5 fu HW0 HW1 HW2 HW3 HW4
  have HB := HBn
  clear HBn
  have HW0 := Hx0
  clear Hx0
  have HW1 := Hx1
  clear Hx1
  have HW2 := Hx2
  clear Hx2
  have HW3 := Hx3
  clear Hx3
  have HW4 := Hx4
  clear Hx4
  go_wp2_with fail
  refine (own_Or _ w4.heap.size HB.out.size Aa ca a (Kd.C_below HCa.out HB.out) HLa.out Ab cb b (Kd.C_below HCb.out HB.out) HLb.out (HJ.out.below HB.out) v fv).mono ?_
  rintro e z6 ⟨⟨B6, n6, d6, rfl, hw6⟩, hb⟩
  have Hx0 := Aside0.mk (HW0.out.below hb)
  have Hx1 := Aside0.mk (HW1.out.below hb)
  have Hx2 := Aside0.mk (HW2.out.below hb)
  have Hx3 := Aside0.mk (HW3.out.below hb)
  have Hx4 := Aside0.mk (HW4.out.below hb)
  have Hx5 := Aside0.mk (HW5.out.below hb)
  have HW6 := Aside0.mk hw6
  have HBn := Aside0.mk (below_step HB.out hb)
  clear hb HB hw6 fv HW0 HW1 HW2 HW3 HW4 HW5
  have HB := HBn
  clear HBn
  have HW0 := Hx0
  clear Hx0
  have HW1 := Hx1
  clear Hx1
  have HW2 := Hx2
  clear Hx2
  have HW3 := Hx3
  clear Hx3
  have HW4 := Hx4
  clear Hx4
  have HW5 := Hx5
  clear Hx5
  clear HJ
  have hal := below_alloc (Below.refl z6.heap.size z6) (.cells #[.slice B0 n0 d0, .slice B1 n1 d1, .slice B2 n2 d2, .slice B3 n3 d3, .slice B4 n4 d4, .slice B5 n5 d5, .slice B6 n6 d6] 23)
  have HI := Aside0.mk (show OwnN w4 z6.heap.size [.slice B0 n0 d0, .slice B1 n1 d1, .slice B2 n2 d2, .slice B3 n3 d3, .slice B4 n4 d4, .slice B5 n5 d5, .slice B6 n6 d6] (z6.alloc (.cells #[.slice B0 n0 d0, .slice B1 n1 d1, .slice B2 n2 d2, .slice B3 n3 d3, .slice B4 n4 d4, .slice B5 n5 d5, .slice B6 n6 d6] 23)) from ⟨fun v hv => by
    simp only [List.mem_cons, List.not_mem_nil, or_false] at hv
    rcases hv with rfl | rfl | rfl | rfl | rfl | rfl | rfl
    · exact HW0.out.below hal
    · exact HW1.out.below hal
    · exact HW2.out.below hal
    · exact HW3.out.below hal
    · exact HW4.out.below hal
    · exact HW5.out.below hal
    · exact HW6.out.below hal, heap_alloc_new _ _, below_alloc HB.out _⟩)
  clear hal HW0 HW1 HW2 HW3 HW4 HW5 HW6 HB
  go_wp2
  generalize z6.alloc (.cells #[.slice B0 n0 d0, .slice B1 n1 d1, .slice B2 n2 d2, .slice B3 n3 d3, .slice B4 n4 d4, .slice B5 n5 d5, .slice B6 n6 d6] 23) = W0 at HI ⊢
  generalize z6.heap.size = G at HI ⊢
  obtain ⟨vs, hvs⟩ : ∃ z : List Value, z = [.slice B0 n0 d0, .slice B1 n1 d1, .slice B2 n2 d2, .slice B3 n3 d3, .slice B4 n4 d4, .slice B5 n5 d5, .slice B6 n6 d6] := ⟨_, rfl⟩
  have hvl : vs.length = 7 := by rw [hvs]; rfl
  rw [← hvs] at HI
  clear hvs
  have HVL := Aside0.mk hvl
  clear hvl
  go_loopw [24, 25] (fun v24 v25 W => ∃ k : Nat, k ≤ 7 ∧ v24 = .int .i64 k ∧ Aside0 (OwnN w4 G vs W)) (fun v24 _ _ => 7 - (intOf v24).toNat)
  case atStart => exact ⟨0, by decide, rfl, HI⟩
  case round =>
    clear HI
    obtain ⟨kk, hk, rfl, HI⟩ := hrel
    by_cases hlt : kk < 7
    · have c1 : decide ((kk : Int) < 7) = true := decide_eq_true (by omega)
      have hkv : kk < vs.length := by rw [HVL.out]; exact hlt
      obtain ⟨A, n, c, hv, hm, hn⟩ := HI.out.wr vs[kk] (List.getElem_mem hkv)
      have hm2 : n ≤ 9223372036854775807 := by unfold maxLen at hm; omega
      have HV := Aside0.mk hv
      clear hv hn hm
      go_wp2
      go_loopw [25] (fun v25 W => ∃ j : Nat, j ≤ n ∧ v25 = .int .i64 j ∧ Aside0 (OwnN w4 G vs W)) (fun v25 _ => n - (intOf v25).toNat)
      case atStart => exact ⟨0, Nat.zero_le _, rfl, HI⟩
      case round =>
        clear HI
        obtain ⟨j, hj, rfl, HI⟩ := hrel
        have hx : wr.cell? ⟨G, kk, none⟩ = some (.slice A n c) := by
          rw [blk_cell HI.out.all, List.getElem?_toArray, List.getElem?_eq_getElem hkv, HV.out]
        have k0 : (0 : Int) ≤ (kk : Int) := by omega
        have k1 : (kk : Int) < 7 := by omega
        by_cases hjl : j < n
        · have c2 : decide ((j : Int) < (n : Int)) = true := decide_eq_true (by omega)
          have j0 : (0 : Int) ≤ (j : Int) := by omega
          have j1 : (j : Int) < (n : Int) := by omega
          have jw : wrap64 ((j : Int) + 1) = (j : Int) + 1 := by unfold wrap64; omega
          obtain ⟨A2, n2, cc2, hv2, _, hn2⟩ := HI.out.wr vs[kk] (List.getElem_mem hkv)
          rw [HV.out] at hv2
          injection hv2 with e1 e2 e3
          subst e1
          subst e2
          subst e3
          obtain ⟨g, cells, hA, hb, hc, hcell⟩ := hn2 (by omega)
          subst hA
          obtain ⟨x, hxj⟩ := hcell j hjl
          have hy : wr.cell? ⟨g, j, none⟩ = some (.int .u64 x) := by rw [blk_cell hc]; exact hxj
          have hf : wr.frozen? ⟨g, j, none⟩ = false := blk_frozen hc j
          have HN := Aside0.mk (HI.out.set (List.getElem_mem hkv) HV.out hb hc j)
          clear hn2 hb hc hcell hxj HI
          go_wp2
          go_roundw
          case rel => exact ⟨j + 1, by omega, by first | go_num | (rw [jw]; rfl), HN⟩
          case measure => first | (simp [intOf]; omega) | (simp [intOf, jw]; omega)
        · obtain rfl : j = n := by omega
          have c2 : decide ((j : Int) < (j : Int)) = false := decide_eq_false (by omega)
          go_wp2
          go_roundw
          case rel => exact ⟨kk + 1, by omega, by go_num, HI⟩
          case measure => simp [intOf]; omega
    · have c1 : decide ((kk : Int) < 7) = false := decide_eq_false (by omega)
      have HB := Aside0.mk HI.out.bel
      clear HI hlt hk HVL
      go_wp2
      go_loopw [26] (fun i wr => ∃ k : Nat, k ≤ a.length ∧ i = .int .i64 k ∧ Aside0 (Below w4.heap.size w4 wr)) (fun i _ => a.length - (intOf i).toNat)
      case atStart => exact ⟨0, Nat.zero_le _, rfl, HB⟩
      case round =>
        clear HB
        obtain ⟨k, hk, rfl, HB⟩ := hrel
        by_cases hlt : k < a.length
        · have hlti : (k : Int) < (a.length : Int) := by omega
          have c2 : decide ((k : Int) < (a.length : Int)) = true := decide_eq_true hlti
          have k0 : (0 : Int) ≤ (k : Int) := by omega
          have hln : a.length ≤ 9223372036854775807 := HCa.out.2.1
          have jw : wrap64 ((k : Int) + 1) = (k : Int) + 1 := by unfold wrap64; omega
          obtain ⟨ad1, q1, y1⟩ := Kd.at_int (Kd.C_below HCa.out HB.out) (k : Int) (by omega) hlti
          obtain ⟨ad2, q2, y2⟩ := Kd.at_int (Kd.C_below HCc.out HB.out) (k : Int) (by omega) hlti
          rw [Int.toNat_natCast] at y1 y2
          generalize rd a (k : Int) = z at y1 y2
          subst q1
          subst q2
          go_wp2
          go_region
          go_wp2
          go_roundw
          case rel => exact ⟨k + 1, by omega, by first | go_num | (rw [jw]; rfl), ⟨below_drew1 HB.out⟩⟩
          case measure => first | (simp [intOf]; omega) | (simp [intOf, jw]; omega)
        · obtain rfl : k = a.length := by omega
          have c2 : decide ((a.length : Int) < (a.length : Int)) = false := decide_eq_false (by omega)
          go_wp2
          go_loopw [27] (fun i wr => ∃ k : Nat, k ≤ b.length ∧ i = .int .i64 k ∧ Aside0 (Below w4.heap.size w4 wr)) (fun i _ => b.length - (intOf i).toNat)
          case atStart => exact ⟨0, Nat.zero_le _, rfl, HB⟩
          case round =>
            clear HB
            obtain ⟨k, hk, rfl, HB⟩ := hrel
            by_cases hlt : k < b.length
            · have hlti : (k : Int) < (b.length : Int) := by omega
              have c2 : decide ((k : Int) < (b.length : Int)) = true := decide_eq_true hlti
              have k0 : (0 : Int) ≤ (k : Int) := by omega
              have hln : b.length ≤ 9223372036854775807 := HCb.out.2.1
              have jw : wrap64 ((k : Int) + 1) = (k : Int) + 1 := by unfold wrap64; omega
              obtain ⟨ad1, q1, y1⟩ := Kd.at_int (Kd.C_below HCb.out HB.out) (k : Int) (by omega) hlti
              obtain ⟨ad2, q2, y2⟩ := Kd.at_int (Kd.C_below HCd.out HB.out) (k : Int) (by omega) hlti
              rw [Int.toNat_natCast] at y1 y2
              generalize rd b (k : Int) = z at y1 y2
              subst q1
              subst q2
              go_wp2
              go_region
              go_wp2
              go_roundw
              case rel => exact ⟨k + 1, by omega, by first | go_num | (rw [jw]; rfl), ⟨below_drew1 HB.out⟩⟩
              case measure => first | (simp [intOf]; omega) | (simp [intOf, jw]; omega)
            · obtain rfl : k = b.length := by omega
              have c2 : decide ((b.length : Int) < (b.length : Int)) = false := decide_eq_false (by omega)
              clear HCa HCb HCc HCd
              go_wp2_with fail
              refine (reckonerlaw02_awake.calls k1 true _ aw).mono ?_
              rintro e zz ⟨rfl, hb⟩
              have HBn := Aside0.mk (below_step HBw.out (below_step HB.out hb))
              clear hb HB
              go_wp2
              go_ret
              exact ⟨rfl, HBn.out⟩
end Go.Proofs.YtkkkbalefnileaaDoor.Ex
/- The reference's Parse; what every law asks beside: awake. -/
namespace Go.Proofs.YtkkkbalefnileaaDoor.Ex
open Go.RowKit Go.Proofs.YtkkkbalefnileaaDoorW.PrintWords Go.Proofs.YtkkkbalefnileaaDoorW.PrintLast Go.Proofs.YtkkkbalefnileaaDoorW.PrintMore Go.Proofs.YtkkkbalefnileaaDoor.T
set_option linter.unusedVariables false
set_option linter.unusedSimpArgs false

/-- The number of the digits from place i on, behind v. -/
def pv (s : ByteArray) : Nat → Nat → Int → Int
  | _, 0, v => v
  | i, n + 1, v => pv s (i + 1) n (v * 10 + (bt s (i : Int) - 48) % 256)
theorem Parse_loop (s : ByteArray) (hs : s.size ≤ 1000) (n : Nat) : ∀ (i : Nat) (v : Int), i + n = s.size → 0 ≤ v → v < W64 ^ (i + 1) → Ev (fun k => reckonerref02_Parse.l0 k s (can v) (i : Int)) (can (pv s i n v)) := by
  induction n with
  | zero =>
    intro i v hi h0 h1
    refine Ev.now' fun k => ?_
    rw [reckonerref02_Parse.l0, if_neg (by omega)]
    rfl
  | succ n IH =>
    intro i v hi h0 h1
    have e1 : wrap64 ((i : Int) + 1) = ((i + 1 : Nat) : Int) := by rw [← w64_nat (i + 1) (by omega)]; rfl
    have hd0 : 0 ≤ (bt s (i : Int) - 48) % 256 := Int.emod_nonneg _ (by decide)
    have hd1 : (bt s (i : Int) - 48) % 256 < 256 := Int.emod_lt_of_pos _ (by decide)
    have hdw : isW ((bt s (i : Int) - 48) % 256) := by unfold isW; rw [W64_eq]; omega
    have htw : isW 10 := by decide
    have hl := can_short h0 h1
    have r1 := RWord_ev 10 htw
    have r2 := RMul_ev (can v) (can 10) (can_in h0) (can_in (by decide)) (by omega) (by decide)
    rw [can_val h0, can_val (by decide)] at r2
    have r3 := RWord_ev _ hdw
    have hp := pow_posB W64_pos (i + 1)
    have hb : v * 10 + (bt s (i : Int) - 48) % 256 < W64 ^ (i + 1 + 1) := by
      rw [Int.pow_succ _ (i + 1)]
      have h2 : W64 ^ (i + 1) * 1000 ≤ W64 ^ (i + 1) * W64 := Int.mul_le_mul_of_nonneg_left (by decide) (Int.le_of_lt hp)
      omega
    have hm0 : 0 ≤ v * 10 := by omega
    have hm1 : v * 10 < W64 ^ (i + 1 + 1) := by omega
    have hml := can_short hm0 hm1
    have hwl : (can ((bt s (i : Int) - 48) % 256)).length ≤ 1 := can_short hd0 (by rw [Int.pow_succ, Int.pow_zero, Int.one_mul]; exact hdw.2)
    have r4 := RAdd_ev (can (v * 10)) (can ((bt s (i : Int) - 48) % 256)) (can_in hm0) (can_in hd0) (by omega) (by omega)
    rw [can_val hm0, can_val hd0] at r4
    have ih := IH (i + 1) (v * 10 + (bt s (i : Int) - 48) % 256) (by omega) (by omega) hb
    refine Ev.step (f := fun k => (reckonerref02_FromWord.f k 10).bind fun t => (reckonerref02_Mul.f k (can v) t).bind fun t2 => (reckonerref02_FromWord.f k ((bt s (i : Int) - 48) % 256)).bind fun t3 => (reckonerref02_Add.f k t2 t3).bind fun t4 => reckonerref02_Parse.l0 k s t4 ((i + 1 : Nat) : Int)) (fun k => ?_) (Ev.bind r1 (Ev.bind r2 (Ev.bind r3 (Ev.bind r4 ih))))
    show reckonerref02_Parse.l0 (k + 1) s (can v) (i : Int) = _
    rw [reckonerref02_Parse.l0, if_pos (by omega)]
    simp only [if_pos (show (0 : Int) ≤ (i : Int) by omega), e1]
theorem Parse_ev (s : ByteArray) (hs : s.size ≤ 1000) (v : Int) (h : pv s 0 s.size 0 = v) : Ev (fun k => reckonerref02_Parse.f k s) (can v) := by
  have h1 := Parse_loop s hs s.size 0 0 (by omega) (Int.le_refl 0) (by decide)
  rw [h] at h1
  exact h1
theorem aw1 : nat_Pow.f [10] 20 = some (can 100000000000000000000, 0) := by
  have e : valB W64 [10] ^ (20 : Int).toNat = 100000000000000000000 := by decide
  have hl : (can 100000000000000000000).length ≤ 4096 := Nat.le_trans (can_short (n := 2) (by decide) (by decide)) (by decide)
  unfold nat_Pow.f
  rw [if_pos (by decide), if_pos (by decide), if_neg (by decide), e]
  unfold fitV
  rw [if_pos hl]
theorem aw2 : nat_Square.f [18446744073709551615] = some (can 340282366920938463426481119284349108225, 0) := by
  have e : valB W64 [18446744073709551615] * valB W64 [18446744073709551615] = 340282366920938463426481119284349108225 := by decide
  have hl : (can 340282366920938463426481119284349108225).length ≤ 4096 := Nat.le_trans (can_short (n := 2) (by decide) (by decide)) (by decide)
  unfold nat_Square.f
  rw [if_pos (by decide), if_pos (by decide), e]
  unfold fitV
  rw [if_pos hl]
theorem aw3 : nat_DivMod.f [7766279631452241920, 5] [3] = some (can 33333333333333333333, can 1, 0) := by
  have e1 : valB W64 [7766279631452241920, 5] / valB W64 [3] = 33333333333333333333 := by decide
  have e2 : valB W64 [7766279631452241920, 5] % valB W64 [3] = 1 := by decide
  unfold nat_DivMod.f
  rw [if_pos (by decide), if_pos (by decide), if_neg (by decide), e1, e2]
theorem aw4 : nat_Sub.f [1] [2] = some ([], 8) := by
  unfold nat_Sub.f
  rw [if_pos (by decide), if_pos (by decide), if_pos (by decide)]
theorem awake_ev : Ev (fun k => reckonerlaw02_awake.f k) true := by
  have p1 := Parse_ev ⟨#[49, 48, 48, 48, 48, 48, 48, 48, 48, 48, 48, 48, 48, 48, 48, 48, 48, 48, 48, 48, 48]⟩ (by decide) 100000000000000000000 (by decide +kernel)
  have p2 := Parse_ev ⟨#[51, 51, 51, 51, 51, 51, 51, 51, 51, 51, 51, 51, 51, 51, 51, 51, 51, 51, 51, 51]⟩ (by decide) 33333333333333333333 (by decide +kernel)
  have l1 : (can 100000000000000000000).length ≤ 2 := can_short (by decide) (by decide)
  have l2 : (can 33333333333333333333).length ≤ 2 := can_short (by decide) (by decide)
  have i1 := RIs_ev (can 100000000000000000000) (can_in (by decide)) (by omega) (can_val (by decide))
  have i2 := RIs_ev (v := 340282366920938463426481119284349108225) [1, 18446744073709551614] (by decide) (by decide) (by decide)
  have i3 := RIs_ev (can 33333333333333333333) (can_in (by decide)) (by omega) (can_val (by decide))
  have i4 := RIs_ev (v := 1) [1] (by decide) (by decide) (by decide)
  refine Ev.congr (f := fun k => (reckonerref02_Parse.f k (⟨#[49, 48, 48, 48, 48, 48, 48, 48, 48, 48, 48, 48, 48, 48, 48, 48, 48, 48, 48, 48, 48]⟩ : ByteArray)).bind fun t280 => ((reckonerref02_Is.f k (can 100000000000000000000) t280).bind fun t283 => (if t283 = true then ((reckonerref02_Is.f k (can 340282366920938463426481119284349108225) (([1, 18446744073709551614] : List Int))).bind fun t287 => (if t287 = true then ((reckonerref02_Parse.f k (⟨#[51, 51, 51, 51, 51, 51, 51, 51, 51, 51, 51, 51, 51, 51, 51, 51, 51, 51, 51, 51]⟩ : ByteArray)).bind fun t288 => ((reckonerref02_Is.f k (can 33333333333333333333) t288).bind fun t291 => (if t291 = true then ((reckonerref02_Is.f k (can 1) (([1] : List Int))).bind fun t295 => (if t295 = true then (some ((8 : Int) == 8)) else (none))) else (none)))) else (none))) else (none)))) (fun k => ?_) (Ev.bind p1 (Ev.bind i1 ?_))
  · show reckonerlaw02_awake.f k = _
    unfold reckonerlaw02_awake.f
    rw [aw1, aw2, aw3, aw4]
    rfl
  · simp only [if_true]
    refine Ev.bind i2 ?_
    simp only [if_true]
    refine Ev.bind p2 (Ev.bind i3 ?_)
    simp only [if_true]
    refine Ev.bind i4 ?_
    simp only [if_true]
    exact Ev.now true
end Go.Proofs.YtkkkbalefnileaaDoor.Ex
/- NatOwn: the plain part, and the walk with it. -/
namespace Go.Proofs.YtkkkbalefnileaaDoor.Ex
open Go.RowKit Go.Proofs.YtkkkbalefnileaaDoorW.PrintWords Go.Proofs.YtkkkbalefnileaaDoorW.PrintLast Go.Proofs.YtkkkbalefnileaaDoorW.PrintMore Go.Proofs.YtkkkbalefnileaaDoor.T
set_option linter.unusedVariables false
set_option linter.unusedSimpArgs false

theorem NatOwn_true (A0 : Option Addr) (c0 : Nat) (l0 : List Int) (A1 : Option Addr) (c1 : Nat) (l1 : List Int) (w : World) (hr0 : Kd.C (Kd.int .u64) w A0 l0.length l0) (hc0 : l0.length ≤ c0) (hr1 : Kd.C (Kd.int .u64) w A1 l1.length l1) (hc1 : l1.length ≤ c1) (hj : LaidJ w)
    (hm0 : l0.length * 8 ≤ 140737488351232) (hw0 : inW l0) (hm1 : l1.length * 8 ≤ 140737488351232) (hw1 : inW l1) :
    Calls Tryd.prog 5 #[.slice A0 l0.length c0, .slice A1 l1.length c1] w fun e w' => e = .returned (.bool true) ∧ Below w.heap.size w w' := by
  have g1 := few_some l0 20 (by omega)
  have g2 := few_some l1 20 (by omega)
  have ha := inW_take hw0 20
  have hb := inW_take hw1 20
  have hla : (l0.take 20).length ≤ 20 := by rw [List.length_take]; omega
  have hlb : (l1.take 20).length ≤ 20 := by rw [List.length_take]; omega
  generalize l0.take 20 = a at *
  generalize l1.take 20 = b at *
  have g3 := few_some a 20 (by omega)
  have g4 := few_some b 20 (by omega)
  rw [List.take_of_length_le hla] at g3
  rw [List.take_of_length_le hlb] at g4
  have va := valW_nonneg ha
  have la := can_le ha
  have i0 : inW ([] : List Int) := fun x hx => by cases hx
  have i1 : inW [1] := fun x hx => by rw [List.mem_singleton.1 hx]; decide
  have v1 : valB W64 [1] = 1 := by simp [valB]
  have ff : fitV (valB W64 a) = (can (valB W64 a), 0) := by unfold fitV; rw [if_pos (by omega)]
  have fp : nat_Add.f a [] = some (can (valB W64 a), 0) := by
    unfold nat_Add.f
    rw [if_pos ⟨ha, i0⟩, if_pos ⟨by omega, by decide⟩, show valB W64 [] = 0 from rfl, Int.add_zero, ff]
  have fq : nat_Mul.f a [1] = some (can (valB W64 a), 0) := by
    unfold nat_Mul.f
    rw [if_pos ⟨ha, i1⟩, if_pos ⟨by omega, by decide⟩, v1, Int.mul_one, ff]
  have fr : nat_Left.f a 0 = some (can (valB W64 a), 0) := by
    unfold nat_Left.f
    rw [if_pos ha, if_pos (by omega), if_pos (by decide), show (0 : Int).toNat = 0 from rfl, Int.pow_zero, Int.mul_one, ff]
  have sv : sumV [a] = valB W64 a := by rw [sumV_cons, sumV_nil]; omega
  have fs : nat_Sum.f [a] = some (can (valB W64 a), 0) := by
    unfold nat_Sum.f
    rw [if_pos (fun x hx => by rw [List.mem_singleton.1 hx]; exact ha), if_pos (by show (1 : Nat) ≤ 1000; decide), if_pos (fun x hx => by rw [List.mem_singleton.1 hx]; omega), sv, ff]
  have ft : nat_Trim.f a = some (can (valB W64 a)) := by unfold nat_Trim.f; rw [if_pos ⟨ha, by omega⟩]
  have fu : nat_DivMod.f a [1] = some (can (valB W64 a / 1), can (valB W64 a % 1), 0) := by
    unfold nat_DivMod.f
    rw [if_pos ⟨ha, i1⟩, if_pos ⟨by omega, by decide⟩, v1, if_neg (by decide)]
  have fj : nat_join.f a b orS = some (can (valB W64 (joinR .or a b)), 0) := by
    unfold nat_join.f
    rw [if_pos ⟨ha, hb⟩, if_pos ⟨by omega, by omega⟩, if_neg (by decide), if_pos rfl]
  have fv : nat_Or.f a b = some (can (valB W64 (joinR .or a b)), 0) := by unfold nat_Or.f; rw [fj, Option.bind_some]
  obtain ⟨k1, h1⟩ := Ev.rounds awake_ev
  exact NatOwn1 A0 c0 l0 A1 c1 l1 w hr0 hc0 hr1 hc1 hj a b _ _ _ _ _ _ _ _ k1 g1 g2 g3 g4 fp fq fr fs ft fu fv h1
theorem pureNatOwn : True := trivial
end Go.Proofs.YtkkkbalefnileaaDoor.Ex
namespace Go.Proofs.YtkkkbalefnileaaDoor.T
open Go.RowKit Go.Proofs.YtkkkbalefnileaaDoorW.PrintWords Go.Proofs.YtkkkbalefnileaaDoorW.PrintLast Go.Proofs.YtkkkbalefnileaaDoorW.PrintMore
theorem reckonerlaw02_NatOwn.walk (P : True) (a0 : Option Addr) (len0 cap0 : Nat) (z0 : List Int) (a1 : Option Addr) (len1 cap1 : Nat) (z1 : List Int) (w : World)
    (w0 : (a0 = none ∧ len0 = 0 ∧ cap0 = 0 ∧ z0 = []) ∨ ∃ x, a0 = some x ∧ len0 ≤ cap0 ∧ cap0 ≤ maxLen ∧ z0.length = cap0 ∧ (∀ i, i < z0.length → w.cell? (x.add i) = some (.int .u64 (z0.getD i 0))) ∧ ∀ n ∈ z0, (Lit.int .u64 n).wf = true) (y0 : len0 * 8 ≤ 140737488351232)
    (w1 : (a1 = none ∧ len1 = 0 ∧ cap1 = 0 ∧ z1 = []) ∨ ∃ x, a1 = some x ∧ len1 ≤ cap1 ∧ cap1 ≤ maxLen ∧ z1.length = cap1 ∧ (∀ i, i < z1.length → w.cell? (x.add i) = some (.int .u64 (z1.getD i 0))) ∧ ∀ n ∈ z1, (Lit.int .u64 n).wf = true) (y1 : len1 * 8 ≤ 140737488351232) (hj : Ex.LaidJ w) :
    Calls Tryd.prog 5 #[.slice a0 len0 cap0, .slice a1 len1 cap1] w fun e w' => e = .returned (.bool true) ∧ Below w.heap.size w w' := by
  obtain ⟨l0, rfl, hr0, hm0, hw0, hc0⟩ := ReadsInt.ofRowC w0
  obtain ⟨l1, rfl, hr1, hm1, hw1, hc1⟩ := ReadsInt.ofRowC w1
  exact Ex.NatOwn_true _ _ l0 _ _ l1 w (Kd.C_of_reads (d := (0 : Int)) (h1 := fun _ => rfl) hr0) hc0 (Kd.C_of_reads (d := (0 : Int)) (h1 := fun _ => rfl) hr1) hc1 hj y0 (Ex.inW_of_wf hw0) y1 (Ex.inW_of_wf hw1)
end Go.Proofs.YtkkkbalefnileaaDoor.T
/- The laid map of the ways to join, out of a row's condition. -/
namespace Go.Proofs.YtkkkbalefnileaaDoor.Ex
open Go.RowKit Go.WideMaps Go.WideElems
set_option linter.unusedVariables false
set_option linter.unusedSimpArgs false

theorem gJ : Tryd.prog.globalNamed "reckoner/nat.joins" = some 0 := by kernel_rfl
theorem tJ : (Tryd.prog.globals[0]?).map (·.type) = some 88 := by kernel_rfl
theorem uJ : Tryd.prog.underlying 88 = some (.map 9 87) := by kernel_rfl
theorem uJs : Tryd.prog.underlying 9 = some .string := by kernel_rfl
theorem uJf : Tryd.prog.underlying 87 = some (.func #[36, 36] #[36] false) := by kernel_rfl
theorem elemAt_func {P : Program} {W : World} {sp : Nat → Bool} {n : Nat} {t : TypeId} {ps rs : Array TypeId} {va : Bool} {v : Value} {b : UInt8} {r : List UInt8} {q : List MemPlace} {f0 : FuncId}
    (ht : P.underlying t = some (.func ps rs va)) (hone : ((List.range P.funcs.size).filter fun f => (P.funcs[f]?).any (·.name.toUTF8.data.toList == b :: r)) = [f0])
    (h : elemAt (funcToken P) P W 0 sp true n t v = some (.held (b :: r), q)) : v = .func (.func f0) #[] #[] := by
  unfold elemAt at h
  split at h
  · rename_i hf
    refine func_of_trod (w := W) (base := 0) (sp := sp) (fuel := n) (q := q) ht hone ?_
    cases v <;> first | exact h | (unfold Value.formed at hf; rw [ht] at hf; cases hf)
  · cases h
theorem look_of {W : World} {es : Array MapEntry} {clock bm m : Nat} {d : DataW (List UInt8)} (hb : W.heap[bm]? = some (.map es clock))
    (F : Fit Tryd.prog 9 (elemAt (funcToken Tryd.prog) Tryd.prog W 0 (fun _ => true) true m 87) es clock)
    (hx : d = .map ((es.toList.map (rg Tryd.prog 9 (elemAt (funcToken Tryd.prog) Tryd.prog W 0 (fun _ => true) true m 87))).foldr DataW.insert []))
    (s : ByteArray) (f0 : FuncId) (b : UInt8) (r : List UInt8) (hs : s.size ≤ maxLen) (hone : ((List.range Tryd.prog.funcs.size).filter fun f => (Tryd.prog.funcs[f]?).any (·.name.toUTF8.data.toList == b :: r)) = [f0])
    (hd : d.atKey (.string s.data.toList) .nil = .held (b :: r)) : LookJ W bm s f0 := by
  intro w' hB
  have hb' : w'.heap[bm]? = some (.map es clock) := by
    rw [← hb]
    exact hB.block bm (Array.getElem?_eq_some_iff.1 hb).1
  have hz : (zeroValue 87).run Tryd.prog w' = .ok .nilFunc w' := by kernel_rfl
  rcases fit_lookup (w := w') (string_law uJs) uJ hz hb' F (keyOf_string_mk (s := s) uJs hs) with ⟨_, hat⟩ | ⟨v, y, hrun, hRv, hat, _⟩
  · have h1 := hat .nil
    rw [← hx, hd] at h1
    cases h1
  · have h1 := hat .nil
    rw [← hx, hd] at h1
    obtain ⟨y1, y2⟩ := y
    cases h1
    rw [elemAt_func uJf hone hRv] at hrun
    exact hrun
set_option maxRecDepth 100000 in
theorem laidJ_of {W : World} {l : List (String × DataW Unit)} (h : laidMetH Tryd.prog l W) (hm : ("reckoner/nat.joins", Rows.laid_reckoner_nat_joins) ∈ l) : LaidJ W := by
  obtain ⟨g, t, cs, fuel, p, hg, ht, hv, hd⟩ := h.funcs hm
  obtain rfl := Option.some.inj (gJ.symm.trans hg)
  obtain rfl := Option.some.inj (tJ.symm.trans ht)
  rcases open_map uJ hd with ⟨_, hx⟩ | ⟨bm, es, clock, m, rfl, hcs, hb, _, F, hx⟩
  · exact absurd (congrArg Prod.fst hx) (by intro e; cases e)
  · have hx1 := congrArg Prod.fst hx
    refine ⟨bm, ?_, look_of hb F hx1 andS _ 114 [101, 99, 107, 111, 110, 101, 114, 47, 110, 97, 116, 46, 106, 111, 105, 110, 115, 36, 49] (by decide) (by kernel_rfl) rfl, look_of hb F hx1 orS _ 114 [101, 99, 107, 111, 110, 101, 114, 47, 110, 97, 116, 46, 106, 111, 105, 110, 115, 36, 50] (by decide) (by kernel_rfl) rfl, look_of hb F hx1 xorS _ 114 [101, 99, 107, 111, 110, 101, 114, 47, 110, 97, 116, 46, 106, 111, 105, 110, 115, 36, 51] (by decide) (by kernel_rfl) rfl⟩
    have := World.var?_cell hg hv 0
    rw [Array.eq_one_of_toList hcs] at this
    simpa using this
end Go.Proofs.YtkkkbalefnileaaDoor.Ex
-- PRINTED BY print.sh 35421559b90ae4d0a3588c463048766b98c2df88dd9212a6774a882060cdf62d: not written by this session
-- PRINTED WORDS (module Derived/Print/Sized.lean): go-gate-2's, for the rows of laws over slices: an AI agent of Go's test side, Tue Nov 17 2026; no person has read it. Lean checks it.
namespace Go.Proofs.YtkkkbalefnileaaDoorW.PrintWords
open Go.ChangeShapes Go.WideShapes
/-- A row's slice of whole numbers is no longer than its weight allows. -/
theorem sized_ints {H : Type} {enc : TypeId × Value → H} {P : Program} {W : World} {base : Nat} {spare : Nat → Bool} {held : Bool} {t e : TypeId} {k : IntKind} {a : Option Addr} {len cap : Nat} {d : DataW H} {ps : List MemPlace} {ts : List TypeId} {ds : List (DataW H)} {j : Nat}
    (hsz : (DataW.weightsEach P ts ds).all (· ≤ reachBytes) = true) (ht : ts[j]? = some t) (hd : ds[j]? = some d) (hu : P.underlying t = some (.slice e)) (he : P.underlying e = some (.int k)) (hc : P.cellsOf e = 1) {B : Nat} (hB : P.bytesOf e = B)
    (h : DataW.Trod enc P W base spare held t (.slice a len cap) d ps) : len * B ≤ 140737488351232 := by
  obtain ⟨fuel, hf⟩ := h
  rcases open_ints hu he hc hf with ⟨hcs, _⟩ | ⟨x, l, c, zs, hcs, _, hl, _, hz, hx, _, _⟩
  · simp [Value.cells] at hcs
    obtain ⟨rfl, rfl, rfl⟩ := hcs
    simp
  · simp [Value.cells] at hcs
    obtain ⟨rfl, rfl, rfl⟩ := hcs
    obtain ⟨hx, _⟩ := Prod.mk.inj hx
    subst hx
    have z := sized_slice hsz ht hd hu
    rw [hB] at z
    have hl2 : len ≤ zs.length := by
      rw [hz]
      split
      · exact hl
      · exact Nat.le_refl _
    have h1 : (lits (H := H) k (zs.take len)).length + (lits (H := H) k (zs.drop len)).length = zs.length := by
      simp [lits]
      omega
    rw [h1] at z
    exact Nat.le_trans (Nat.mul_le_mul_right _ hl2) z
end Go.Proofs.YtkkkbalefnileaaDoorW.PrintWords
-- PRINTED by print.py: the row of the law reckonerlaw02_NatOwn, out of its Pure (the session's) and the printed walk. Not trusted: Lean checks it.
namespace Go.Proofs.YtkkkbalefnileaaDoor.natOwn
open Go.Proofs.YtkkkbalefnileaaDoor.Ex
open Go.ChangeShapes Go.WideShapes Go.ChangeAt Go.RowKit
open Go.ChangeMaps (open_string shut_string)
set_option linter.unusedVariables false
theorem own : ownKnob Tryd.prog.godebug = none := by kernel_rfl
theorem laidOut : laidOutB Tryd.prog = true := by kernel_rfl
def IsRow (k : IntKind) (w : World) (a : Option Addr) (len cap : Nat) (zs : List Int) : Prop :=
  (a = none ∧ len = 0 ∧ cap = 0 ∧ zs = []) ∨
  ∃ x, a = some x ∧ len ≤ cap ∧ cap ≤ maxLen ∧ zs.length = cap ∧ (∀ i, i < zs.length → w.cell? (x.add i) = some (.int k (zs.getD i 0))) ∧ ∀ n ∈ zs, (Lit.int k n).wf = true
/-- A world in which the map lies as its initialiser lays it: the heap that the door's own run leaves. -/
noncomputable def laidWorld (os : Os) : World := World.doorLaid Tryd.prog 34 os
theorem laid_met (os : Os) (args : Array Value) : laidMetH Tryd.prog Rows.natOwnRow.laid ((laidWorld os).forCall (fun _ _ => 0) ⟨#[], args, []⟩).memory :=
  laidMetH_of_parts3 (fuel := 8) (laidMet_of_run' 8 (by kernel_rfl) (by kernel_rfl)) (by kernel_rfl) (by kernel_rfl)
theorem witness_row (os : Os) {H : Type} (enc : TypeId × Value → H) :
    (OpenSpec.ofChange Rows.natOwnSpec).preRow enc Tryd.prog Tryd.f5 Rows.natOwnRow.domain false Rows.natOwnRow.laid ((laidWorld os).forCall (fun _ _ => 0) ⟨#[], #[.slice none 0 0, .slice none 0 0], []⟩).memory #[.slice none 0 0, .slice none 0 0] := by
  have hw : (DataW.whole enc Tryd.prog ((laidWorld os).forCall (fun _ _ => 0) ⟨#[], #[.slice none 0 0, .slice none 0 0], []⟩).memory Tryd.f5.params.toList (OpenSpec.ofChange Rows.natOwnSpec).vars false (#[.slice none 0 0, .slice none 0 0] : Array Value).toList 8).map (fun x => (x.1, x.2.1)) =
      some ([.nil, .nil], []) := by kernel_rfl
  obtain ⟨⟨x1, x2, x3⟩, hx, hx1⟩ := Option.map_eq_some_iff.1 hw
  simp only [Prod.mk.injEq] at hx1
  obtain ⟨rfl, rfl⟩ := hx1
  exact OpenSpec.preRow_of_cond 8 hx (by kernel_rfl) (fun k hk => by cases hk) (by kernel_rfl) (laid_met os _)
set_option maxRecDepth 100000 in
theorem lifted (os : Os) (started : os.Started) (H : Type) (enc : TypeId × Value → H) (F : Stop.Interp) :
    ReturnsInHanded {} Tryd.checked os 5 .any ((OpenSpec.ofChange Rows.natOwnSpec).preRow enc Tryd.prog Tryd.f5 Rows.natOwnRow.domain false Rows.natOwnRow.laid) (((OpenSpec.ofChange Rows.natOwnSpec).at F).post enc Tryd.prog Tryd.f5 false true false false) := by
  refine returnsInHanded_of_row (C := Tryd.checked) (s := OpenSpec.ofChange Rows.natOwnSpec) own started (by kernel_rfl) Tryd.func5
    (witness_row_atRef (enc := enc) (C := Tryd.checked) false (laidWorld os) #[.slice none 0 0, .slice none 0 0] rfl (by kernel_rfl) (by kernel_rfl) (by kernel_rfl) (witness_row os enc)) ?_
  intro W base args ds gs before hval0 hW hcnd _ hsz0 hL _ _
  have hg : LaidJ W := laidJ_of hL (List.mem_cons_self ..)
  have hsz : (DataW.weightsEach Tryd.prog (Tryd.f5.params.toList ++ (OpenSpec.ofChange Rows.natOwnSpec).bare.plain.varTypes Tryd.prog) (ds ++ gs)).all (· ≤ reachBytes) = true := hsz0
  have hval : ∀ (j : Nat) t v, Tryd.f5.params[j]? = some t → args[j]? = some v → Value.okWide Tryd.prog W .any base t v := hval0
  have hW' := hW
  obtain ⟨p, q, hA0, hV, rfl, hfz, hnd⟩ := hW
  have hA : DataW.TrodAll enc Tryd.prog W 0 (fun _ => true) true Tryd.f5.params.toList args.toList ds p := hA0
  rw [Tryd.params5] at hA hval hsz
  obtain ⟨v0, vs0, d0, ds0, p0, q0, hargs, rfl, rfl, h0, r0⟩ := trodAll_cons hA
  obtain ⟨v1, vs1, d1, ds1, p1, q1, rfl, rfl, rfl, h1, r1⟩ := trodAll_cons r0
  obtain ⟨rfl, rfl, rfl⟩ := trodAll_nil r1
  obtain rfl : args = #[v0, v1] := by cases args; simp_all
  obtain ⟨rfl, rfl⟩ := trodVars_none hV
  obtain ⟨a0, len0, cap0, rfl⟩ := okWide_slice Tryd.underlying23 (hval 0 23 v0 rfl rfl)
  have k0 := h0
  have lt0 : ∀ x ∈ p0, x.block < W.heap.size := by obtain ⟨m, hm⟩ := k0; exact DataW.trod_lt m _ _ _ hm
  obtain ⟨z0, w0⟩ : ∃ zs, IsRow .u64 W a0 len0 cap0 zs := by
    obtain ⟨fuel, hf⟩ := h0
    rcases open_ints Tryd.underlying23 Tryd.underlying36 (by kernel_rfl) hf with ⟨hcs, _⟩ | ⟨x, l, c, zs, hcs, _, hl, hm, hz, _, hcell, hwz⟩
    · simp [Value.cells] at hcs
      obtain ⟨rfl, rfl, rfl⟩ := hcs
      exact ⟨[], .inl ⟨rfl, rfl, rfl, rfl⟩⟩
    · simp [Value.cells] at hcs
      obtain ⟨rfl, rfl, rfl⟩ := hcs
      exact ⟨zs, .inr ⟨_, rfl, hl, hm, by simpa using hz, hcell, hwz⟩⟩
  have y0 : len0 * 8 ≤ 140737488351232 := Go.Proofs.YtkkkbalefnileaaDoorW.PrintWords.sized_ints hsz (j := 0) (t := 23) rfl rfl Tryd.underlying23 Tryd.underlying36 (by kernel_rfl) (by kernel_rfl) h0
  obtain ⟨a1, len1, cap1, rfl⟩ := okWide_slice Tryd.underlying23 (hval 1 23 v1 rfl rfl)
  have k1 := h1
  have lt1 : ∀ x ∈ p1, x.block < W.heap.size := by obtain ⟨m, hm⟩ := k1; exact DataW.trod_lt m _ _ _ hm
  obtain ⟨z1, w1⟩ : ∃ zs, IsRow .u64 W a1 len1 cap1 zs := by
    obtain ⟨fuel, hf⟩ := h1
    rcases open_ints Tryd.underlying23 Tryd.underlying36 (by kernel_rfl) hf with ⟨hcs, _⟩ | ⟨x, l, c, zs, hcs, _, hl, hm, hz, _, hcell, hwz⟩
    · simp [Value.cells] at hcs
      obtain ⟨rfl, rfl, rfl⟩ := hcs
      exact ⟨[], .inl ⟨rfl, rfl, rfl, rfl⟩⟩
    · simp [Value.cells] at hcs
      obtain ⟨rfl, rfl, rfl⟩ := hcs
      exact ⟨zs, .inr ⟨_, rfl, hl, hm, by simpa using hz, hcell, hwz⟩⟩
  have y1 : len1 * 8 ≤ 140737488351232 := Go.Proofs.YtkkkbalefnileaaDoorW.PrintWords.sized_ints hsz (j := 1) (t := 23) rfl rfl Tryd.underlying23 Tryd.underlying36 (by kernel_rfl) (by kernel_rfl) h1
  clear hA0 hval0 hsz0 hsz
  refine (T.reckonerlaw02_NatOwn.walk pureNatOwn a0 len0 cap0 z0 a1 len1 cap1 z1 W w0 y0 w1 y1 hg).mono fun e W' ⟨he, bel⟩ => ?_
  subst he
  exact ⟨_, rfl, _, _, _, [], _, [], hW', trodAll_mk1 (shut_bool Tryd.underlying4 _), (trodAll_cons_mk (Below.trod laidOut (by kernel_rfl) (of_decide_eq_true (by kernel_rfl)) k0 bel lt0) (trodAll_cons_mk (Below.trod laidOut (by kernel_rfl) (of_decide_eq_true (by kernel_rfl)) k1 bel lt1) trodAll_mk0)), rfl, bel.frame _, fun h => by cases h⟩
theorem over : Rows.natOwnRow.holds Tryd.pinned (OpenSpec.ofChange Rows.natOwnSpec) :=
  OpenClaim.holds_of_cond 5 Tryd.f5 rfl rfl rfl rfl rfl rfl rfl ⟨rfl, rfl, rfl, rfl, rfl⟩ rfl rfl rfl rfl rfl (by kernel_rfl) Tryd.func5 (by kernel_rfl)
    (of_decide_eq_true (by kernel_rfl)) (by unfold Func.isWrapper; first | (rw [if_pos (by decide +kernel)]; kernel_rfl) | (rw [if_neg (by decide +kernel)]; exact ⟨rfl, rfl⟩))
    (fun os started H enc _ F0 => by rw [OpenClaim.pre_eq_preRow]; exact lifted os started H enc F0)
theorem proved : Rows.NatOwnSaid := over
end Go.Proofs.YtkkkbalefnileaaDoor.natOwn
namespace Go.Proofs.YtkkkbalefnileaaDoor
/-- The row, under a short name, for the claim. -/
theorem natOwn_holds : Rows.NatOwnSaid := natOwn.proved
/-- THE TIED CARD. -/
theorem natOwnCard_holds : Rows.NatOwnCardSaid :=
  Claim7.holds_tied_plain_at .later [] [.funcs] true (true, "36986857b704cc5859705dd873ca777faef389e418bc52f4b429b1ff2dc10ece") false
    natOwn_holds (fun _ h => by cases h) (by kernel_rfl) (fun _ h => by cases h) natOwn_row_tie rfl ⟨rfl, rfl⟩ (by kernel_rfl) rfl
    (fun f fn hf hfn => by
      obtain rfl : f = 5 := Option.some.inj ((show Tryd.prog.funcNamed Rows.natOwnRow.func = some 5 by kernel_rfl).symm.trans hf) |>.symm
      obtain rfl : fn = Tryd.f5 := (Option.some.inj (Tryd.func5.symm.trans hfn)).symm
      exact ⟨by kernel_rfl, fun j t ht => by
        rw [Tryd.params5] at ht
        have h3 : Tryd.prog.wantsStandIn t = false := by
          rcases j with (_ | (_ | j))
          · obtain rfl := Option.some.inj ht.symm
            kernel_rfl
          · obtain rfl := Option.some.inj ht.symm
            kernel_rfl
          · simp at ht
        exact h3⟩)
    (by kernel_rfl)
end Go.Proofs.YtkkkbalefnileaaDoor
