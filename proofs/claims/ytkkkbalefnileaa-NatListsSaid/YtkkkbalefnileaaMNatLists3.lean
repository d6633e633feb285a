/- NatLists: for every list of rows of words and every int, the sum and the product of its first 20 numbers (of each the first 8 words) are those that the reference tells; a list of more than 1000 numbers is refused; a product with a 0 in it is 0, and one that is too large is refused. (Part 4 of 4.) -/
import Derived.Deep.Matrix
import Derived.Test.YtkkkbalefnileaaRows
import Derived.WalkKit
import Derived.ProofKit
import Derived.OpenShut
import Derived.ShutString
import Derived.ChangeOld
import Derived.Below
import Derived.SizedLaws
import Derived.Test.YtkkkbalefnileaaMNatLists2
-- PRINTED by print.py (a twelfth state) out of the translation. Not trusted: Lean checks it.
namespace Go.Proofs.Ytkkkbalefnileaa.T
open Go.RowKit Go.Proofs.YtkkkbalefnileaaW.PrintWords Go.Proofs.YtkkkbalefnileaaW.PrintLast Go.Proofs.YtkkkbalefnileaaW.PrintMore
attribute [local go_sem] max2_int min2_int max_two min_two max_three min_three max_four min_four   -- for this text's walks alone
open Ytkkkbalefnileaa.Ex
set_option linter.unusedVariables false
set_option linter.unusedSimpArgs false

/-! ### reckonerref02_Parse: function 51 -/
def reckonerref02_Parse.l0 : Nat → ByteArray → List Int → Int → Option (List Int)
  | 0, _, _, _ => none
  | k + 1, x0, x3, x4 => if x4 < (x0.size : Int) then ((reckonerref02_FromWord.f k 10).bind fun t231 => ((reckonerref02_Mul.f k x3 t231).bind fun t234 => (if 0 ≤ x4 then ((reckonerref02_FromWord.f k (((bt x0 x4) - 48) % 256)).bind fun t237 => ((reckonerref02_Add.f k t234 t237).bind fun t240 => (reckonerref02_Parse.l0 k x0 t240 (wrap64 (x4 + 1))))) else (none)))) else (some x3)
def reckonerref02_Parse.f (k : Nat) (a0 : ByteArray) : Option (List Int) := reckonerref02_Parse.l0 k a0 ([] : List Int) 0
def reckonerref02_Parse.T5 : Bool × List (List Nat × List Nat) := (true, [([], []), ([], []), ([0, 1, 1], [0, 1]), ([], []), ([], []), ([3, 4], [3, 4]), ([5], [5]), ([6], [6]), ([7, 2], [7]), ([2, 8, 8], [2, 8]), ([9, 9, 0, 1, 2, 3, 4, 5, 6, 7, 8, 9], [0, 9])])
def reckonerref02_Parse.B5 : List Nat := [0, 0, 3, 0, 0, 24, 56, 120, 255, 511, 1023]
theorem reckonerref02_Parse.tab5 : rtab .any (opsOf Try.f51 5) = reckonerref02_Parse.T5 := by kernel_rfl
theorem reckonerref02_Parse.bits5 : waitsOk reckonerref02_Parse.T5.2 reckonerref02_Parse.B5 = true := by kernel_rfl
set_option maxHeartbeats 8000000 in
set_option maxRecDepth 100000 in
theorem reckonerref02_Parse.calls (k : Nat) (a0 : ByteArray) (r : List Int) (w : World) (h : reckonerref02_Parse.f k a0 = some r) :
  Calls Try.prog 51 #[.string a0] w fun e w' => ∃ v0_ : Value, e = .returned (v0_) ∧ Kd.R (Kd.int .u64) 33 w' w.heap.size (fun _ => True) v0_ r ∧ Below w.heap.size w w' := by
 have HB := Aside0.mk (Below.refl w.heap.size w)
 have H : (reckonerref02_Parse.l0 k a0 ([] : List Int) 0) = some r := h
 clear h
 have H' := Aside0.mk H
 clear H
 go_enter Try.func51, Try.ntmps51
 go_wp2
 go_loopg [3, 4] k (fun kq v3 v4 w' => ∃ (x3_1 : List Int) (x4_1 : Int), v4 = .int .i64 x4_1 ∧ Aside0 (reckonerref02_Parse.l0 kq a0 x3_1 x4_1 = some r) ∧ Aside0 (kq ≤ k) ∧ Aside0 (Kd.R (Kd.int .u64) 33 w' w.heap.size (fun _ => True) v3 x3_1) ∧ Aside0 (Below w.heap.size w w'))
 case atStart => exact ⟨(([] : List Int)), (0), (by first | rfl | (simp; done) | (simp [*]; done)), H', ⟨Nat.le_refl _⟩, ⟨by first | exact Kd.R_nil _ _ _ _ _ | exact Kd.N_nil _ _ _ _ _ | exact Kd.V_nil _ _ _ _ _ | exact Kd.Q_nil _ _ _ _ _ | exact Kd.S_nil _ _ _ _ _⟩, ⟨by repeat (first | (with_reducible first | exact HB.out | apply below_alloc | apply pw_below_drewN | apply below_drew1) | exact HB.out)⟩⟩
 case round =>
  clear H'
  obtain ⟨x3_1, x4_1, rfl, HA, HK1, HO_3, HB⟩ := hrel
  cases gk with
  | zero => exact absurd HA.out (by simp [reckonerref02_Parse.l0])
  | succ k1 =>
   have H := HA.out
   clear HA
   simp only [reckonerref02_Parse.l0] at H
   by_cases c2 : x4_1 < (a0.size : Int)
   ·rw [if_pos c2] at H
    have c2b0 : decide (x4_1 < (a0.size : Int)) = true := decide_eq_true c2
    clear c2
    replace H := Option.bind_eq_some_iff.mp H
    obtain ⟨t231, A30, H⟩ := H
    replace H : ((reckonerref02_Mul.f k1 x3_1 t231).bind fun t234 => (if 0 ≤ x4_1 then ((reckonerref02_FromWord.f k1 (((bt a0 x4_1) - 48) % 256)).bind fun t237 => ((reckonerref02_Add.f k1 t234 t237).bind fun t240 => (reckonerref02_Parse.l0 k1 a0 t240 (wrap64 (x4_1 + 1))))) else (none))) = some r := H
    have A3 := Aside0.mk A30
    clear A30
    replace H := Option.bind_eq_some_iff.mp H
    obtain ⟨t234, A40, H⟩ := H
    replace H : (if 0 ≤ x4_1 then ((reckonerref02_FromWord.f k1 (((bt a0 x4_1) - 48) % 256)).bind fun t237 => ((reckonerref02_Add.f k1 t234 t237).bind fun t240 => (reckonerref02_Parse.l0 k1 a0 t240 (wrap64 (x4_1 + 1))))) else (none)) = some r := H
    have A4 := Aside0.mk A40
    clear A40
    by_cases c5 : 0 ≤ x4_1
    ·rw [if_pos c5] at H
     have c5b0 : decide (0 ≤ x4_1) = true := decide_eq_true c5
     clear c5
     replace H := Option.bind_eq_some_iff.mp H
     obtain ⟨t237, A70, H⟩ := H
     replace H : ((reckonerref02_Add.f k1 t234 t237).bind fun t240 => (reckonerref02_Parse.l0 k1 a0 t240 (wrap64 (x4_1 + 1)))) = some r := H
     have A7 := Aside0.mk A70
     clear A70
     replace H := Option.bind_eq_some_iff.mp H
     obtain ⟨t240, A80, H⟩ := H
     replace H : (reckonerref02_Parse.l0 k1 a0 t240 (wrap64 (x4_1 + 1))) = some r := H
     have A8 := Aside0.mk A80
     clear A80
     have H' := Aside0.mk H
     clear H
     try go_wp2
     have n0_ := Aside0.mk (Kd.R_drew HO_3.out)
     have n1_ := Aside0.mk (below_drew1 HB.out)
     clear HO_3
     clear HB
     have HO_3 := n0_
     have HB := n1_
     clear n0_ n1_
     have p6 : 0 ≤ (x4_1 : Int) := of_decide_eq_true (by first | (with_reducible assumption) | assumption)
     have q6 : x4_1 < (a0.size : Int) := of_decide_eq_true (by first | (with_reducible assumption) | assumption)
     have hx6 := bt_at a0 x4_1
     replace p6 := eq_true p6
     replace q6 := eq_true q6
     refine start_ (n := 11) (S := fun w' => True) (ds := []) #[false, false, false, false, false, false, false, false, false, false, false] (by kernel_rfl) rfl rfl trivial (fun hHeld => ?_); refine with_tabW reckonerref02_Parse.tab5 reckonerref02_Parse.bits5 (fun HT_ HW_ => ?_)
     generalize wr.drew = w9 at HO_3 HB hHeld ⊢
     refine pure_ (i := 0) (N := some 11) (v := ?_) (a' := ?_) #[true, false, false, false, false, false, false, false, false, false, false] rfl rfl (any_of HT_.out (by kernel_rfl)) (fun _ _ _ h => h) (Or.inl ⟨by rfl, ?_⟩) ?_ ?_
     rotate_left
     ·intro w'
      go_simp
      with_reducible rfl
     rotate_left
     ·simp only [Act.put, List.setIfInBounds_toArray, List.set_cons_zero, List.set_cons_succ, i64_w, i32_w]
      rfl
     refine pure_ (i := 3) (N := some 14) (v := ?_) (a' := ?_) #[true, false, false, true, false, false, false, false, false, false, false] rfl rfl (any_of HT_.out (by kernel_rfl)) (fun _ _ _ h => h) (Or.inl ⟨by rfl, ?_⟩) ?_ ?_
     rotate_left
     ·intro w'
      go_simp
      with_reducible rfl
     rotate_left
     ·simp only [Act.put, List.setIfInBounds_toArray, List.set_cons_zero, List.set_cons_succ, i64_w, i32_w]
      rfl
     refine pure_ (i := 4) (N := some 15) (v := ?_) (a' := ?_) #[true, false, false, true, true, false, false, false, false, false, false] rfl rfl (any_of HT_.out (by kernel_rfl)) (fun _ _ _ h => h) (Or.inl ⟨by rfl, ?_⟩) ?_ ?_
     rotate_left
     ·intro w'
      go_simp
      with_reducible rfl
     rotate_left
     ·simp only [Act.put, List.setIfInBounds_toArray, List.set_cons_zero, List.set_cons_succ, i64_w, i32_w]
      rfl
     refine take_ (i := 5) (N := some 16) (v := ?_) (a' := ?_) #[true, false, false, true, true, true, false, false, false, false, false] rfl rfl (take_ofW HT_.out HW_.out (by kernel_rfl)) (fun _ _ _ h => h) (Or.inl ⟨by rfl, ?_⟩) hHeld ?_ ?_
     rotate_left
     ·intro w' _
      go_simp
      with_reducible rfl
     rotate_left
     ·simp only [Act.put, List.setIfInBounds_toArray, List.set_cons_zero, List.set_cons_succ, i64_w, i32_w]
      rfl
     refine pure_ (i := 6) (N := some 17) (v := ?_) (a' := ?_) #[true, false, false, true, true, true, true, false, false, false, false] rfl rfl (any_of HT_.out (by kernel_rfl)) (fun _ _ _ h => h) (Or.inl ⟨by rfl, ?_⟩) ?_ ?_
     rotate_left
     ·intro w'
      go_simp
      with_reducible rfl
     rotate_left
     ·simp only [Act.put, List.setIfInBounds_toArray, List.set_cons_zero, List.set_cons_succ, i64_w, i32_w]
      rfl
     refine pure_ (i := 7) (N := some 18) (v := ?_) (a' := ?_) #[true, false, false, true, true, true, true, true, false, false, false] rfl rfl (any_of HT_.out (by kernel_rfl)) (fun _ _ _ h => h) (Or.inl ⟨by rfl, ?_⟩) ?_ ?_
     rotate_left
     ·intro w'
      go_simp
      with_reducible rfl
     rotate_left
     ·simp only [Act.put, List.setIfInBounds_toArray, List.set_cons_zero, List.set_cons_succ, i64_w, i32_w]
      rfl
     refine one_ (i := 1) (N := some 12) #[true, true, false, true, true, true, true, true, false, false, false] rfl rfl (one_of HT_.out (by kernel_rfl)) (by decide) (fun K hK => ?_)
     refine goes_ Try.func50 (by kernel_rfl) rfl #[.int .u64 10] (by rfl) rfl rfl (by (try simp only [List.map_toArray, List.map_cons, List.map_nil]); first | done | rfl | exact congrArg (fun z => #[Value.int .u64 z]) (u8_u64 _) | (simp only [List.length_drop, List.length_take]; rfl)) ?_
     with_reducible refine (reckonerref02_FromWord.calls k1 10 t231 _ A3.out).mono ?_
     rintro e w10 ⟨v232, rfl, ho0, hb⟩
     refine ⟨_, rfl, ?_⟩
     have n0_ := Aside0.mk (Kd.R_elder' (by (with_reducible repeat (first | apply Kd.R_alloc | apply Kd.R_drewN | apply Kd.R_drew)); exact HO_3.out) (Kd.R_base ho0) hb)
     have n1_ := Aside0.mk (Kd.R_lower (Kd.R_new' ho0 (Kd.R_lt (by (with_reducible repeat (first | apply Kd.R_alloc | apply Kd.R_drewN | apply Kd.R_drew)); exact HO_3.out))) (below_size (by repeat (first | (with_reducible first | exact HB.out | apply below_alloc | apply pw_below_drewN | apply below_drew1) | exact HB.out))))
     have n2_ := Aside0.mk (below_step (by repeat (first | (with_reducible first | exact HB.out | apply below_alloc | apply pw_below_drewN | apply below_drew1) | exact HB.out)) hb)
     clear HO_3
     clear HB
     have HO_3 := n0_
     have HO233 := n1_
     have HB := n2_
     clear n0_ n1_ n2_
     (try clear hb)
     (try clear hb2)
     (try clear hk)
     (try clear hi)
     (try clear ho0)
     obtain ⟨Ao11, co11, eo11⟩ := Kd.R_slice HO_3.out
     (first | subst eo11 | (injection eo11 with f1_ f2_ f3_; have f4_ := f1_.symm; have f5_ := f3_.symm; clear f1_ f2_ f3_; subst f4_; subst f5_))
     obtain ⟨Ao12, co12, eo12⟩ := Kd.R_slice HO233.out
     (first | subst eo12 | (injection eo12 with f1_ f2_ f3_; have f4_ := f1_.symm; have f5_ := f3_.symm; clear f1_ f2_ f3_; subst f4_; subst f5_))
     refine hK.out _ _ trivial (fun hHeld => ?_)
     clear hK K
     refine norm_ (a' := ?_) ?_ ?_
     rotate_left
     ·show Act.put _ (some 12) _ = _
      simp only [Act.put, List.setIfInBounds_toArray, List.set_cons_zero, List.set_cons_succ, i64_w, i32_w]
      rfl
     refine one_ (i := 2) (N := some 13) #[true, true, true, true, true, true, true, true, false, false, false] rfl rfl (one_of HT_.out (by kernel_rfl)) (by decide) (fun K hK => ?_)
     refine goes_ Try.func23 (by kernel_rfl) rfl #[.slice Ao11 x3_1.length co11, .slice Ao12 t231.length co12] (by rfl) rfl rfl (by (try simp only [List.map_toArray, List.map_cons, List.map_nil]); first | done | rfl | exact congrArg (fun z => #[Value.int .u64 z]) (u8_u64 _) | (simp only [List.length_drop, List.length_take]; rfl)) ?_
     with_reducible refine (reckonerref02_Mul.calls k1 _ _ x3_1 _ _ t231 t234 _ ?side1 ?side2 ?side3 ?side4 A4.out).mono ?_
     (case side1 => repeat (first | exact (Kd.R_reads' HO_3.out).2.2 | (with_reducible refine Kd.C_alloc ?_ _) | (with_reducible refine Kd.C_drewN ?_ _) | (with_reducible refine Kd.C_drew ?_)))
     (case side2 => exact (Kd.R_reads' HO_3.out).2.1)
     (case side3 => repeat (first | exact (Kd.R_reads' HO233.out).2.2 | (with_reducible refine Kd.C_alloc ?_ _) | (with_reducible refine Kd.C_drewN ?_ _) | (with_reducible refine Kd.C_drew ?_)))
     (case side4 => exact (Kd.R_reads' HO233.out).2.1)
     rintro e w13 ⟨v235, rfl, ho0, hb⟩
     refine ⟨_, rfl, ?_⟩
     have n0_ := Aside0.mk (Kd.R_elder' (by (with_reducible repeat (first | apply Kd.R_alloc | apply Kd.R_drewN | apply Kd.R_drew)); exact HO_3.out) (Kd.R_base ho0) hb)
     have n1_ := Aside0.mk (Kd.R_elder' (by (with_reducible repeat (first | apply Kd.R_alloc | apply Kd.R_drewN | apply Kd.R_drew)); exact HO233.out) (Kd.R_base ho0) hb)
     have n2_ := Aside0.mk (Kd.R_lower (Kd.R_new' (Kd.R_new' ho0 (Kd.R_lt (by (with_reducible repeat (first | apply Kd.R_alloc | apply Kd.R_drewN | apply Kd.R_drew)); exact HO_3.out))) (Kd.R_lt (by (with_reducible repeat (first | apply Kd.R_alloc | apply Kd.R_drewN | apply Kd.R_drew)); exact HO233.out))) (below_size (by repeat (first | (with_reducible first | exact HB.out | apply below_alloc | apply pw_below_drewN | apply below_drew1) | exact HB.out))))
     have n3_ := Aside0.mk (below_step (by repeat (first | (with_reducible first | exact HB.out | apply below_alloc | apply pw_below_drewN | apply below_drew1) | exact HB.out)) hb)
     clear HO_3
     clear HO233
     clear HB
     have HO_3 := n0_
     have HO233 := n1_
     have HO236 := n2_
     have HB := n3_
     clear n0_ n1_ n2_ n3_
     (try clear hb)
     (try clear hb2)
     (try clear hk)
     (try clear hi)
     (try clear ho0)
     refine hK.out _ _ trivial (fun hHeld => ?_)
     clear hK K
     refine norm_ (a' := ?_) ?_ ?_
     rotate_left
     ·show Act.put _ (some 13) _ = _
      simp only [Act.put, List.setIfInBounds_toArray, List.set_cons_zero, List.set_cons_succ, i64_w, i32_w]
      rfl
     refine one_ (i := 8) (N := some 19) #[true, true, true, true, true, true, true, true, true, false, false] rfl rfl (one_of HT_.out (by kernel_rfl)) (by decide) (fun K hK => ?_)
     refine goes_ Try.func50 (by kernel_rfl) rfl #[.int .u64 (((bt a0 x4_1) - 48) % 256)] (by rfl) rfl rfl (by (try simp only [List.map_toArray, List.map_cons, List.map_nil]); first | done | rfl | exact congrArg (fun z => #[Value.int .u64 z]) (u8_u64 _) | (simp only [List.length_drop, List.length_take]; rfl)) ?_
     with_reducible refine (reckonerref02_FromWord.calls k1 (((bt a0 x4_1) - 48) % 256) t237 _ A7.out).mono ?_
     rintro e w14 ⟨v238, rfl, ho0, hb⟩
     refine ⟨_, rfl, ?_⟩
     have n0_ := Aside0.mk (Kd.R_elder' (by (with_reducible repeat (first | apply Kd.R_alloc | apply Kd.R_drewN | apply Kd.R_drew)); exact HO_3.out) (Kd.R_base ho0) hb)
     have n1_ := Aside0.mk (Kd.R_elder' (by (with_reducible repeat (first | apply Kd.R_alloc | apply Kd.R_drewN | apply Kd.R_drew)); exact HO233.out) (Kd.R_base ho0) hb)
     have n2_ := Aside0.mk (Kd.R_elder' (by (with_reducible repeat (first | apply Kd.R_alloc | apply Kd.R_drewN | apply Kd.R_drew)); exact HO236.out) (Kd.R_base ho0) hb)
     have n3_ := Aside0.mk (Kd.R_lower (Kd.R_new' (Kd.R_new' (Kd.R_new' ho0 (Kd.R_lt (by (with_reducible repeat (first | apply Kd.R_alloc | apply Kd.R_drewN | apply Kd.R_drew)); exact HO_3.out))) (Kd.R_lt (by (with_reducible repeat (first | apply Kd.R_alloc | apply Kd.R_drewN | apply Kd.R_drew)); exact HO233.out))) (Kd.R_lt (by (with_reducible repeat (first | apply Kd.R_alloc | apply Kd.R_drewN | apply Kd.R_drew)); exact HO236.out))) (below_size (by repeat (first | (with_reducible first | exact HB.out | apply below_alloc | apply pw_below_drewN | apply below_drew1) | exact HB.out))))
     have n4_ := Aside0.mk (below_step (by repeat (first | (with_reducible first | exact HB.out | apply below_alloc | apply pw_below_drewN | apply below_drew1) | exact HB.out)) hb)
     clear HO_3
     clear HO233
     clear HO236
     clear HB
     have HO_3 := n0_
     have HO233 := n1_
     have HO236 := n2_
     have HO239 := n3_
     have HB := n4_
     clear n0_ n1_ n2_ n3_ n4_
     (try clear hb)
     (try clear hb2)
     (try clear hk)
     (try clear hi)
     (try clear ho0)
     obtain ⟨Ao15, co15, eo15⟩ := Kd.R_slice HO236.out
     (first | subst eo15 | (injection eo15 with f1_ f2_ f3_; have f4_ := f1_.symm; have f5_ := f3_.symm; clear f1_ f2_ f3_; subst f4_; subst f5_))
     obtain ⟨Ao16, co16, eo16⟩ := Kd.R_slice HO239.out
     (first | subst eo16 | (injection eo16 with f1_ f2_ f3_; have f4_ := f1_.symm; have f5_ := f3_.symm; clear f1_ f2_ f3_; subst f4_; subst f5_))
     refine hK.out _ _ trivial (fun hHeld => ?_)
     clear hK K
     refine norm_ (a' := ?_) ?_ ?_
     rotate_left
     ·show Act.put _ (some 19) _ = _
      simp only [Act.put, List.setIfInBounds_toArray, List.set_cons_zero, List.set_cons_succ, i64_w, i32_w]
      rfl
     refine one_ (i := 9) (N := some 20) #[true, true, true, true, true, true, true, true, true, true, false] rfl rfl (one_of HT_.out (by kernel_rfl)) (by decide) (fun K hK => ?_)
     refine goes_ Try.func26 (by kernel_rfl) rfl #[.slice Ao15 t234.length co15, .slice Ao16 t237.length co16] (by rfl) rfl rfl (by (try simp only [List.map_toArray, List.map_cons, List.map_nil]); first | done | rfl | exact congrArg (fun z => #[Value.int .u64 z]) (u8_u64 _) | (simp only [List.length_drop, List.length_take]; rfl)) ?_
     with_reducible refine (reckonerref02_Add.calls k1 _ _ t234 _ _ t237 t240 _ ?side1 ?side2 ?side3 ?side4 A8.out).mono ?_
     (case side1 => repeat (first | exact (Kd.R_reads' HO236.out).2.2 | (with_reducible refine Kd.C_alloc ?_ _) | (with_reducible refine Kd.C_drewN ?_ _) | (with_reducible refine Kd.C_drew ?_)))
     (case side2 => exact (Kd.R_reads' HO236.out).2.1)
     (case side3 => repeat (first | exact (Kd.R_reads' HO239.out).2.2 | (with_reducible refine Kd.C_alloc ?_ _) | (with_reducible refine Kd.C_drewN ?_ _) | (with_reducible refine Kd.C_drew ?_)))
     (case side4 => exact (Kd.R_reads' HO239.out).2.1)
     rintro e w17 ⟨v241, rfl, ho0, hb⟩
     refine ⟨_, rfl, ?_⟩
     have n0_ := Aside0.mk (Kd.R_elder' (by (with_reducible repeat (first | apply Kd.R_alloc | apply Kd.R_drewN | apply Kd.R_drew)); exact HO_3.out) (Kd.R_base ho0) hb)
     have n1_ := Aside0.mk (Kd.R_elder' (by (with_reducible repeat (first | apply Kd.R_alloc | apply Kd.R_drewN | apply Kd.R_drew)); exact HO233.out) (Kd.R_base ho0) hb)
     have n2_ := Aside0.mk (Kd.R_elder' (by (with_reducible repeat (first | apply Kd.R_alloc | apply Kd.R_drewN | apply Kd.R_drew)); exact HO236.out) (Kd.R_base ho0) hb)
     have n3_ := Aside0.mk (Kd.R_elder' (by (with_reducible repeat (first | apply Kd.R_alloc | apply Kd.R_drewN | apply Kd.R_drew)); exact HO239.out) (Kd.R_base ho0) hb)
     have n4_ := Aside0.mk (Kd.R_lower (Kd.R_new' (Kd.R_new' (Kd.R_new' (Kd.R_new' ho0 (Kd.R_lt (by (with_reducible repeat (first | apply Kd.R_alloc | apply Kd.R_drewN | apply Kd.R_drew)); exact HO_3.out))) (Kd.R_lt (by (with_reducible repeat (first | apply Kd.R_alloc | apply Kd.R_drewN | apply Kd.R_drew)); exact HO233.out))) (Kd.R_lt (by (with_reducible repeat (first | apply Kd.R_alloc | apply Kd.R_drewN | apply Kd.R_drew)); exact HO236.out))) (Kd.R_lt (by (with_reducible repeat (first | apply Kd.R_alloc | apply Kd.R_drewN | apply Kd.R_drew)); exact HO239.out))) (below_size (by repeat (first | (with_reducible first | exact HB.out | apply below_alloc | apply pw_below_drewN | apply below_drew1) | exact HB.out))))
     have n5_ := Aside0.mk (below_step (by repeat (first | (with_reducible first | exact HB.out | apply below_alloc | apply pw_below_drewN | apply below_drew1) | exact HB.out)) hb)
     clear HO_3
     clear HO233
     clear HO236
     clear HO239
     clear HB
     have HO_3 := n0_
     have HO233 := n1_
     have HO236 := n2_
     have HO239 := n3_
     have HO242 := n4_
     have HB := n5_
     clear n0_ n1_ n2_ n3_ n4_ n5_
     (try clear hb)
     (try clear hb2)
     (try clear hk)
     (try clear hi)
     (try clear ho0)
     refine hK.out _ _ trivial (fun hHeld => ?_)
     clear hK K
     refine norm_ (a' := ?_) ?_ ?_
     rotate_left
     ·show Act.put _ (some 20) _ = _
      simp only [Act.put, List.setIfInBounds_toArray, List.set_cons_zero, List.set_cons_succ, i64_w, i32_w]
      rfl
     refine pure_ (i := 10) (N := some 3) (v := ?_) (a' := ?_) #[true, true, true, true, true, true, true, true, true, true, true] rfl rfl (any_of HT_.out (by kernel_rfl)) (fun _ _ _ h => h) (Or.inl ⟨by rfl, ?_⟩) ?_ ?_
     rotate_left
     ·intro w'
      go_simp
      with_reducible rfl
     rotate_left
     ·simp only [Act.put, List.setIfInBounds_toArray, List.set_cons_zero, List.set_cons_succ, i64_w, i32_w]
      rfl
     refine done_ (done_of HT_.out (by kernel_rfl)) ?_
     try go_wp2
     go_roundg k1
     case measure => have := HK1.out; omega
     case rel => exact ⟨(t240), (wrap64 (x4_1 + 1)), (by first | rfl | (simp; done) | (simp [*]; done)), H', ⟨by have := HK1.out; omega⟩, ⟨by (with_reducible repeat (first | apply Kd.R_alloc | apply Kd.R_drewN | apply Kd.R_drew)); exact Kd.R_mono HO242.out (fun _ hk => trivial)⟩, ⟨by repeat (first | (with_reducible first | exact HB.out | apply below_alloc | apply pw_below_drewN | apply below_drew1) | exact HB.out)⟩⟩
    ·rw [if_neg c5] at H
     exact absurd H (by simp)
   ·rw [if_neg c2] at H
    have c2b0 : decide (x4_1 < (a0.size : Int)) = false := decide_eq_false c2
    clear c2
    obtain rfl := Option.some.inj H
    go_wp2
    go_ret
    exact ⟨_, by first | rfl | (simp [errW_none, errW_some] <;> rfl) | (simp [*, errW_none, errW_some] <;> rfl), by (with_reducible repeat (first | apply Kd.R_alloc | apply Kd.R_drewN | apply Kd.R_drew)); exact HO_3.out, by repeat (first | (with_reducible first | exact HB.out | apply below_alloc | apply pw_below_drewN | apply below_drew1) | exact HB.out)⟩
/-! ### reckonerlaw02_awake: function 15 -/
def reckonerlaw02_awake.f (k : Nat)  : Option (Bool) := (nat_Pow.f (([10] : List Int)) 20).bind fun bt246 => ((nat_Square.f (([18446744073709551615] : List Int))).bind fun bt253 => ((nat_DivMod.f (([7766279631452241920, 5] : List Int)) (([3] : List Int))).bind fun bt263 => ((nat_Sub.f (([1] : List Int)) (([2] : List Int))).bind fun bt276 => (if bt246.2 = 0 then ((reckonerref02_Parse.f k (⟨#[49, 48, 48, 48, 48, 48, 48, 48, 48, 48, 48, 48, 48, 48, 48, 48, 48, 48, 48, 48, 48]⟩ : ByteArray)).bind fun t280 => ((reckonerref02_Is.f k bt246.1 t280).bind fun t283 => (if t283 = true then (if bt253.2 = 0 then ((reckonerref02_Is.f k bt253.1 (([1, 18446744073709551614] : List Int))).bind fun t287 => (if t287 = true then (if bt263.2.2 = 0 then ((reckonerref02_Parse.f k (⟨#[51, 51, 51, 51, 51, 51, 51, 51, 51, 51, 51, 51, 51, 51, 51, 51, 51, 51, 51, 51]⟩ : ByteArray)).bind fun t288 => ((reckonerref02_Is.f k bt263.1 t288).bind fun t291 => (if t291 = true then ((reckonerref02_Is.f k bt263.2.1 (([1] : List Int))).bind fun t295 => (if t295 = true then (some (bt276.2 == 8)) else (none))) else (none)))) else (none)) else (none))) else (none)) else (none)))) else (none)))))
set_option maxHeartbeats 8000000 in
set_option maxRecDepth 100000 in
theorem reckonerlaw02_awake.calls (k : Nat)  (r : Bool) (w : World) (h : reckonerlaw02_awake.f k  = some r) :
  Calls Try.prog 15 #[] w fun e w' => e = .returned (.bool r) ∧ Below w.heap.size w w' := by
 have HB := Aside0.mk (Below.refl w.heap.size w)
 have H : ((nat_Pow.f (([10] : List Int)) 20).bind fun bt246 => ((nat_Square.f (([18446744073709551615] : List Int))).bind fun bt253 => ((nat_DivMod.f (([7766279631452241920, 5] : List Int)) (([3] : List Int))).bind fun bt263 => ((nat_Sub.f (([1] : List Int)) (([2] : List Int))).bind fun bt276 => (if bt246.2 = 0 then ((reckonerref02_Parse.f k (⟨#[49, 48, 48, 48, 48, 48, 48, 48, 48, 48, 48, 48, 48, 48, 48, 48, 48, 48, 48, 48, 48]⟩ : ByteArray)).bind fun t280 => ((reckonerref02_Is.f k bt246.1 t280).bind fun t283 => (if t283 = true then (if bt253.2 = 0 then ((reckonerref02_Is.f k bt253.1 (([1, 18446744073709551614] : List Int))).bind fun t287 => (if t287 = true then (if bt263.2.2 = 0 then ((reckonerref02_Parse.f k (⟨#[51, 51, 51, 51, 51, 51, 51, 51, 51, 51, 51, 51, 51, 51, 51, 51, 51, 51, 51, 51]⟩ : ByteArray)).bind fun t288 => ((reckonerref02_Is.f k bt263.1 t288).bind fun t291 => (if t291 = true then ((reckonerref02_Is.f k bt263.2.1 (([1] : List Int))).bind fun t295 => (if t295 = true then (some (bt276.2 == 8)) else (none))) else (none)))) else (none)) else (none))) else (none)) else (none)))) else (none)))))) = some r := h
 clear h
 obtain ⟨y243, hy243⟩ : ∃ y_ : List Int, y_ = (([10] : List Int)) := ⟨_, rfl⟩
 replace H : ((nat_Pow.f y243 20).bind fun bt246 => ((nat_Square.f (([18446744073709551615] : List Int))).bind fun bt253 => ((nat_DivMod.f (([7766279631452241920, 5] : List Int)) (([3] : List Int))).bind fun bt263 => ((nat_Sub.f (([1] : List Int)) (([2] : List Int))).bind fun bt276 => (if bt246.2 = 0 then ((reckonerref02_Parse.f k (⟨#[49, 48, 48, 48, 48, 48, 48, 48, 48, 48, 48, 48, 48, 48, 48, 48, 48, 48, 48, 48, 48]⟩ : ByteArray)).bind fun t280 => ((reckonerref02_Is.f k bt246.1 t280).bind fun t283 => (if t283 = true then (if bt253.2 = 0 then ((reckonerref02_Is.f k bt253.1 (([1, 18446744073709551614] : List Int))).bind fun t287 => (if t287 = true then (if bt263.2.2 = 0 then ((reckonerref02_Parse.f k (⟨#[51, 51, 51, 51, 51, 51, 51, 51, 51, 51, 51, 51, 51, 51, 51, 51, 51, 51, 51, 51]⟩ : ByteArray)).bind fun t288 => ((reckonerref02_Is.f k bt263.1 t288).bind fun t291 => (if t291 = true then ((reckonerref02_Is.f k bt263.2.1 (([1] : List Int))).bind fun t295 => (if t295 = true then (some (bt276.2 == 8)) else (none))) else (none)))) else (none)) else (none))) else (none)) else (none)))) else (none)))))) = some r := by first | (rw [hy243]; with_reducible exact H) | (have H2_ := (Option.bind_some _ _).symm.trans H; rw [hy243]; with_reducible exact H2_) | (have H2_ := (Option.bind_some _ _).symm.trans H; with_reducible exact H2_) | with_reducible exact H | (rw [hy243]; exact H) | exact H
 have Ny243 := Aside0.mk hy243
 clear hy243
 replace H := Option.bind_eq_some_iff.mp H
 obtain ⟨⟨t246, t247⟩, A10, H⟩ := H
 replace H : ((nat_Square.f (([18446744073709551615] : List Int))).bind fun bt253 => ((nat_DivMod.f (([7766279631452241920, 5] : List Int)) (([3] : List Int))).bind fun bt263 => ((nat_Sub.f (([1] : List Int)) (([2] : List Int))).bind fun bt276 => (if t247 = 0 then ((reckonerref02_Parse.f k (⟨#[49, 48, 48, 48, 48, 48, 48, 48, 48, 48, 48, 48, 48, 48, 48, 48, 48, 48, 48, 48, 48]⟩ : ByteArray)).bind fun t280 => ((reckonerref02_Is.f k t246 t280).bind fun t283 => (if t283 = true then (if bt253.2 = 0 then ((reckonerref02_Is.f k bt253.1 (([1, 18446744073709551614] : List Int))).bind fun t287 => (if t287 = true then (if bt263.2.2 = 0 then ((reckonerref02_Parse.f k (⟨#[51, 51, 51, 51, 51, 51, 51, 51, 51, 51, 51, 51, 51, 51, 51, 51, 51, 51, 51, 51]⟩ : ByteArray)).bind fun t288 => ((reckonerref02_Is.f k bt263.1 t288).bind fun t291 => (if t291 = true then ((reckonerref02_Is.f k bt263.2.1 (([1] : List Int))).bind fun t295 => (if t295 = true then (some (bt276.2 == 8)) else (none))) else (none)))) else (none)) else (none))) else (none)) else (none)))) else (none))))) = some r := H
 have A1 := Aside0.mk A10
 clear A10
 obtain ⟨y250, hy250⟩ : ∃ y_ : List Int, y_ = (([18446744073709551615] : List Int)) := ⟨_, rfl⟩
 replace H : ((nat_Square.f y250).bind fun bt253 => ((nat_DivMod.f (([7766279631452241920, 5] : List Int)) (([3] : List Int))).bind fun bt263 => ((nat_Sub.f (([1] : List Int)) (([2] : List Int))).bind fun bt276 => (if t247 = 0 then ((reckonerref02_Parse.f k (⟨#[49, 48, 48, 48, 48, 48, 48, 48, 48, 48, 48, 48, 48, 48, 48, 48, 48, 48, 48, 48, 48]⟩ : ByteArray)).bind fun t280 => ((reckonerref02_Is.f k t246 t280).bind fun t283 => (if t283 = true then (if bt253.2 = 0 then ((reckonerref02_Is.f k bt253.1 (([1, 18446744073709551614] : List Int))).bind fun t287 => (if t287 = true then (if bt263.2.2 = 0 then ((reckonerref02_Parse.f k (⟨#[51, 51, 51, 51, 51, 51, 51, 51, 51, 51, 51, 51, 51, 51, 51, 51, 51, 51, 51, 51]⟩ : ByteArray)).bind fun t288 => ((reckonerref02_Is.f k bt263.1 t288).bind fun t291 => (if t291 = true then ((reckonerref02_Is.f k bt263.2.1 (([1] : List Int))).bind fun t295 => (if t295 = true then (some (bt276.2 == 8)) else (none))) else (none)))) else (none)) else (none))) else (none)) else (none)))) else (none))))) = some r := by first | (rw [hy250]; with_reducible exact H) | (have H2_ := (Option.bind_some _ _).symm.trans H; rw [hy250]; with_reducible exact H2_) | (have H2_ := (Option.bind_some _ _).symm.trans H; with_reducible exact H2_) | with_reducible exact H | (rw [hy250]; exact H) | exact H
 have Ny250 := Aside0.mk hy250
 clear hy250
 replace H := Option.bind_eq_some_iff.mp H
 obtain ⟨⟨t253, t254⟩, A20, H⟩ := H
 replace H : ((nat_DivMod.f (([7766279631452241920, 5] : List Int)) (([3] : List Int))).bind fun bt263 => ((nat_Sub.f (([1] : List Int)) (([2] : List Int))).bind fun bt276 => (if t247 = 0 then ((reckonerref02_Parse.f k (⟨#[49, 48, 48, 48, 48, 48, 48, 48, 48, 48, 48, 48, 48, 48, 48, 48, 48, 48, 48, 48, 48]⟩ : ByteArray)).bind fun t280 => ((reckonerref02_Is.f k t246 t280).bind fun t283 => (if t283 = true then (if t254 = 0 then ((reckonerref02_Is.f k t253 (([1, 18446744073709551614] : List Int))).bind fun t287 => (if t287 = true then (if bt263.2.2 = 0 then ((reckonerref02_Parse.f k (⟨#[51, 51, 51, 51, 51, 51, 51, 51, 51, 51, 51, 51, 51, 51, 51, 51, 51, 51, 51, 51]⟩ : ByteArray)).bind fun t288 => ((reckonerref02_Is.f k bt263.1 t288).bind fun t291 => (if t291 = true then ((reckonerref02_Is.f k bt263.2.1 (([1] : List Int))).bind fun t295 => (if t295 = true then (some (bt276.2 == 8)) else (none))) else (none)))) else (none)) else (none))) else (none)) else (none)))) else (none)))) = some r := H
 have A2 := Aside0.mk A20
 clear A20
 obtain ⟨y257, hy257⟩ : ∃ y_ : List Int, y_ = (([7766279631452241920, 5] : List Int)) := ⟨_, rfl⟩
 replace H : ((nat_DivMod.f y257 (([3] : List Int))).bind fun bt263 => ((nat_Sub.f (([1] : List Int)) (([2] : List Int))).bind fun bt276 => (if t247 = 0 then ((reckonerref02_Parse.f k (⟨#[49, 48, 48, 48, 48, 48, 48, 48, 48, 48, 48, 48, 48, 48, 48, 48, 48, 48, 48, 48, 48]⟩ : ByteArray)).bind fun t280 => ((reckonerref02_Is.f k t246 t280).bind fun t283 => (if t283 = true then (if t254 = 0 then ((reckonerref02_Is.f k t253 (([1, 18446744073709551614] : List Int))).bind fun t287 => (if t287 = true then (if bt263.2.2 = 0 then ((reckonerref02_Parse.f k (⟨#[51, 51, 51, 51, 51, 51, 51, 51, 51, 51, 51, 51, 51, 51, 51, 51, 51, 51, 51, 51]⟩ : ByteArray)).bind fun t288 => ((reckonerref02_Is.f k bt263.1 t288).bind fun t291 => (if t291 = true then ((reckonerref02_Is.f k bt263.2.1 (([1] : List Int))).bind fun t295 => (if t295 = true then (some (bt276.2 == 8)) else (none))) else (none)))) else (none)) else (none))) else (none)) else (none)))) else (none)))) = some r := by first | (rw [hy257]; with_reducible exact H) | (have H2_ := (Option.bind_some _ _).symm.trans H; rw [hy257]; with_reducible exact H2_) | (have H2_ := (Option.bind_some _ _).symm.trans H; with_reducible exact H2_) | with_reducible exact H | (rw [hy257]; exact H) | exact H
 have Ny257 := Aside0.mk hy257
 clear hy257
 obtain ⟨y260, hy260⟩ : ∃ y_ : List Int, y_ = (([3] : List Int)) := ⟨_, rfl⟩
 replace H : ((nat_DivMod.f y257 y260).bind fun bt263 => ((nat_Sub.f (([1] : List Int)) (([2] : List Int))).bind fun bt276 => (if t247 = 0 then ((reckonerref02_Parse.f k (⟨#[49, 48, 48, 48, 48, 48, 48, 48, 48, 48, 48, 48, 48, 48, 48, 48, 48, 48, 48, 48, 48]⟩ : ByteArray)).bind fun t280 => ((reckonerref02_Is.f k t246 t280).bind fun t283 => (if t283 = true then (if t254 = 0 then ((reckonerref02_Is.f k t253 (([1, 18446744073709551614] : List Int))).bind fun t287 => (if t287 = true then (if bt263.2.2 = 0 then ((reckonerref02_Parse.f k (⟨#[51, 51, 51, 51, 51, 51, 51, 51, 51, 51, 51, 51, 51, 51, 51, 51, 51, 51, 51, 51]⟩ : ByteArray)).bind fun t288 => ((reckonerref02_Is.f k bt263.1 t288).bind fun t291 => (if t291 = true then ((reckonerref02_Is.f k bt263.2.1 (([1] : List Int))).bind fun t295 => (if t295 = true then (some (bt276.2 == 8)) else (none))) else (none)))) else (none)) else (none))) else (none)) else (none)))) else (none)))) = some r := by first | (rw [hy260]; with_reducible exact H) | (have H2_ := (Option.bind_some _ _).symm.trans H; rw [hy260]; with_reducible exact H2_) | (have H2_ := (Option.bind_some _ _).symm.trans H; with_reducible exact H2_) | with_reducible exact H | (rw [hy260]; exact H) | exact H
 have Ny260 := Aside0.mk hy260
 clear hy260
 replace H := Option.bind_eq_some_iff.mp H
 obtain ⟨⟨t263, t264, t265⟩, A30, H⟩ := H
 replace H : ((nat_Sub.f (([1] : List Int)) (([2] : List Int))).bind fun bt276 => (if t247 = 0 then ((reckonerref02_Parse.f k (⟨#[49, 48, 48, 48, 48, 48, 48, 48, 48, 48, 48, 48, 48, 48, 48, 48, 48, 48, 48, 48, 48]⟩ : ByteArray)).bind fun t280 => ((reckonerref02_Is.f k t246 t280).bind fun t283 => (if t283 = true then (if t254 = 0 then ((reckonerref02_Is.f k t253 (([1, 18446744073709551614] : List Int))).bind fun t287 => (if t287 = true then (if t265 = 0 then ((reckonerref02_Parse.f k (⟨#[51, 51, 51, 51, 51, 51, 51, 51, 51, 51, 51, 51, 51, 51, 51, 51, 51, 51, 51, 51]⟩ : ByteArray)).bind fun t288 => ((reckonerref02_Is.f k t263 t288).bind fun t291 => (if t291 = true then ((reckonerref02_Is.f k t264 (([1] : List Int))).bind fun t295 => (if t295 = true then (some (bt276.2 == 8)) else (none))) else (none)))) else (none)) else (none))) else (none)) else (none)))) else (none))) = some r := H
 have A3 := Aside0.mk A30
 clear A30
 obtain ⟨y270, hy270⟩ : ∃ y_ : List Int, y_ = (([1] : List Int)) := ⟨_, rfl⟩
 replace H : ((nat_Sub.f y270 (([2] : List Int))).bind fun bt276 => (if t247 = 0 then ((reckonerref02_Parse.f k (⟨#[49, 48, 48, 48, 48, 48, 48, 48, 48, 48, 48, 48, 48, 48, 48, 48, 48, 48, 48, 48, 48]⟩ : ByteArray)).bind fun t280 => ((reckonerref02_Is.f k t246 t280).bind fun t283 => (if t283 = true then (if t254 = 0 then ((reckonerref02_Is.f k t253 (([1, 18446744073709551614] : List Int))).bind fun t287 => (if t287 = true then (if t265 = 0 then ((reckonerref02_Parse.f k (⟨#[51, 51, 51, 51, 51, 51, 51, 51, 51, 51, 51, 51, 51, 51, 51, 51, 51, 51, 51, 51]⟩ : ByteArray)).bind fun t288 => ((reckonerref02_Is.f k t263 t288).bind fun t291 => (if t291 = true then ((reckonerref02_Is.f k t264 (([1] : List Int))).bind fun t295 => (if t295 = true then (some (bt276.2 == 8)) else (none))) else (none)))) else (none)) else (none))) else (none)) else (none)))) else (none))) = some r := by first | (rw [hy270]; with_reducible exact H) | (have H2_ := (Option.bind_some _ _).symm.trans H; rw [hy270]; with_reducible exact H2_) | (have H2_ := (Option.bind_some _ _).symm.trans H; with_reducible exact H2_) | with_reducible exact H | (rw [hy270]; exact H) | exact H
 have Ny270 := Aside0.mk hy270
 clear hy270
 obtain ⟨y273, hy273⟩ : ∃ y_ : List Int, y_ = (([2] : List Int)) := ⟨_, rfl⟩
 replace H : ((nat_Sub.f y270 y273).bind fun bt276 => (if t247 = 0 then ((reckonerref02_Parse.f k (⟨#[49, 48, 48, 48, 48, 48, 48, 48, 48, 48, 48, 48, 48, 48, 48, 48, 48, 48, 48, 48, 48]⟩ : ByteArray)).bind fun t280 => ((reckonerref02_Is.f k t246 t280).bind fun t283 => (if t283 = true then (if t254 = 0 then ((reckonerref02_Is.f k t253 (([1, 18446744073709551614] : List Int))).bind fun t287 => (if t287 = true then (if t265 = 0 then ((reckonerref02_Parse.f k (⟨#[51, 51, 51, 51, 51, 51, 51, 51, 51, 51, 51, 51, 51, 51, 51, 51, 51, 51, 51, 51]⟩ : ByteArray)).bind fun t288 => ((reckonerref02_Is.f k t263 t288).bind fun t291 => (if t291 = true then ((reckonerref02_Is.f k t264 (([1] : List Int))).bind fun t295 => (if t295 = true then (some (bt276.2 == 8)) else (none))) else (none)))) else (none)) else (none))) else (none)) else (none)))) else (none))) = some r := by first | (rw [hy273]; with_reducible exact H) | (have H2_ := (Option.bind_some _ _).symm.trans H; rw [hy273]; with_reducible exact H2_) | (have H2_ := (Option.bind_some _ _).symm.trans H; with_reducible exact H2_) | with_reducible exact H | (rw [hy273]; exact H) | exact H
 have Ny273 := Aside0.mk hy273
 clear hy273
 replace H := Option.bind_eq_some_iff.mp H
 obtain ⟨⟨t276, t277⟩, A40, H⟩ := H
 replace H : (if t247 = 0 then ((reckonerref02_Parse.f k (⟨#[49, 48, 48, 48, 48, 48, 48, 48, 48, 48, 48, 48, 48, 48, 48, 48, 48, 48, 48, 48, 48]⟩ : ByteArray)).bind fun t280 => ((reckonerref02_Is.f k t246 t280).bind fun t283 => (if t283 = true then (if t254 = 0 then ((reckonerref02_Is.f k t253 (([1, 18446744073709551614] : List Int))).bind fun t287 => (if t287 = true then (if t265 = 0 then ((reckonerref02_Parse.f k (⟨#[51, 51, 51, 51, 51, 51, 51, 51, 51, 51, 51, 51, 51, 51, 51, 51, 51, 51, 51, 51]⟩ : ByteArray)).bind fun t288 => ((reckonerref02_Is.f k t263 t288).bind fun t291 => (if t291 = true then ((reckonerref02_Is.f k t264 (([1] : List Int))).bind fun t295 => (if t295 = true then (some (t277 == 8)) else (none))) else (none)))) else (none)) else (none))) else (none)) else (none)))) else (none)) = some r := H
 have A4 := Aside0.mk A40
 clear A40
 by_cases c5 : t247 = 0
 ·rw [if_pos c5] at H
  have c5b0 : (t247 == 0) = true := beq_iff_eq.mpr c5
  have c5b1 : (t247 != 0) = false := bne_eq_false_iff_eq.mpr c5
  clear c5
  replace H := Option.bind_eq_some_iff.mp H
  obtain ⟨t280, A60, H⟩ := H
  replace H : ((reckonerref02_Is.f k t246 t280).bind fun t283 => (if t283 = true then (if t254 = 0 then ((reckonerref02_Is.f k t253 (([1, 18446744073709551614] : List Int))).bind fun t287 => (if t287 = true then (if t265 = 0 then ((reckonerref02_Parse.f k (⟨#[51, 51, 51, 51, 51, 51, 51, 51, 51, 51, 51, 51, 51, 51, 51, 51, 51, 51, 51, 51]⟩ : ByteArray)).bind fun t288 => ((reckonerref02_Is.f k t263 t288).bind fun t291 => (if t291 = true then ((reckonerref02_Is.f k t264 (([1] : List Int))).bind fun t295 => (if t295 = true then (some (t277 == 8)) else (none))) else (none)))) else (none)) else (none))) else (none)) else (none))) = some r := H
  have A6 := Aside0.mk A60
  clear A60
  replace H := Option.bind_eq_some_iff.mp H
  obtain ⟨t283, A70, H⟩ := H
  replace H : (if t283 = true then (if t254 = 0 then ((reckonerref02_Is.f k t253 (([1, 18446744073709551614] : List Int))).bind fun t287 => (if t287 = true then (if t265 = 0 then ((reckonerref02_Parse.f k (⟨#[51, 51, 51, 51, 51, 51, 51, 51, 51, 51, 51, 51, 51, 51, 51, 51, 51, 51, 51, 51]⟩ : ByteArray)).bind fun t288 => ((reckonerref02_Is.f k t263 t288).bind fun t291 => (if t291 = true then ((reckonerref02_Is.f k t264 (([1] : List Int))).bind fun t295 => (if t295 = true then (some (t277 == 8)) else (none))) else (none)))) else (none)) else (none))) else (none)) else (none)) = some r := H
  have A7 := Aside0.mk A70
  clear A70
  by_cases c8 : t283 = true
  ·subst c8
   have H1 : (if t254 = 0 then ((reckonerref02_Is.f k t253 (([1, 18446744073709551614] : List Int))).bind fun t287 => (if t287 = true then (if t265 = 0 then ((reckonerref02_Parse.f k (⟨#[51, 51, 51, 51, 51, 51, 51, 51, 51, 51, 51, 51, 51, 51, 51, 51, 51, 51, 51, 51]⟩ : ByteArray)).bind fun t288 => ((reckonerref02_Is.f k t263 t288).bind fun t291 => (if t291 = true then ((reckonerref02_Is.f k t264 (([1] : List Int))).bind fun t295 => (if t295 = true then (some (t277 == 8)) else (none))) else (none)))) else (none)) else (none))) else (none)) = some r := by rw [if_pos rfl] at H; exact H
   clear H
   have H := H1
   clear H1
   by_cases c9 : t254 = 0
   ·rw [if_pos c9] at H
    have c9b0 : (t254 == 0) = true := beq_iff_eq.mpr c9
    have c9b1 : (t254 != 0) = false := bne_eq_false_iff_eq.mpr c9
    clear c9
    obtain ⟨y284, hy284⟩ : ∃ y_ : List Int, y_ = (([1, 18446744073709551614] : List Int)) := ⟨_, rfl⟩
    replace H : ((reckonerref02_Is.f k t253 y284).bind fun t287 => (if t287 = true then (if t265 = 0 then ((reckonerref02_Parse.f k (⟨#[51, 51, 51, 51, 51, 51, 51, 51, 51, 51, 51, 51, 51, 51, 51, 51, 51, 51, 51, 51]⟩ : ByteArray)).bind fun t288 => ((reckonerref02_Is.f k t263 t288).bind fun t291 => (if t291 = true then ((reckonerref02_Is.f k t264 (([1] : List Int))).bind fun t295 => (if t295 = true then (some (t277 == 8)) else (none))) else (none)))) else (none)) else (none))) = some r := by first | (rw [hy284]; with_reducible exact H) | (have H2_ := (Option.bind_some _ _).symm.trans H; rw [hy284]; with_reducible exact H2_) | (have H2_ := (Option.bind_some _ _).symm.trans H; with_reducible exact H2_) | with_reducible exact H | (rw [hy284]; exact H) | exact H
    have Ny284 := Aside0.mk hy284
    clear hy284
    replace H := Option.bind_eq_some_iff.mp H
    obtain ⟨t287, A100, H⟩ := H
    replace H : (if t287 = true then (if t265 = 0 then ((reckonerref02_Parse.f k (⟨#[51, 51, 51, 51, 51, 51, 51, 51, 51, 51, 51, 51, 51, 51, 51, 51, 51, 51, 51, 51]⟩ : ByteArray)).bind fun t288 => ((reckonerref02_Is.f k t263 t288).bind fun t291 => (if t291 = true then ((reckonerref02_Is.f k t264 (([1] : List Int))).bind fun t295 => (if t295 = true then (some (t277 == 8)) else (none))) else (none)))) else (none)) else (none)) = some r := H
    have A10 := Aside0.mk A100
    clear A100
    by_cases c11 : t287 = true
    ·subst c11
     have H1 : (if t265 = 0 then ((reckonerref02_Parse.f k (⟨#[51, 51, 51, 51, 51, 51, 51, 51, 51, 51, 51, 51, 51, 51, 51, 51, 51, 51, 51, 51]⟩ : ByteArray)).bind fun t288 => ((reckonerref02_Is.f k t263 t288).bind fun t291 => (if t291 = true then ((reckonerref02_Is.f k t264 (([1] : List Int))).bind fun t295 => (if t295 = true then (some (t277 == 8)) else (none))) else (none)))) else (none)) = some r := by rw [if_pos rfl] at H; exact H
     clear H
     have H := H1
     clear H1
     by_cases c12 : t265 = 0
     ·rw [if_pos c12] at H
      have c12b0 : (t265 == 0) = true := beq_iff_eq.mpr c12
      have c12b1 : (t265 != 0) = false := bne_eq_false_iff_eq.mpr c12
      clear c12
      replace H := Option.bind_eq_some_iff.mp H
      obtain ⟨t288, A130, H⟩ := H
      replace H : ((reckonerref02_Is.f k t263 t288).bind fun t291 => (if t291 = true then ((reckonerref02_Is.f k t264 (([1] : List Int))).bind fun t295 => (if t295 = true then (some (t277 == 8)) else (none))) else (none))) = some r := H
      have A13 := Aside0.mk A130
      clear A130
      replace H := Option.bind_eq_some_iff.mp H
      obtain ⟨t291, A140, H⟩ := H
      replace H : (if t291 = true then ((reckonerref02_Is.f k t264 (([1] : List Int))).bind fun t295 => (if t295 = true then (some (t277 == 8)) else (none))) else (none)) = some r := H
      have A14 := Aside0.mk A140
      clear A140
      by_cases c15 : t291 = true
      ·subst c15
       have H1 : ((reckonerref02_Is.f k t264 (([1] : List Int))).bind fun t295 => (if t295 = true then (some (t277 == 8)) else (none))) = some r := by rw [if_pos rfl] at H; exact H
       clear H
       have H := H1
       clear H1
       obtain ⟨y292, hy292⟩ : ∃ y_ : List Int, y_ = (([1] : List Int)) := ⟨_, rfl⟩
       replace H : ((reckonerref02_Is.f k t264 y292).bind fun t295 => (if t295 = true then (some (t277 == 8)) else (none))) = some r := by first | (rw [hy292]; with_reducible exact H) | (have H2_ := (Option.bind_some _ _).symm.trans H; rw [hy292]; with_reducible exact H2_) | (have H2_ := (Option.bind_some _ _).symm.trans H; with_reducible exact H2_) | with_reducible exact H | (rw [hy292]; exact H) | exact H
       have Ny292 := Aside0.mk hy292
       clear hy292
       replace H := Option.bind_eq_some_iff.mp H
       obtain ⟨t295, A160, H⟩ := H
       replace H : (if t295 = true then (some (t277 == 8)) else (none)) = some r := H
       have A16 := Aside0.mk A160
       clear A160
       by_cases c17 : t295 = true
       ·subst c17
        have H1 : (some (t277 == 8)) = some r := by rw [if_pos rfl] at H; exact H
        clear H
        have H := H1
        clear H1
        obtain rfl := Option.some.inj H
        go_enter Try.func15, Try.ntmps15
        try simp only [List.append]
        go_wp2_with (first | ((with_reducible refine gate_dst (N := 11) rfl ?_); (try (refine gate_guard (by rfl) ?_; dsimp only)); refine Kd.R_lit (Kd.int .u64) _ 33 ?hg (N := 11) ?hd (xs := ([10] : List Int)) (inner := [.int .u64 10]) (ok := fun _ => True) (okp := fun _ => True) ?hr ?hp (fun _ hk => hk) trivial (Below.refl _ _) (Nat.le_refl _) (by simp) ?_; (case hd => rfl); (case hg => rfl); (case hr => first | (go_simp; done) | (go_simp; rfl)); (case hp => exact (Reps.one (show Kd.M (Kd.int .u64) _ _ _ 10 [.int .u64 10] from rfl) (Reps.none _ _))); intro v244 w18 ho19 hb hg_ hnew_; clear hg_ hnew_; (first | rw [← Ny243.out] at ho19 | (simp only [Int.reduceToNat] at ho19; rw [← Ny243.out] at ho19)); have n0_ := Aside0.mk (Kd.R_lower ho19 (below_size (by repeat (first | (with_reducible first | exact HB.out | apply below_alloc | apply pw_below_drewN | apply below_drew1) | exact HB.out)))); have n1_ := Aside0.mk (below_step (by repeat (first | (with_reducible first | exact HB.out | apply below_alloc | apply pw_below_drewN | apply below_drew1) | exact HB.out)) hb); clear HB; have HO245 := n0_; have HB := n1_; clear n0_ n1_; clear hb ho19; obtain ⟨Ao20, co20, eo20⟩ := Kd.R_slice HO245.out; subst eo20) | ((with_reducible refine gate_callee (f := 11) rfl ?_); refine goesL_ (some 12) rfl rfl Try.func11 (by kernel_rfl) rfl #[.slice Ao20 y243.length co20, .int .i64 20] rfl (by (try simp only [List.map_toArray, List.map_cons, List.map_nil]); first | done | rfl | (simp only [List.length_drop, List.length_take]; rfl)) ?_; (with_reducible refine (nat_Pow.calls _ _ y243 20 t246 t247 _ ?side1 ?side2 A1.out).mono ?_); (case side1 => repeat (first | exact (Kd.R_reads' HO245.out).2.2 | (with_reducible refine Kd.C_alloc ?_ _) | (with_reducible refine Kd.C_drewN ?_ _) | (with_reducible refine Kd.C_drew ?_))); (case side2 => exact (Kd.R_reads' HO245.out).2.1); rintro e w21 ⟨v248, rfl, ho0, hb⟩; refine ⟨_, rfl, ?_⟩; have n0_ := Aside0.mk (Kd.R_elder' (by (with_reducible repeat (first | apply Kd.R_alloc | apply Kd.R_drewN | apply Kd.R_drew)); exact HO245.out) (Kd.R_base ho0) hb); have n1_ := Aside0.mk (Kd.R_lower (Kd.R_new' ho0 (Kd.R_lt (by (with_reducible repeat (first | apply Kd.R_alloc | apply Kd.R_drewN | apply Kd.R_drew)); exact HO245.out))) (below_size (by repeat (first | (with_reducible first | exact HB.out | apply below_alloc | apply pw_below_drewN | apply below_drew1) | exact HB.out)))); have n2_ := Aside0.mk (below_step (by repeat (first | (with_reducible first | exact HB.out | apply below_alloc | apply pw_below_drewN | apply below_drew1) | exact HB.out)) hb); clear HO245; clear HB; have HO245 := n0_; have HO249 := n1_; have HB := n2_; clear n0_ n1_ n2_; (try clear hb); (try clear hb2); (try clear hk); (try clear hi); (try clear ho0)) | ((with_reducible refine gate_dst (N := 16) rfl ?_); (try (refine gate_guard (by rfl) ?_; dsimp only)); refine Kd.R_lit (Kd.int .u64) _ 33 ?hg (N := 16) ?hd (xs := ([18446744073709551615] : List Int)) (inner := [.int .u64 18446744073709551615]) (ok := fun _ => True) (okp := fun _ => True) ?hr ?hp (fun _ hk => hk) trivial (Below.refl _ _) (Nat.le_refl _) (by simp) ?_; (case hd => rfl); (case hg => rfl); (case hr => first | (go_simp; done) | (go_simp; rfl)); (case hp => exact (Reps.one (show Kd.M (Kd.int .u64) _ _ _ 18446744073709551615 [.int .u64 18446744073709551615] from rfl) (Reps.none _ _))); intro v251 w22 ho23 hb hg_ hnew_; clear hg_ hnew_; (first | rw [← Ny250.out] at ho23 | (simp only [Int.reduceToNat] at ho23; rw [← Ny250.out] at ho23)); have n0_ := Aside0.mk (Kd.R_elder' (by (with_reducible repeat (first | apply Kd.R_alloc | apply Kd.R_drewN | apply Kd.R_drew)); exact HO245.out) (Kd.R_base ho23) hb); have n1_ := Aside0.mk (Kd.R_elder' (by (with_reducible repeat (first | apply Kd.R_alloc | apply Kd.R_drewN | apply Kd.R_drew)); exact HO249.out) (Kd.R_base ho23) hb); have n2_ := Aside0.mk (Kd.R_lower (Kd.R_new' (Kd.R_new' ho23 (Kd.R_lt (by (with_reducible repeat (first | apply Kd.R_alloc | apply Kd.R_drewN | apply Kd.R_drew)); exact HO245.out))) (Kd.R_lt (by (with_reducible repeat (first | apply Kd.R_alloc | apply Kd.R_drewN | apply Kd.R_drew)); exact HO249.out))) (below_size (by repeat (first | (with_reducible first | exact HB.out | apply below_alloc | apply pw_below_drewN | apply below_drew1) | exact HB.out)))); have n3_ := Aside0.mk (below_step (by repeat (first | (with_reducible first | exact HB.out | apply below_alloc | apply pw_below_drewN | apply below_drew1) | exact HB.out)) hb); clear HO245; clear HO249; clear HB; have HO245 := n0_; have HO249 := n1_; have HO252 := n2_; have HB := n3_; clear n0_ n1_ n2_ n3_; clear hb ho23; obtain ⟨Ao24, co24, eo24⟩ := Kd.R_slice HO252.out; subst eo24) | ((with_reducible refine gate_callee (f := 22) rfl ?_); refine goesL_ (some 17) rfl rfl Try.func22 (by kernel_rfl) rfl #[.slice Ao24 y250.length co24] rfl (by (try simp only [List.map_toArray, List.map_cons, List.map_nil]); first | done | rfl | (simp only [List.length_drop, List.length_take]; rfl)) ?_; (with_reducible refine (nat_Square.calls _ _ y250 t253 t254 _ ?side1 ?side2 A2.out).mono ?_); (case side1 => repeat (first | exact (Kd.R_reads' HO252.out).2.2 | (with_reducible refine Kd.C_alloc ?_ _) | (with_reducible refine Kd.C_drewN ?_ _) | (with_reducible refine Kd.C_drew ?_))); (case side2 => exact (Kd.R_reads' HO252.out).2.1); rintro e w25 ⟨v255, rfl, ho0, hb⟩; refine ⟨_, rfl, ?_⟩; have n0_ := Aside0.mk (Kd.R_elder' (by (with_reducible repeat (first | apply Kd.R_alloc | apply Kd.R_drewN | apply Kd.R_drew)); exact HO245.out) (Kd.R_base ho0) hb); have n1_ := Aside0.mk (Kd.R_elder' (by (with_reducible repeat (first | apply Kd.R_alloc | apply Kd.R_drewN | apply Kd.R_drew)); exact HO249.out) (Kd.R_base ho0) hb); have n2_ := Aside0.mk (Kd.R_elder' (by (with_reducible repeat (first | apply Kd.R_alloc | apply Kd.R_drewN | apply Kd.R_drew)); exact HO252.out) (Kd.R_base ho0) hb); have n3_ := Aside0.mk (Kd.R_lower (Kd.R_new' (Kd.R_new' (Kd.R_new' ho0 (Kd.R_lt (by (with_reducible repeat (first | apply Kd.R_alloc | apply Kd.R_drewN | apply Kd.R_drew)); exact HO245.out))) (Kd.R_lt (by (with_reducible repeat (first | apply Kd.R_alloc | apply Kd.R_drewN | apply Kd.R_drew)); exact HO249.out))) (Kd.R_lt (by (with_reducible repeat (first | apply Kd.R_alloc | apply Kd.R_drewN | apply Kd.R_drew)); exact HO252.out))) (below_size (by repeat (first | (with_reducible first | exact HB.out | apply below_alloc | apply pw_below_drewN | apply below_drew1) | exact HB.out)))); have n4_ := Aside0.mk (below_step (by repeat (first | (with_reducible first | exact HB.out | apply below_alloc | apply pw_below_drewN | apply below_drew1) | exact HB.out)) hb); clear HO245; clear HO249; clear HO252; clear HB; have HO245 := n0_; have HO249 := n1_; have HO252 := n2_; have HO256 := n3_; have HB := n4_; clear n0_ n1_ n2_ n3_ n4_; (try clear hb); (try clear hb2); (try clear hk); (try clear hi); (try clear ho0)) | ((with_reducible refine gate_dst (N := 21) rfl ?_); (try (refine gate_guard (by rfl) ?_; dsimp only)); refine Kd.R_lit (Kd.int .u64) _ 33 ?hg (N := 21) ?hd (xs := ([7766279631452241920, 5] : List Int)) (inner := [.int .u64 7766279631452241920, .int .u64 5]) (ok := fun _ => True) (okp := fun _ => True) ?hr ?hp (fun _ hk => hk) trivial (Below.refl _ _) (Nat.le_refl _) (by simp) ?_; (case hd => rfl); (case hg => rfl); (case hr => first | (go_simp; done) | (go_simp; rfl)); (case hp => exact (Reps.one (show Kd.M (Kd.int .u64) _ _ _ 7766279631452241920 [.int .u64 7766279631452241920] from rfl) (Reps.one (show Kd.M (Kd.int .u64) _ _ _ 5 [.int .u64 5] from rfl) (Reps.none _ _)))); intro v258 w26 ho27 hb hg_ hnew_; clear hg_ hnew_; (first | rw [← Ny257.out] at ho27 | (simp only [Int.reduceToNat] at ho27; rw [← Ny257.out] at ho27)); have n0_ := Aside0.mk (Kd.R_elder' (by (with_reducible repeat (first | apply Kd.R_alloc | apply Kd.R_drewN | apply Kd.R_drew)); exact HO245.out) (Kd.R_base ho27) hb); have n1_ := Aside0.mk (Kd.R_elder' (by (with_reducible repeat (first | apply Kd.R_alloc | apply Kd.R_drewN | apply Kd.R_drew)); exact HO249.out) (Kd.R_base ho27) hb); have n2_ := Aside0.mk (Kd.R_elder' (by (with_reducible repeat (first | apply Kd.R_alloc | apply Kd.R_drewN | apply Kd.R_drew)); exact HO252.out) (Kd.R_base ho27) hb); have n3_ := Aside0.mk (Kd.R_elder' (by (with_reducible repeat (first | apply Kd.R_alloc | apply Kd.R_drewN | apply Kd.R_drew)); exact HO256.out) (Kd.R_base ho27) hb); have n4_ := Aside0.mk (Kd.R_lower (Kd.R_new' (Kd.R_new' (Kd.R_new' (Kd.R_new' ho27 (Kd.R_lt (by (with_reducible repeat (first | apply Kd.R_alloc | apply Kd.R_drewN | apply Kd.R_drew)); exact HO245.out))) (Kd.R_lt (by (with_reducible repeat (first | apply Kd.R_alloc | apply Kd.R_drewN | apply Kd.R_drew)); exact HO249.out))) (Kd.R_lt (by (with_reducible repeat (first | apply Kd.R_alloc | apply Kd.R_drewN | apply Kd.R_drew)); exact HO252.out))) (Kd.R_lt (by (with_reducible repeat (first | apply Kd.R_alloc | apply Kd.R_drewN | apply Kd.R_drew)); exact HO256.out))) (below_size (by repeat (first | (with_reducible first | exact HB.out | apply below_alloc | apply pw_below_drewN | apply below_drew1) | exact HB.out)))); have n5_ := Aside0.mk (below_step (by repeat (first | (with_reducible first | exact HB.out | apply below_alloc | apply pw_below_drewN | apply below_drew1) | exact HB.out)) hb); clear HO245; clear HO249; clear HO252; clear HO256; clear HB; have HO245 := n0_; have HO249 := n1_; have HO252 := n2_; have HO256 := n3_; have HO259 := n4_; have HB := n5_; clear n0_ n1_ n2_ n3_ n4_ n5_; clear hb ho27) | ((with_reducible refine gate_dst (N := 22) rfl ?_); (try (refine gate_guard (by rfl) ?_; dsimp only)); refine Kd.R_lit (Kd.int .u64) _ 33 ?hg (N := 22) ?hd (xs := ([3] : List Int)) (inner := [.int .u64 3]) (ok := fun _ => True) (okp := fun _ => True) ?hr ?hp (fun _ hk => hk) trivial (Below.refl _ _) (Nat.le_refl _) (by simp) ?_; (case hd => rfl); (case hg => rfl); (case hr => first | (go_simp; done) | (go_simp; rfl)); (case hp => exact (Reps.one (show Kd.M (Kd.int .u64) _ _ _ 3 [.int .u64 3] from rfl) (Reps.none _ _))); intro v261 w28 ho29 hb hg_ hnew_; clear hg_ hnew_; (first | rw [← Ny260.out] at ho29 | (simp only [Int.reduceToNat] at ho29; rw [← Ny260.out] at ho29)); have n0_ := Aside0.mk (Kd.R_elder' (by (with_reducible repeat (first | apply Kd.R_alloc | apply Kd.R_drewN | apply Kd.R_drew)); exact HO245.out) (Kd.R_base ho29) hb); have n1_ := Aside0.mk (Kd.R_elder' (by (with_reducible repeat (first | apply Kd.R_alloc | apply Kd.R_drewN | apply Kd.R_drew)); exact HO249.out) (Kd.R_base ho29) hb); have n2_ := Aside0.mk (Kd.R_elder' (by (with_reducible repeat (first | apply Kd.R_alloc | apply Kd.R_drewN | apply Kd.R_drew)); exact HO252.out) (Kd.R_base ho29) hb); have n3_ := Aside0.mk (Kd.R_elder' (by (with_reducible repeat (first | apply Kd.R_alloc | apply Kd.R_drewN | apply Kd.R_drew)); exact HO256.out) (Kd.R_base ho29) hb); have n4_ := Aside0.mk (Kd.R_elder' (by (with_reducible repeat (first | apply Kd.R_alloc | apply Kd.R_drewN | apply Kd.R_drew)); exact HO259.out) (Kd.R_base ho29) hb); have n5_ := Aside0.mk (Kd.R_lower (Kd.R_new' (Kd.R_new' (Kd.R_new' (Kd.R_new' (Kd.R_new' ho29 (Kd.R_lt (by (with_reducible repeat (first | apply Kd.R_alloc | apply Kd.R_drewN | apply Kd.R_drew)); exact HO245.out))) (Kd.R_lt (by (with_reducible repeat (first | apply Kd.R_alloc | apply Kd.R_drewN | apply Kd.R_drew)); exact HO249.out))) (Kd.R_lt (by (with_reducible repeat (first | apply Kd.R_alloc | apply Kd.R_drewN | apply Kd.R_drew)); exact HO252.out))) (Kd.R_lt (by (with_reducible repeat (first | apply Kd.R_alloc | apply Kd.R_drewN | apply Kd.R_drew)); exact HO256.out))) (Kd.R_lt (by (with_reducible repeat (first | apply Kd.R_alloc | apply Kd.R_drewN | apply Kd.R_drew)); exact HO259.out))) (below_size (by repeat (first | (with_reducible first | exact HB.out | apply below_alloc | apply pw_below_drewN | apply below_drew1) | exact HB.out)))); have n6_ := Aside0.mk (below_step (by repeat (first | (with_reducible first | exact HB.out | apply below_alloc | apply pw_below_drewN | apply below_drew1) | exact HB.out)) hb); clear HO245; clear HO249; clear HO252; clear HO256; clear HO259; clear HB; have HO245 := n0_; have HO249 := n1_; have HO252 := n2_; have HO256 := n3_; have HO259 := n4_; have HO262 := n5_; have HB := n6_; clear n0_ n1_ n2_ n3_ n4_ n5_ n6_; clear hb ho29; obtain ⟨Ao30, co30, eo30⟩ := Kd.R_slice HO259.out; subst eo30; obtain ⟨Ao31, co31, eo31⟩ := Kd.R_slice HO262.out; subst eo31) | ((with_reducible refine gate_callee (f := 16) rfl ?_); refine goesL_ (some 23) rfl rfl Try.func16 (by kernel_rfl) rfl #[.slice Ao30 y257.length co30, .slice Ao31 y260.length co31] rfl (by (try simp only [List.map_toArray, List.map_cons, List.map_nil]); first | done | rfl | (simp only [List.length_drop, List.length_take]; rfl)) ?_; (with_reducible refine (nat_DivMod.calls _ _ y257 _ _ y260 t263 t264 t265 _ ?side1 ?side2 ?side3 ?side4 A3.out).mono ?_); (case side1 => repeat (first | exact (Kd.R_reads' HO259.out).2.2 | (with_reducible refine Kd.C_alloc ?_ _) | (with_reducible refine Kd.C_drewN ?_ _) | (with_reducible refine Kd.C_drew ?_))); (case side2 => exact (Kd.R_reads' HO259.out).2.1); (case side3 => repeat (first | exact (Kd.R_reads' HO262.out).2.2 | (with_reducible refine Kd.C_alloc ?_ _) | (with_reducible refine Kd.C_drewN ?_ _) | (with_reducible refine Kd.C_drew ?_))); (case side4 => exact (Kd.R_reads' HO262.out).2.1); rintro e w32 ⟨v266, v268, rfl, ho0, ho1, hb⟩; refine ⟨_, rfl, ?_⟩; have n0_ := Aside0.mk (Kd.R_mono (Kd.R_told (Kd.R_told (Kd.R_old (by (with_reducible repeat (first | apply Kd.R_alloc | apply Kd.R_drewN | apply Kd.R_drew)); exact HO245.out) hb) (Kd.R_base ho0)) (Kd.R_base ho1)) (fun _ h_ => h_.1)); have n1_ := Aside0.mk (Kd.R_mono (Kd.R_told (Kd.R_told (Kd.R_old (by (with_reducible repeat (first | apply Kd.R_alloc | apply Kd.R_drewN | apply Kd.R_drew)); exact HO249.out) hb) (Kd.R_base ho0)) (Kd.R_base ho1)) (fun _ h_ => h_.1)); have n2_ := Aside0.mk (Kd.R_mono (Kd.R_told (Kd.R_told (Kd.R_old (by (with_reducible repeat (first | apply Kd.R_alloc | apply Kd.R_drewN | apply Kd.R_drew)); exact HO252.out) hb) (Kd.R_base ho0)) (Kd.R_base ho1)) (fun _ h_ => h_.1)); have n3_ := Aside0.mk (Kd.R_mono (Kd.R_told (Kd.R_told (Kd.R_old (by (with_reducible repeat (first | apply Kd.R_alloc | apply Kd.R_drewN | apply Kd.R_drew)); exact HO256.out) hb) (Kd.R_base ho0)) (Kd.R_base ho1)) (fun _ h_ => h_.1)); have n4_ := Aside0.mk (Kd.R_mono (Kd.R_told (Kd.R_told (Kd.R_old (by (with_reducible repeat (first | apply Kd.R_alloc | apply Kd.R_drewN | apply Kd.R_drew)); exact HO259.out) hb) (Kd.R_base ho0)) (Kd.R_base ho1)) (fun _ h_ => h_.1)); have n5_ := Aside0.mk (Kd.R_mono (Kd.R_told (Kd.R_told (Kd.R_old (by (with_reducible repeat (first | apply Kd.R_alloc | apply Kd.R_drewN | apply Kd.R_drew)); exact HO262.out) hb) (Kd.R_base ho0)) (Kd.R_base ho1)) (fun _ h_ => h_.1)); have n6_ := Aside0.mk (Kd.R_lower (Kd.R_new' (Kd.R_new' (Kd.R_new' (Kd.R_new' (Kd.R_new' (Kd.R_new' ho0 (Kd.R_lt (by (with_reducible repeat (first | apply Kd.R_alloc | apply Kd.R_drewN | apply Kd.R_drew)); exact HO245.out))) (Kd.R_lt (by (with_reducible repeat (first | apply Kd.R_alloc | apply Kd.R_drewN | apply Kd.R_drew)); exact HO249.out))) (Kd.R_lt (by (with_reducible repeat (first | apply Kd.R_alloc | apply Kd.R_drewN | apply Kd.R_drew)); exact HO252.out))) (Kd.R_lt (by (with_reducible repeat (first | apply Kd.R_alloc | apply Kd.R_drewN | apply Kd.R_drew)); exact HO256.out))) (Kd.R_lt (by (with_reducible repeat (first | apply Kd.R_alloc | apply Kd.R_drewN | apply Kd.R_drew)); exact HO259.out))) (Kd.R_lt (by (with_reducible repeat (first | apply Kd.R_alloc | apply Kd.R_drewN | apply Kd.R_drew)); exact HO262.out))) (below_size (by repeat (first | (with_reducible first | exact HB.out | apply below_alloc | apply pw_below_drewN | apply below_drew1) | exact HB.out)))); have n7_ := Aside0.mk (Kd.R_lower (Kd.R_new' (Kd.R_new' (Kd.R_new' (Kd.R_new' (Kd.R_new' (Kd.R_new' ho1 (Kd.R_lt (by (with_reducible repeat (first | apply Kd.R_alloc | apply Kd.R_drewN | apply Kd.R_drew)); exact HO245.out))) (Kd.R_lt (by (with_reducible repeat (first | apply Kd.R_alloc | apply Kd.R_drewN | apply Kd.R_drew)); exact HO249.out))) (Kd.R_lt (by (with_reducible repeat (first | apply Kd.R_alloc | apply Kd.R_drewN | apply Kd.R_drew)); exact HO252.out))) (Kd.R_lt (by (with_reducible repeat (first | apply Kd.R_alloc | apply Kd.R_drewN | apply Kd.R_drew)); exact HO256.out))) (Kd.R_lt (by (with_reducible repeat (first | apply Kd.R_alloc | apply Kd.R_drewN | apply Kd.R_drew)); exact HO259.out))) (Kd.R_lt (by (with_reducible repeat (first | apply Kd.R_alloc | apply Kd.R_drewN | apply Kd.R_drew)); exact HO262.out))) (below_size (by repeat (first | (with_reducible first | exact HB.out | apply below_alloc | apply pw_below_drewN | apply below_drew1) | exact HB.out)))); have n8_ := Aside0.mk (below_step (by repeat (first | (with_reducible first | exact HB.out | apply below_alloc | apply pw_below_drewN | apply below_drew1) | exact HB.out)) hb); clear HO245; clear HO249; clear HO252; clear HO256; clear HO259; clear HO262; clear HB; have HO245 := n0_; have HO249 := n1_; have HO252 := n2_; have HO256 := n3_; have HO259 := n4_; have HO262 := n5_; have HO267 := n6_; have HO269 := n7_; have HB := n8_; clear n0_ n1_ n2_ n3_ n4_ n5_ n6_ n7_ n8_; (try clear hb); (try clear hb2); (try clear hk); (try clear hi); (try clear ho0); (try clear ho1)) | ((with_reducible refine gate_dst (N := 28) rfl ?_); (try (refine gate_guard (by rfl) ?_; dsimp only)); refine Kd.R_lit (Kd.int .u64) _ 33 ?hg (N := 28) ?hd (xs := ([1] : List Int)) (inner := [.int .u64 1]) (ok := fun _ => True) (okp := fun _ => True) ?hr ?hp (fun _ hk => hk) trivial (Below.refl _ _) (Nat.le_refl _) (by simp) ?_; (case hd => rfl); (case hg => rfl); (case hr => first | (go_simp; done) | (go_simp; rfl)); (case hp => exact (Reps.one (show Kd.M (Kd.int .u64) _ _ _ 1 [.int .u64 1] from rfl) (Reps.none _ _))); intro v271 w33 ho34 hb hg_ hnew_; clear hg_ hnew_; (first | rw [← Ny270.out] at ho34 | (simp only [Int.reduceToNat] at ho34; rw [← Ny270.out] at ho34)); have n0_ := Aside0.mk (Kd.R_elder' (by (with_reducible repeat (first | apply Kd.R_alloc | apply Kd.R_drewN | apply Kd.R_drew)); exact HO245.out) (Kd.R_base ho34) hb); have n1_ := Aside0.mk (Kd.R_elder' (by (with_reducible repeat (first | apply Kd.R_alloc | apply Kd.R_drewN | apply Kd.R_drew)); exact HO249.out) (Kd.R_base ho34) hb); have n2_ := Aside0.mk (Kd.R_elder' (by (with_reducible repeat (first | apply Kd.R_alloc | apply Kd.R_drewN | apply Kd.R_drew)); exact HO252.out) (Kd.R_base ho34) hb); have n3_ := Aside0.mk (Kd.R_elder' (by (with_reducible repeat (first | apply Kd.R_alloc | apply Kd.R_drewN | apply Kd.R_drew)); exact HO256.out) (Kd.R_base ho34) hb); have n4_ := Aside0.mk (Kd.R_elder' (by (with_reducible repeat (first | apply Kd.R_alloc | apply Kd.R_drewN | apply Kd.R_drew)); exact HO259.out) (Kd.R_base ho34) hb); have n5_ := Aside0.mk (Kd.R_elder' (by (with_reducible repeat (first | apply Kd.R_alloc | apply Kd.R_drewN | apply Kd.R_drew)); exact HO262.out) (Kd.R_base ho34) hb); have n6_ := Aside0.mk (Kd.R_elder' (by (with_reducible repeat (first | apply Kd.R_alloc | apply Kd.R_drewN | apply Kd.R_drew)); exact HO267.out) (Kd.R_base ho34) hb); have n7_ := Aside0.mk (Kd.R_elder' (by (with_reducible repeat (first | apply Kd.R_alloc | apply Kd.R_drewN | apply Kd.R_drew)); exact HO269.out) (Kd.R_base ho34) hb); have n8_ := Aside0.mk (Kd.R_lower (Kd.R_new' (Kd.R_new' (Kd.R_new' (Kd.R_new' (Kd.R_new' (Kd.R_new' (Kd.R_new' (Kd.R_new' ho34 (Kd.R_lt (by (with_reducible repeat (first | apply Kd.R_alloc | apply Kd.R_drewN | apply Kd.R_drew)); exact HO245.out))) (Kd.R_lt (by (with_reducible repeat (first | apply Kd.R_alloc | apply Kd.R_drewN | apply Kd.R_drew)); exact HO249.out))) (Kd.R_lt (by (with_reducible repeat (first | apply Kd.R_alloc | apply Kd.R_drewN | apply Kd.R_drew)); exact HO252.out))) (Kd.R_lt (by (with_reducible repeat (first | apply Kd.R_alloc | apply Kd.R_drewN | apply Kd.R_drew)); exact HO256.out))) (Kd.R_lt (by (with_reducible repeat (first | apply Kd.R_alloc | apply Kd.R_drewN | apply Kd.R_drew)); exact HO259.out))) (Kd.R_lt (by (with_reducible repeat (first | apply Kd.R_alloc | apply Kd.R_drewN | apply Kd.R_drew)); exact HO262.out))) (Kd.R_lt (by (with_reducible repeat (first | apply Kd.R_alloc | apply Kd.R_drewN | apply Kd.R_drew)); exact HO267.out))) (Kd.R_lt (by (with_reducible repeat (first | apply Kd.R_alloc | apply Kd.R_drewN | apply Kd.R_drew)); exact HO269.out))) (below_size (by repeat (first | (with_reducible first | exact HB.out | apply below_alloc | apply pw_below_drewN | apply below_drew1) | exact HB.out)))); have n9_ := Aside0.mk (below_step (by repeat (first | (with_reducible first | exact HB.out | apply below_alloc | apply pw_below_drewN | apply below_drew1) | exact HB.out)) hb); clear HO245; clear HO249; clear HO252; clear HO256; clear HO259; clear HO262; clear HO267; clear HO269; clear HB; have HO245 := n0_; have HO249 := n1_; have HO252 := n2_; have HO256 := n3_; have HO259 := n4_; have HO262 := n5_; have HO267 := n6_; have HO269 := n7_; have HO272 := n8_; have HB := n9_; clear n0_ n1_ n2_ n3_ n4_ n5_ n6_ n7_ n8_ n9_; clear hb ho34) | ((with_reducible refine gate_dst (N := 29) rfl ?_); (try (refine gate_guard (by rfl) ?_; dsimp only)); refine Kd.R_lit (Kd.int .u64) _ 33 ?hg (N := 29) ?hd (xs := ([2] : List Int)) (inner := [.int .u64 2]) (ok := fun _ => True) (okp := fun _ => True) ?hr ?hp (fun _ hk => hk) trivial (Below.refl _ _) (Nat.le_refl _) (by simp) ?_; (case hd => rfl); (case hg => rfl); (case hr => first | (go_simp; done) | (go_simp; rfl)); (case hp => exact (Reps.one (show Kd.M (Kd.int .u64) _ _ _ 2 [.int .u64 2] from rfl) (Reps.none _ _))); intro v274 w35 ho36 hb hg_ hnew_; clear hg_ hnew_; (first | rw [← Ny273.out] at ho36 | (simp only [Int.reduceToNat] at ho36; rw [← Ny273.out] at ho36)); have n0_ := Aside0.mk (Kd.R_elder' (by (with_reducible repeat (first | apply Kd.R_alloc | apply Kd.R_drewN | apply Kd.R_drew)); exact HO245.out) (Kd.R_base ho36) hb); have n1_ := Aside0.mk (Kd.R_elder' (by (with_reducible repeat (first | apply Kd.R_alloc | apply Kd.R_drewN | apply Kd.R_drew)); exact HO249.out) (Kd.R_base ho36) hb); have n2_ := Aside0.mk (Kd.R_elder' (by (with_reducible repeat (first | apply Kd.R_alloc | apply Kd.R_drewN | apply Kd.R_drew)); exact HO252.out) (Kd.R_base ho36) hb); have n3_ := Aside0.mk (Kd.R_elder' (by (with_reducible repeat (first | apply Kd.R_alloc | apply Kd.R_drewN | apply Kd.R_drew)); exact HO256.out) (Kd.R_base ho36) hb); have n4_ := Aside0.mk (Kd.R_elder' (by (with_reducible repeat (first | apply Kd.R_alloc | apply Kd.R_drewN | apply Kd.R_drew)); exact HO259.out) (Kd.R_base ho36) hb); have n5_ := Aside0.mk (Kd.R_elder' (by (with_reducible repeat (first | apply Kd.R_alloc | apply Kd.R_drewN | apply Kd.R_drew)); exact HO262.out) (Kd.R_base ho36) hb); have n6_ := Aside0.mk (Kd.R_elder' (by (with_reducible repeat (first | apply Kd.R_alloc | apply Kd.R_drewN | apply Kd.R_drew)); exact HO267.out) (Kd.R_base ho36) hb); have n7_ := Aside0.mk (Kd.R_elder' (by (with_reducible repeat (first | apply Kd.R_alloc | apply Kd.R_drewN | apply Kd.R_drew)); exact HO269.out) (Kd.R_base ho36) hb); have n8_ := Aside0.mk (Kd.R_elder' (by (with_reducible repeat (first | apply Kd.R_alloc | apply Kd.R_drewN | apply Kd.R_drew)); exact HO272.out) (Kd.R_base ho36) hb); have n9_ := Aside0.mk (Kd.R_lower (Kd.R_new' (Kd.R_new' (Kd.R_new' (Kd.R_new' (Kd.R_new' (Kd.R_new' (Kd.R_new' (Kd.R_new' (Kd.R_new' ho36 (Kd.R_lt (by (with_reducible repeat (first | apply Kd.R_alloc | apply Kd.R_drewN | apply Kd.R_drew)); exact HO245.out))) (Kd.R_lt (by (with_reducible repeat (first | apply Kd.R_alloc | apply Kd.R_drewN | apply Kd.R_drew)); exact HO249.out))) (Kd.R_lt (by (with_reducible repeat (first | apply Kd.R_alloc | apply Kd.R_drewN | apply Kd.R_drew)); exact HO252.out))) (Kd.R_lt (by (with_reducible repeat (first | apply Kd.R_alloc | apply Kd.R_drewN | apply Kd.R_drew)); exact HO256.out))) (Kd.R_lt (by (with_reducible repeat (first | apply Kd.R_alloc | apply Kd.R_drewN | apply Kd.R_drew)); exact HO259.out))) (Kd.R_lt (by (with_reducible repeat (first | apply Kd.R_alloc | apply Kd.R_drewN | apply Kd.R_drew)); exact HO262.out))) (Kd.R_lt (by (with_reducible repeat (first | apply Kd.R_alloc | apply Kd.R_drewN | apply Kd.R_drew)); exact HO267.out))) (Kd.R_lt (by (with_reducible repeat (first | apply Kd.R_alloc | apply Kd.R_drewN | apply Kd.R_drew)); exact HO269.out))) (Kd.R_lt (by (with_reducible repeat (first | apply Kd.R_alloc | apply Kd.R_drewN | apply Kd.R_drew)); exact HO272.out))) (below_size (by repeat (first | (with_reducible first | exact HB.out | apply below_alloc | apply pw_below_drewN | apply below_drew1) | exact HB.out)))); have n10_ := Aside0.mk (below_step (by repeat (first | (with_reducible first | exact HB.out | apply below_alloc | apply pw_below_drewN | apply below_drew1) | exact HB.out)) hb); clear HO245; clear HO249; clear HO252; clear HO256; clear HO259; clear HO262; clear HO267; clear HO269; clear HO272; clear HB; have HO245 := n0_; have HO249 := n1_; have HO252 := n2_; have HO256 := n3_; have HO259 := n4_; have HO262 := n5_; have HO267 := n6_; have HO269 := n7_; have HO272 := n8_; have HO275 := n9_; have HB := n10_; clear n0_ n1_ n2_ n3_ n4_ n5_ n6_ n7_ n8_ n9_ n10_; clear hb ho36; obtain ⟨Ao37, co37, eo37⟩ := Kd.R_slice HO272.out; subst eo37; obtain ⟨Ao38, co38, eo38⟩ := Kd.R_slice HO275.out; subst eo38) | ((with_reducible refine gate_callee (f := 25) rfl ?_); refine goesL_ (some 30) rfl rfl Try.func25 (by kernel_rfl) rfl #[.slice Ao37 y270.length co37, .slice Ao38 y273.length co38] rfl (by (try simp only [List.map_toArray, List.map_cons, List.map_nil]); first | done | rfl | (simp only [List.length_drop, List.length_take]; rfl)) ?_; (with_reducible refine (nat_Sub.calls _ _ y270 _ _ y273 t276 t277 _ ?side1 ?side2 ?side3 ?side4 A4.out).mono ?_); (case side1 => repeat (first | exact (Kd.R_reads' HO272.out).2.2 | (with_reducible refine Kd.C_alloc ?_ _) | (with_reducible refine Kd.C_drewN ?_ _) | (with_reducible refine Kd.C_drew ?_))); (case side2 => exact (Kd.R_reads' HO272.out).2.1); (case side3 => repeat (first | exact (Kd.R_reads' HO275.out).2.2 | (with_reducible refine Kd.C_alloc ?_ _) | (with_reducible refine Kd.C_drewN ?_ _) | (with_reducible refine Kd.C_drew ?_))); (case side4 => exact (Kd.R_reads' HO275.out).2.1); rintro e w39 ⟨v278, rfl, ho0, hb⟩; refine ⟨_, rfl, ?_⟩; have n0_ := Aside0.mk (Kd.R_elder' (by (with_reducible repeat (first | apply Kd.R_alloc | apply Kd.R_drewN | apply Kd.R_drew)); exact HO245.out) (Kd.R_base ho0) hb); have n1_ := Aside0.mk (Kd.R_elder' (by (with_reducible repeat (first | apply Kd.R_alloc | apply Kd.R_drewN | apply Kd.R_drew)); exact HO249.out) (Kd.R_base ho0) hb); have n2_ := Aside0.mk (Kd.R_elder' (by (with_reducible repeat (first | apply Kd.R_alloc | apply Kd.R_drewN | apply Kd.R_drew)); exact HO252.out) (Kd.R_base ho0) hb); have n3_ := Aside0.mk (Kd.R_elder' (by (with_reducible repeat (first | apply Kd.R_alloc | apply Kd.R_drewN | apply Kd.R_drew)); exact HO256.out) (Kd.R_base ho0) hb); have n4_ := Aside0.mk (Kd.R_elder' (by (with_reducible repeat (first | apply Kd.R_alloc | apply Kd.R_drewN | apply Kd.R_drew)); exact HO259.out) (Kd.R_base ho0) hb); have n5_ := Aside0.mk (Kd.R_elder' (by (with_reducible repeat (first | apply Kd.R_alloc | apply Kd.R_drewN | apply Kd.R_drew)); exact HO262.out) (Kd.R_base ho0) hb); have n6_ := Aside0.mk (Kd.R_elder' (by (with_reducible repeat (first | apply Kd.R_alloc | apply Kd.R_drewN | apply Kd.R_drew)); exact HO267.out) (Kd.R_base ho0) hb); have n7_ := Aside0.mk (Kd.R_elder' (by (with_reducible repeat (first | apply Kd.R_alloc | apply Kd.R_drewN | apply Kd.R_drew)); exact HO269.out) (Kd.R_base ho0) hb); have n8_ := Aside0.mk (Kd.R_elder' (by (with_reducible repeat (first | apply Kd.R_alloc | apply Kd.R_drewN | apply Kd.R_drew)); exact HO272.out) (Kd.R_base ho0) hb); have n9_ := Aside0.mk (Kd.R_elder' (by (with_reducible repeat (first | apply Kd.R_alloc | apply Kd.R_drewN | apply Kd.R_drew)); exact HO275.out) (Kd.R_base ho0) hb); have n10_ := Aside0.mk (Kd.R_lower (Kd.R_new' (Kd.R_new' (Kd.R_new' (Kd.R_new' (Kd.R_new' (Kd.R_new' (Kd.R_new' (Kd.R_new' (Kd.R_new' (Kd.R_new' ho0 (Kd.R_lt (by (with_reducible repeat (first | apply Kd.R_alloc | apply Kd.R_drewN | apply Kd.R_drew)); exact HO245.out))) (Kd.R_lt (by (with_reducible repeat (first | apply Kd.R_alloc | apply Kd.R_drewN | apply Kd.R_drew)); exact HO249.out))) (Kd.R_lt (by (with_reducible repeat (first | apply Kd.R_alloc | apply Kd.R_drewN | apply Kd.R_drew)); exact HO252.out))) (Kd.R_lt (by (with_reducible repeat (first | apply Kd.R_alloc | apply Kd.R_drewN | apply Kd.R_drew)); exact HO256.out))) (Kd.R_lt (by (with_reducible repeat (first | apply Kd.R_alloc | apply Kd.R_drewN | apply Kd.R_drew)); exact HO259.out))) (Kd.R_lt (by (with_reducible repeat (first | apply Kd.R_alloc | apply Kd.R_drewN | apply Kd.R_drew)); exact HO262.out))) (Kd.R_lt (by (with_reducible repeat (first | apply Kd.R_alloc | apply Kd.R_drewN | apply Kd.R_drew)); exact HO267.out))) (Kd.R_lt (by (with_reducible repeat (first | apply Kd.R_alloc | apply Kd.R_drewN | apply Kd.R_drew)); exact HO269.out))) (Kd.R_lt (by (with_reducible repeat (first | apply Kd.R_alloc | apply Kd.R_drewN | apply Kd.R_drew)); exact HO272.out))) (Kd.R_lt (by (with_reducible repeat (first | apply Kd.R_alloc | apply Kd.R_drewN | apply Kd.R_drew)); exact HO275.out))) (below_size (by repeat (first | (with_reducible first | exact HB.out | apply below_alloc | apply pw_below_drewN | apply below_drew1) | exact HB.out)))); have n11_ := Aside0.mk (below_step (by repeat (first | (with_reducible first | exact HB.out | apply below_alloc | apply pw_below_drewN | apply below_drew1) | exact HB.out)) hb); clear HO245; clear HO249; clear HO252; clear HO256; clear HO259; clear HO262; clear HO267; clear HO269; clear HO272; clear HO275; clear HB; have HO245 := n0_; have HO249 := n1_; have HO252 := n2_; have HO256 := n3_; have HO259 := n4_; have HO262 := n5_; have HO267 := n6_; have HO269 := n7_; have HO272 := n8_; have HO275 := n9_; have HO279 := n10_; have HB := n11_; clear n0_ n1_ n2_ n3_ n4_ n5_ n6_ n7_ n8_ n9_ n10_ n11_; (try clear hb); (try clear hb2); (try clear hk); (try clear hi); (try clear ho0)) | (go_at_call 51; (with_reducible refine (reckonerref02_Parse.calls k (⟨#[49, 48, 48, 48, 48, 48, 48, 48, 48, 48, 48, 48, 48, 48, 48, 48, 48, 48, 48, 48, 48]⟩ : ByteArray) t280 _ A6.out).mono ?_); rintro e w40 ⟨v281, rfl, ho0, hb⟩; have n0_ := Aside0.mk (Kd.R_elder' (by (with_reducible repeat (first | apply Kd.R_alloc | apply Kd.R_drewN | apply Kd.R_drew)); exact HO245.out) (Kd.R_base ho0) hb); have n1_ := Aside0.mk (Kd.R_elder' (by (with_reducible repeat (first | apply Kd.R_alloc | apply Kd.R_drewN | apply Kd.R_drew)); exact HO249.out) (Kd.R_base ho0) hb); have n2_ := Aside0.mk (Kd.R_elder' (by (with_reducible repeat (first | apply Kd.R_alloc | apply Kd.R_drewN | apply Kd.R_drew)); exact HO252.out) (Kd.R_base ho0) hb); have n3_ := Aside0.mk (Kd.R_elder' (by (with_reducible repeat (first | apply Kd.R_alloc | apply Kd.R_drewN | apply Kd.R_drew)); exact HO256.out) (Kd.R_base ho0) hb); have n4_ := Aside0.mk (Kd.R_elder' (by (with_reducible repeat (first | apply Kd.R_alloc | apply Kd.R_drewN | apply Kd.R_drew)); exact HO259.out) (Kd.R_base ho0) hb); have n5_ := Aside0.mk (Kd.R_elder' (by (with_reducible repeat (first | apply Kd.R_alloc | apply Kd.R_drewN | apply Kd.R_drew)); exact HO262.out) (Kd.R_base ho0) hb); have n6_ := Aside0.mk (Kd.R_elder' (by (with_reducible repeat (first | apply Kd.R_alloc | apply Kd.R_drewN | apply Kd.R_drew)); exact HO267.out) (Kd.R_base ho0) hb); have n7_ := Aside0.mk (Kd.R_elder' (by (with_reducible repeat (first | apply Kd.R_alloc | apply Kd.R_drewN | apply Kd.R_drew)); exact HO269.out) (Kd.R_base ho0) hb); have n8_ := Aside0.mk (Kd.R_elder' (by (with_reducible repeat (first | apply Kd.R_alloc | apply Kd.R_drewN | apply Kd.R_drew)); exact HO272.out) (Kd.R_base ho0) hb); have n9_ := Aside0.mk (Kd.R_elder' (by (with_reducible repeat (first | apply Kd.R_alloc | apply Kd.R_drewN | apply Kd.R_drew)); exact HO275.out) (Kd.R_base ho0) hb); have n10_ := Aside0.mk (Kd.R_elder' (by (with_reducible repeat (first | apply Kd.R_alloc | apply Kd.R_drewN | apply Kd.R_drew)); exact HO279.out) (Kd.R_base ho0) hb); have n11_ := Aside0.mk (Kd.R_lower (Kd.R_new' (Kd.R_new' (Kd.R_new' (Kd.R_new' (Kd.R_new' (Kd.R_new' (Kd.R_new' (Kd.R_new' (Kd.R_new' (Kd.R_new' (Kd.R_new' ho0 (Kd.R_lt (by (with_reducible repeat (first | apply Kd.R_alloc | apply Kd.R_drewN | apply Kd.R_drew)); exact HO245.out))) (Kd.R_lt (by (with_reducible repeat (first | apply Kd.R_alloc | apply Kd.R_drewN | apply Kd.R_drew)); exact HO249.out))) (Kd.R_lt (by (with_reducible repeat (first | apply Kd.R_alloc | apply Kd.R_drewN | apply Kd.R_drew)); exact HO252.out))) (Kd.R_lt (by (with_reducible repeat (first | apply Kd.R_alloc | apply Kd.R_drewN | apply Kd.R_drew)); exact HO256.out))) (Kd.R_lt (by (with_reducible repeat (first | apply Kd.R_alloc | apply Kd.R_drewN | apply Kd.R_drew)); exact HO259.out))) (Kd.R_lt (by (with_reducible repeat (first | apply Kd.R_alloc | apply Kd.R_drewN | apply Kd.R_drew)); exact HO262.out))) (Kd.R_lt (by (with_reducible repeat (first | apply Kd.R_alloc | apply Kd.R_drewN | apply Kd.R_drew)); exact HO267.out))) (Kd.R_lt (by (with_reducible repeat (first | apply Kd.R_alloc | apply Kd.R_drewN | apply Kd.R_drew)); exact HO269.out))) (Kd.R_lt (by (with_reducible repeat (first | apply Kd.R_alloc | apply Kd.R_drewN | apply Kd.R_drew)); exact HO272.out))) (Kd.R_lt (by (with_reducible repeat (first | apply Kd.R_alloc | apply Kd.R_drewN | apply Kd.R_drew)); exact HO275.out))) (Kd.R_lt (by (with_reducible repeat (first | apply Kd.R_alloc | apply Kd.R_drewN | apply Kd.R_drew)); exact HO279.out))) (below_size (by repeat (first | (with_reducible first | exact HB.out | apply below_alloc | apply pw_below_drewN | apply below_drew1) | exact HB.out)))); have n12_ := Aside0.mk (below_step (by repeat (first | (with_reducible first | exact HB.out | apply below_alloc | apply pw_below_drewN | apply below_drew1) | exact HB.out)) hb); clear HO245; clear HO249; clear HO252; clear HO256; clear HO259; clear HO262; clear HO267; clear HO269; clear HO272; clear HO275; clear HO279; clear HB; have HO245 := n0_; have HO249 := n1_; have HO252 := n2_; have HO256 := n3_; have HO259 := n4_; have HO262 := n5_; have HO267 := n6_; have HO269 := n7_; have HO272 := n8_; have HO275 := n9_; have HO279 := n10_; have HO282 := n11_; have HB := n12_; clear n0_ n1_ n2_ n3_ n4_ n5_ n6_ n7_ n8_ n9_ n10_ n11_ n12_; (try clear hb); (try clear hb2); (try clear hk); (try clear hi); (try clear ho0); obtain ⟨Ao41, co41, eo41⟩ := Kd.R_slice HO249.out; subst eo41; obtain ⟨Ao42, co42, eo42⟩ := Kd.R_slice HO282.out; subst eo42) | (go_at_call 13; (with_reducible refine (reckonerref02_Is.calls k _ _ t246 _ _ t280 true _ ?side1 ?side2 ?side3 ?side4 A7.out).mono ?_); (case side1 => repeat (first | exact (Kd.R_reads' HO249.out).2.2 | (with_reducible refine Kd.C_alloc ?_ _) | (with_reducible refine Kd.C_drewN ?_ _) | (with_reducible refine Kd.C_drew ?_))); (case side2 => exact (Kd.R_reads' HO249.out).2.1); (case side3 => repeat (first | exact (Kd.R_reads' HO282.out).2.2 | (with_reducible refine Kd.C_alloc ?_ _) | (with_reducible refine Kd.C_drewN ?_ _) | (with_reducible refine Kd.C_drew ?_))); (case side4 => exact (Kd.R_reads' HO282.out).2.1); rintro e w43 ⟨rfl, hb⟩; have n0_ := Aside0.mk (Kd.R_below (by (with_reducible repeat (first | apply Kd.R_alloc | apply Kd.R_drewN | apply Kd.R_drew)); exact HO245.out) hb); have n1_ := Aside0.mk (Kd.R_below (by (with_reducible repeat (first | apply Kd.R_alloc | apply Kd.R_drewN | apply Kd.R_drew)); exact HO249.out) hb); have n2_ := Aside0.mk (Kd.R_below (by (with_reducible repeat (first | apply Kd.R_alloc | apply Kd.R_drewN | apply Kd.R_drew)); exact HO252.out) hb); have n3_ := Aside0.mk (Kd.R_below (by (with_reducible repeat (first | apply Kd.R_alloc | apply Kd.R_drewN | apply Kd.R_drew)); exact HO256.out) hb); have n4_ := Aside0.mk (Kd.R_below (by (with_reducible repeat (first | apply Kd.R_alloc | apply Kd.R_drewN | apply Kd.R_drew)); exact HO259.out) hb); have n5_ := Aside0.mk (Kd.R_below (by (with_reducible repeat (first | apply Kd.R_alloc | apply Kd.R_drewN | apply Kd.R_drew)); exact HO262.out) hb); have n6_ := Aside0.mk (Kd.R_below (by (with_reducible repeat (first | apply Kd.R_alloc | apply Kd.R_drewN | apply Kd.R_drew)); exact HO267.out) hb); have n7_ := Aside0.mk (Kd.R_below (by (with_reducible repeat (first | apply Kd.R_alloc | apply Kd.R_drewN | apply Kd.R_drew)); exact HO269.out) hb); have n8_ := Aside0.mk (Kd.R_below (by (with_reducible repeat (first | apply Kd.R_alloc | apply Kd.R_drewN | apply Kd.R_drew)); exact HO272.out) hb); have n9_ := Aside0.mk (Kd.R_below (by (with_reducible repeat (first | apply Kd.R_alloc | apply Kd.R_drewN | apply Kd.R_drew)); exact HO275.out) hb); have n10_ := Aside0.mk (Kd.R_below (by (with_reducible repeat (first | apply Kd.R_alloc | apply Kd.R_drewN | apply Kd.R_drew)); exact HO279.out) hb); have n11_ := Aside0.mk (Kd.R_below (by (with_reducible repeat (first | apply Kd.R_alloc | apply Kd.R_drewN | apply Kd.R_drew)); exact HO282.out) hb); have n12_ := Aside0.mk (below_step (by repeat (first | (with_reducible first | exact HB.out | apply below_alloc | apply pw_below_drewN | apply below_drew1) | exact HB.out)) hb); clear HO245; clear HO249; clear HO252; clear HO256; clear HO259; clear HO262; clear HO267; clear HO269; clear HO272; clear HO275; clear HO279; clear HO282; clear HB; have HO245 := n0_; have HO249 := n1_; have HO252 := n2_; have HO256 := n3_; have HO259 := n4_; have HO262 := n5_; have HO267 := n6_; have HO269 := n7_; have HO272 := n8_; have HO275 := n9_; have HO279 := n10_; have HO282 := n11_; have HB := n12_; clear n0_ n1_ n2_ n3_ n4_ n5_ n6_ n7_ n8_ n9_ n10_ n11_ n12_; (try clear hb); (try clear hb2); (try clear hk); (try clear hi)) | ((with_reducible refine gate_dst (N := 46) rfl ?_); (try (refine gate_guard (by rfl) ?_; dsimp only)); refine Kd.R_lit (Kd.int .u64) _ 33 ?hg (N := 46) ?hd (xs := ([1, 18446744073709551614] : List Int)) (inner := [.int .u64 1, .int .u64 18446744073709551614]) (ok := fun _ => True) (okp := fun _ => True) ?hr ?hp (fun _ hk => hk) trivial (Below.refl _ _) (Nat.le_refl _) (by simp) ?_; (case hd => rfl); (case hg => rfl); (case hr => first | (go_simp; done) | (go_simp; rfl)); (case hp => exact (Reps.one (show Kd.M (Kd.int .u64) _ _ _ 1 [.int .u64 1] from rfl) (Reps.one (show Kd.M (Kd.int .u64) _ _ _ 18446744073709551614 [.int .u64 18446744073709551614] from rfl) (Reps.none _ _)))); intro v285 w44 ho45 hb hg_ hnew_; clear hg_ hnew_; (first | rw [← Ny284.out] at ho45 | (simp only [Int.reduceToNat] at ho45; rw [← Ny284.out] at ho45)); have n0_ := Aside0.mk (Kd.R_elder' (by (with_reducible repeat (first | apply Kd.R_alloc | apply Kd.R_drewN | apply Kd.R_drew)); exact HO245.out) (Kd.R_base ho45) hb); have n1_ := Aside0.mk (Kd.R_elder' (by (with_reducible repeat (first | apply Kd.R_alloc | apply Kd.R_drewN | apply Kd.R_drew)); exact HO249.out) (Kd.R_base ho45) hb); have n2_ := Aside0.mk (Kd.R_elder' (by (with_reducible repeat (first | apply Kd.R_alloc | apply Kd.R_drewN | apply Kd.R_drew)); exact HO252.out) (Kd.R_base ho45) hb); have n3_ := Aside0.mk (Kd.R_elder' (by (with_reducible repeat (first | apply Kd.R_alloc | apply Kd.R_drewN | apply Kd.R_drew)); exact HO256.out) (Kd.R_base ho45) hb); have n4_ := Aside0.mk (Kd.R_elder' (by (with_reducible repeat (first | apply Kd.R_alloc | apply Kd.R_drewN | apply Kd.R_drew)); exact HO259.out) (Kd.R_base ho45) hb); have n5_ := Aside0.mk (Kd.R_elder' (by (with_reducible repeat (first | apply Kd.R_alloc | apply Kd.R_drewN | apply Kd.R_drew)); exact HO262.out) (Kd.R_base ho45) hb); have n6_ := Aside0.mk (Kd.R_elder' (by (with_reducible repeat (first | apply Kd.R_alloc | apply Kd.R_drewN | apply Kd.R_drew)); exact HO267.out) (Kd.R_base ho45) hb); have n7_ := Aside0.mk (Kd.R_elder' (by (with_reducible repeat (first | apply Kd.R_alloc | apply Kd.R_drewN | apply Kd.R_drew)); exact HO269.out) (Kd.R_base ho45) hb); have n8_ := Aside0.mk (Kd.R_elder' (by (with_reducible repeat (first | apply Kd.R_alloc | apply Kd.R_drewN | apply Kd.R_drew)); exact HO272.out) (Kd.R_base ho45) hb); have n9_ := Aside0.mk (Kd.R_elder' (by (with_reducible repeat (first | apply Kd.R_alloc | apply Kd.R_drewN | apply Kd.R_drew)); exact HO275.out) (Kd.R_base ho45) hb); have n10_ := Aside0.mk (Kd.R_elder' (by (with_reducible repeat (first | apply Kd.R_alloc | apply Kd.R_drewN | apply Kd.R_drew)); exact HO279.out) (Kd.R_base ho45) hb); have n11_ := Aside0.mk (Kd.R_elder' (by (with_reducible repeat (first | apply Kd.R_alloc | apply Kd.R_drewN | apply Kd.R_drew)); exact HO282.out) (Kd.R_base ho45) hb); have n12_ := Aside0.mk (Kd.R_lower (Kd.R_new' (Kd.R_new' (Kd.R_new' (Kd.R_new' (Kd.R_new' (Kd.R_new' (Kd.R_new' (Kd.R_new' (Kd.R_new' (Kd.R_new' (Kd.R_new' (Kd.R_new' ho45 (Kd.R_lt (by (with_reducible repeat (first | apply Kd.R_alloc | apply Kd.R_drewN | apply Kd.R_drew)); exact HO245.out))) (Kd.R_lt (by (with_reducible repeat (first | apply Kd.R_alloc | apply Kd.R_drewN | apply Kd.R_drew)); exact HO249.out))) (Kd.R_lt (by (with_reducible repeat (first | apply Kd.R_alloc | apply Kd.R_drewN | apply Kd.R_drew)); exact HO252.out))) (Kd.R_lt (by (with_reducible repeat (first | apply Kd.R_alloc | apply Kd.R_drewN | apply Kd.R_drew)); exact HO256.out))) (Kd.R_lt (by (with_reducible repeat (first | apply Kd.R_alloc | apply Kd.R_drewN | apply Kd.R_drew)); exact HO259.out))) (Kd.R_lt (by (with_reducible repeat (first | apply Kd.R_alloc | apply Kd.R_drewN | apply Kd.R_drew)); exact HO262.out))) (Kd.R_lt (by (with_reducible repeat (first | apply Kd.R_alloc | apply Kd.R_drewN | apply Kd.R_drew)); exact HO267.out))) (Kd.R_lt (by (with_reducible repeat (first | apply Kd.R_alloc | apply Kd.R_drewN | apply Kd.R_drew)); exact HO269.out))) (Kd.R_lt (by (with_reducible repeat (first | apply Kd.R_alloc | apply Kd.R_drewN | apply Kd.R_drew)); exact HO272.out))) (Kd.R_lt (by (with_reducible repeat (first | apply Kd.R_alloc | apply Kd.R_drewN | apply Kd.R_drew)); exact HO275.out))) (Kd.R_lt (by (with_reducible repeat (first | apply Kd.R_alloc | apply Kd.R_drewN | apply Kd.R_drew)); exact HO279.out))) (Kd.R_lt (by (with_reducible repeat (first | apply Kd.R_alloc | apply Kd.R_drewN | apply Kd.R_drew)); exact HO282.out))) (below_size (by repeat (first | (with_reducible first | exact HB.out | apply below_alloc | apply pw_below_drewN | apply below_drew1) | exact HB.out)))); have n13_ := Aside0.mk (below_step (by repeat (first | (with_reducible first | exact HB.out | apply below_alloc | apply pw_below_drewN | apply below_drew1) | exact HB.out)) hb); clear HO245; clear HO249; clear HO252; clear HO256; clear HO259; clear HO262; clear HO267; clear HO269; clear HO272; clear HO275; clear HO279; clear HO282; clear HB; have HO245 := n0_; have HO249 := n1_; have HO252 := n2_; have HO256 := n3_; have HO259 := n4_; have HO262 := n5_; have HO267 := n6_; have HO269 := n7_; have HO272 := n8_; have HO275 := n9_; have HO279 := n10_; have HO282 := n11_; have HO286 := n12_; have HB := n13_; clear n0_ n1_ n2_ n3_ n4_ n5_ n6_ n7_ n8_ n9_ n10_ n11_ n12_ n13_; clear hb ho45; obtain ⟨Ao46, co46, eo46⟩ := Kd.R_slice HO256.out; subst eo46; obtain ⟨Ao47, co47, eo47⟩ := Kd.R_slice HO286.out; subst eo47) | (go_at_call 13; (with_reducible refine (reckonerref02_Is.calls k _ _ t253 _ _ y284 true _ ?side1 ?side2 ?side3 ?side4 A10.out).mono ?_); (case side1 => repeat (first | exact (Kd.R_reads' HO256.out).2.2 | (with_reducible refine Kd.C_alloc ?_ _) | (with_reducible refine Kd.C_drewN ?_ _) | (with_reducible refine Kd.C_drew ?_))); (case side2 => exact (Kd.R_reads' HO256.out).2.1); (case side3 => repeat (first | exact (Kd.R_reads' HO286.out).2.2 | (with_reducible refine Kd.C_alloc ?_ _) | (with_reducible refine Kd.C_drewN ?_ _) | (with_reducible refine Kd.C_drew ?_))); (case side4 => exact (Kd.R_reads' HO286.out).2.1); rintro e w48 ⟨rfl, hb⟩; have n0_ := Aside0.mk (Kd.R_below (by (with_reducible repeat (first | apply Kd.R_alloc | apply Kd.R_drewN | apply Kd.R_drew)); exact HO245.out) hb); have n1_ := Aside0.mk (Kd.R_below (by (with_reducible repeat (first | apply Kd.R_alloc | apply Kd.R_drewN | apply Kd.R_drew)); exact HO249.out) hb); have n2_ := Aside0.mk (Kd.R_below (by (with_reducible repeat (first | apply Kd.R_alloc | apply Kd.R_drewN | apply Kd.R_drew)); exact HO252.out) hb); have n3_ := Aside0.mk (Kd.R_below (by (with_reducible repeat (first | apply Kd.R_alloc | apply Kd.R_drewN | apply Kd.R_drew)); exact HO256.out) hb); have n4_ := Aside0.mk (Kd.R_below (by (with_reducible repeat (first | apply Kd.R_alloc | apply Kd.R_drewN | apply Kd.R_drew)); exact HO259.out) hb); have n5_ := Aside0.mk (Kd.R_below (by (with_reducible repeat (first | apply Kd.R_alloc | apply Kd.R_drewN | apply Kd.R_drew)); exact HO262.out) hb); have n6_ := Aside0.mk (Kd.R_below (by (with_reducible repeat (first | apply Kd.R_alloc | apply Kd.R_drewN | apply Kd.R_drew)); exact HO267.out) hb); have n7_ := Aside0.mk (Kd.R_below (by (with_reducible repeat (first | apply Kd.R_alloc | apply Kd.R_drewN | apply Kd.R_drew)); exact HO269.out) hb); have n8_ := Aside0.mk (Kd.R_below (by (with_reducible repeat (first | apply Kd.R_alloc | apply Kd.R_drewN | apply Kd.R_drew)); exact HO272.out) hb); have n9_ := Aside0.mk (Kd.R_below (by (with_reducible repeat (first | apply Kd.R_alloc | apply Kd.R_drewN | apply Kd.R_drew)); exact HO275.out) hb); have n10_ := Aside0.mk (Kd.R_below (by (with_reducible repeat (first | apply Kd.R_alloc | apply Kd.R_drewN | apply Kd.R_drew)); exact HO279.out) hb); have n11_ := Aside0.mk (Kd.R_below (by (with_reducible repeat (first | apply Kd.R_alloc | apply Kd.R_drewN | apply Kd.R_drew)); exact HO282.out) hb); have n12_ := Aside0.mk (Kd.R_below (by (with_reducible repeat (first | apply Kd.R_alloc | apply Kd.R_drewN | apply Kd.R_drew)); exact HO286.out) hb); have n13_ := Aside0.mk (below_step (by repeat (first | (with_reducible first | exact HB.out | apply below_alloc | apply pw_below_drewN | apply below_drew1) | exact HB.out)) hb); clear HO245; clear HO249; clear HO252; clear HO256; clear HO259; clear HO262; clear HO267; clear HO269; clear HO272; clear HO275; clear HO279; clear HO282; clear HO286; clear HB; have HO245 := n0_; have HO249 := n1_; have HO252 := n2_; have HO256 := n3_; have HO259 := n4_; have HO262 := n5_; have HO267 := n6_; have HO269 := n7_; have HO272 := n8_; have HO275 := n9_; have HO279 := n10_; have HO282 := n11_; have HO286 := n12_; have HB := n13_; clear n0_ n1_ n2_ n3_ n4_ n5_ n6_ n7_ n8_ n9_ n10_ n11_ n12_ n13_; (try clear hb); (try clear hb2); (try clear hk); (try clear hi)) | (go_at_call 51; (with_reducible refine (reckonerref02_Parse.calls k (⟨#[51, 51, 51, 51, 51, 51, 51, 51, 51, 51, 51, 51, 51, 51, 51, 51, 51, 51, 51, 51]⟩ : ByteArray) t288 _ A13.out).mono ?_); rintro e w49 ⟨v289, rfl, ho0, hb⟩; have n0_ := Aside0.mk (Kd.R_elder' (by (with_reducible repeat (first | apply Kd.R_alloc | apply Kd.R_drewN | apply Kd.R_drew)); exact HO245.out) (Kd.R_base ho0) hb); have n1_ := Aside0.mk (Kd.R_elder' (by (with_reducible repeat (first | apply Kd.R_alloc | apply Kd.R_drewN | apply Kd.R_drew)); exact HO249.out) (Kd.R_base ho0) hb); have n2_ := Aside0.mk (Kd.R_elder' (by (with_reducible repeat (first | apply Kd.R_alloc | apply Kd.R_drewN | apply Kd.R_drew)); exact HO252.out) (Kd.R_base ho0) hb); have n3_ := Aside0.mk (Kd.R_elder' (by (with_reducible repeat (first | apply Kd.R_alloc | apply Kd.R_drewN | apply Kd.R_drew)); exact HO256.out) (Kd.R_base ho0) hb); have n4_ := Aside0.mk (Kd.R_elder' (by (with_reducible repeat (first | apply Kd.R_alloc | apply Kd.R_drewN | apply Kd.R_drew)); exact HO259.out) (Kd.R_base ho0) hb); have n5_ := Aside0.mk (Kd.R_elder' (by (with_reducible repeat (first | apply Kd.R_alloc | apply Kd.R_drewN | apply Kd.R_drew)); exact HO262.out) (Kd.R_base ho0) hb); have n6_ := Aside0.mk (Kd.R_elder' (by (with_reducible repeat (first | apply Kd.R_alloc | apply Kd.R_drewN | apply Kd.R_drew)); exact HO267.out) (Kd.R_base ho0) hb); have n7_ := Aside0.mk (Kd.R_elder' (by (with_reducible repeat (first | apply Kd.R_alloc | apply Kd.R_drewN | apply Kd.R_drew)); exact HO269.out) (Kd.R_base ho0) hb); have n8_ := Aside0.mk (Kd.R_elder' (by (with_reducible repeat (first | apply Kd.R_alloc | apply Kd.R_drewN | apply Kd.R_drew)); exact HO272.out) (Kd.R_base ho0) hb); have n9_ := Aside0.mk (Kd.R_elder' (by (with_reducible repeat (first | apply Kd.R_alloc | apply Kd.R_drewN | apply Kd.R_drew)); exact HO275.out) (Kd.R_base ho0) hb); have n10_ := Aside0.mk (Kd.R_elder' (by (with_reducible repeat (first | apply Kd.R_alloc | apply Kd.R_drewN | apply Kd.R_drew)); exact HO279.out) (Kd.R_base ho0) hb); have n11_ := Aside0.mk (Kd.R_elder' (by (with_reducible repeat (first | apply Kd.R_alloc | apply Kd.R_drewN | apply Kd.R_drew)); exact HO282.out) (Kd.R_base ho0) hb); have n12_ := Aside0.mk (Kd.R_elder' (by (with_reducible repeat (first | apply Kd.R_alloc | apply Kd.R_drewN | apply Kd.R_drew)); exact HO286.out) (Kd.R_base ho0) hb); have n13_ := Aside0.mk (Kd.R_lower (Kd.R_new' (Kd.R_new' (Kd.R_new' (Kd.R_new' (Kd.R_new' (Kd.R_new' (Kd.R_new' (Kd.R_new' (Kd.R_new' (Kd.R_new' (Kd.R_new' (Kd.R_new' (Kd.R_new' ho0 (Kd.R_lt (by (with_reducible repeat (first | apply Kd.R_alloc | apply Kd.R_drewN | apply Kd.R_drew)); exact HO245.out))) (Kd.R_lt (by (with_reducible repeat (first | apply Kd.R_alloc | apply Kd.R_drewN | apply Kd.R_drew)); exact HO249.out))) (Kd.R_lt (by (with_reducible repeat (first | apply Kd.R_alloc | apply Kd.R_drewN | apply Kd.R_drew)); exact HO252.out))) (Kd.R_lt (by (with_reducible repeat (first | apply Kd.R_alloc | apply Kd.R_drewN | apply Kd.R_drew)); exact HO256.out))) (Kd.R_lt (by (with_reducible repeat (first | apply Kd.R_alloc | apply Kd.R_drewN | apply Kd.R_drew)); exact HO259.out))) (Kd.R_lt (by (with_reducible repeat (first | apply Kd.R_alloc | apply Kd.R_drewN | apply Kd.R_drew)); exact HO262.out))) (Kd.R_lt (by (with_reducible repeat (first | apply Kd.R_alloc | apply Kd.R_drewN | apply Kd.R_drew)); exact HO267.out))) (Kd.R_lt (by (with_reducible repeat (first | apply Kd.R_alloc | apply Kd.R_drewN | apply Kd.R_drew)); exact HO269.out))) (Kd.R_lt (by (with_reducible repeat (first | apply Kd.R_alloc | apply Kd.R_drewN | apply Kd.R_drew)); exact HO272.out))) (Kd.R_lt (by (with_reducible repeat (first | apply Kd.R_alloc | apply Kd.R_drewN | apply Kd.R_drew)); exact HO275.out))) (Kd.R_lt (by (with_reducible repeat (first | apply Kd.R_alloc | apply Kd.R_drewN | apply Kd.R_drew)); exact HO279.out))) (Kd.R_lt (by (with_reducible repeat (first | apply Kd.R_alloc | apply Kd.R_drewN | apply Kd.R_drew)); exact HO282.out))) (Kd.R_lt (by (with_reducible repeat (first | apply Kd.R_alloc | apply Kd.R_drewN | apply Kd.R_drew)); exact HO286.out))) (below_size (by repeat (first | (with_reducible first | exact HB.out | apply below_alloc | apply pw_below_drewN | apply below_drew1) | exact HB.out)))); have n14_ := Aside0.mk (below_step (by repeat (first | (with_reducible first | exact HB.out | apply below_alloc | apply pw_below_drewN | apply below_drew1) | exact HB.out)) hb); clear HO245; clear HO249; clear HO252; clear HO256; clear HO259; clear HO262; clear HO267; clear HO269; clear HO272; clear HO275; clear HO279; clear HO282; clear HO286; clear HB; have HO245 := n0_; have HO249 := n1_; have HO252 := n2_; have HO256 := n3_; have HO259 := n4_; have HO262 := n5_; have HO267 := n6_; have HO269 := n7_; have HO272 := n8_; have HO275 := n9_; have HO279 := n10_; have HO282 := n11_; have HO286 := n12_; have HO290 := n13_; have HB := n14_; clear n0_ n1_ n2_ n3_ n4_ n5_ n6_ n7_ n8_ n9_ n10_ n11_ n12_ n13_ n14_; (try clear hb); (try clear hb2); (try clear hk); (try clear hi); (try clear ho0); obtain ⟨Ao50, co50, eo50⟩ := Kd.R_slice HO267.out; subst eo50; obtain ⟨Ao51, co51, eo51⟩ := Kd.R_slice HO290.out; subst eo51) | (go_at_call 13; (with_reducible refine (reckonerref02_Is.calls k _ _ t263 _ _ t288 true _ ?side1 ?side2 ?side3 ?side4 A14.out).mono ?_); (case side1 => repeat (first | exact (Kd.R_reads' HO267.out).2.2 | (with_reducible refine Kd.C_alloc ?_ _) | (with_reducible refine Kd.C_drewN ?_ _) | (with_reducible refine Kd.C_drew ?_))); (case side2 => exact (Kd.R_reads' HO267.out).2.1); (case side3 => repeat (first | exact (Kd.R_reads' HO290.out).2.2 | (with_reducible refine Kd.C_alloc ?_ _) | (with_reducible refine Kd.C_drewN ?_ _) | (with_reducible refine Kd.C_drew ?_))); (case side4 => exact (Kd.R_reads' HO290.out).2.1); rintro e w52 ⟨rfl, hb⟩; have n0_ := Aside0.mk (Kd.R_below (by (with_reducible repeat (first | apply Kd.R_alloc | apply Kd.R_drewN | apply Kd.R_drew)); exact HO245.out) hb); have n1_ := Aside0.mk (Kd.R_below (by (with_reducible repeat (first | apply Kd.R_alloc | apply Kd.R_drewN | apply Kd.R_drew)); exact HO249.out) hb); have n2_ := Aside0.mk (Kd.R_below (by (with_reducible repeat (first | apply Kd.R_alloc | apply Kd.R_drewN | apply Kd.R_drew)); exact HO252.out) hb); have n3_ := Aside0.mk (Kd.R_below (by (with_reducible repeat (first | apply Kd.R_alloc | apply Kd.R_drewN | apply Kd.R_drew)); exact HO256.out) hb); have n4_ := Aside0.mk (Kd.R_below (by (with_reducible repeat (first | apply Kd.R_alloc | apply Kd.R_drewN | apply Kd.R_drew)); exact HO259.out) hb); have n5_ := Aside0.mk (Kd.R_below (by (with_reducible repeat (first | apply Kd.R_alloc | apply Kd.R_drewN | apply Kd.R_drew)); exact HO262.out) hb); have n6_ := Aside0.mk (Kd.R_below (by (with_reducible repeat (first | apply Kd.R_alloc | apply Kd.R_drewN | apply Kd.R_drew)); exact HO267.out) hb); have n7_ := Aside0.mk (Kd.R_below (by (with_reducible repeat (first | apply Kd.R_alloc | apply Kd.R_drewN | apply Kd.R_drew)); exact HO269.out) hb); have n8_ := Aside0.mk (Kd.R_below (by (with_reducible repeat (first | apply Kd.R_alloc | apply Kd.R_drewN | apply Kd.R_drew)); exact HO272.out) hb); have n9_ := Aside0.mk (Kd.R_below (by (with_reducible repeat (first | apply Kd.R_alloc | apply Kd.R_drewN | apply Kd.R_drew)); exact HO275.out) hb); have n10_ := Aside0.mk (Kd.R_below (by (with_reducible repeat (first | apply Kd.R_alloc | apply Kd.R_drewN | apply Kd.R_drew)); exact HO279.out) hb); have n11_ := Aside0.mk (Kd.R_below (by (with_reducible repeat (first | apply Kd.R_alloc | apply Kd.R_drewN | apply Kd.R_drew)); exact HO282.out) hb); have n12_ := Aside0.mk (Kd.R_below (by (with_reducible repeat (first | apply Kd.R_alloc | apply Kd.R_drewN | apply Kd.R_drew)); exact HO286.out) hb); have n13_ := Aside0.mk (Kd.R_below (by (with_reducible repeat (first | apply Kd.R_alloc | apply Kd.R_drewN | apply Kd.R_drew)); exact HO290.out) hb); have n14_ := Aside0.mk (below_step (by repeat (first | (with_reducible first | exact HB.out | apply below_alloc | apply pw_below_drewN | apply below_drew1) | exact HB.out)) hb); clear HO245; clear HO249; clear HO252; clear HO256; clear HO259; clear HO262; clear HO267; clear HO269; clear HO272; clear HO275; clear HO279; clear HO282; clear HO286; clear HO290; clear HB; have HO245 := n0_; have HO249 := n1_; have HO252 := n2_; have HO256 := n3_; have HO259 := n4_; have HO262 := n5_; have HO267 := n6_; have HO269 := n7_; have HO272 := n8_; have HO275 := n9_; have HO279 := n10_; have HO282 := n11_; have HO286 := n12_; have HO290 := n13_; have HB := n14_; clear n0_ n1_ n2_ n3_ n4_ n5_ n6_ n7_ n8_ n9_ n10_ n11_ n12_ n13_ n14_; (try clear hb); (try clear hb2); (try clear hk); (try clear hi)) | ((with_reducible refine gate_dst (N := 60) rfl ?_); (try (refine gate_guard (by rfl) ?_; dsimp only)); refine Kd.R_lit (Kd.int .u64) _ 33 ?hg (N := 60) ?hd (xs := ([1] : List Int)) (inner := [.int .u64 1]) (ok := fun _ => True) (okp := fun _ => True) ?hr ?hp (fun _ hk => hk) trivial (Below.refl _ _) (Nat.le_refl _) (by simp) ?_; (case hd => rfl); (case hg => rfl); (case hr => first | (go_simp; done) | (go_simp; rfl)); (case hp => exact (Reps.one (show Kd.M (Kd.int .u64) _ _ _ 1 [.int .u64 1] from rfl) (Reps.none _ _))); intro v293 w53 ho54 hb hg_ hnew_; clear hg_ hnew_; (first | rw [← Ny292.out] at ho54 | (simp only [Int.reduceToNat] at ho54; rw [← Ny292.out] at ho54)); have n0_ := Aside0.mk (Kd.R_elder' (by (with_reducible repeat (first | apply Kd.R_alloc | apply Kd.R_drewN | apply Kd.R_drew)); exact HO245.out) (Kd.R_base ho54) hb); have n1_ := Aside0.mk (Kd.R_elder' (by (with_reducible repeat (first | apply Kd.R_alloc | apply Kd.R_drewN | apply Kd.R_drew)); exact HO249.out) (Kd.R_base ho54) hb); have n2_ := Aside0.mk (Kd.R_elder' (by (with_reducible repeat (first | apply Kd.R_alloc | apply Kd.R_drewN | apply Kd.R_drew)); exact HO252.out) (Kd.R_base ho54) hb); have n3_ := Aside0.mk (Kd.R_elder' (by (with_reducible repeat (first | apply Kd.R_alloc | apply Kd.R_drewN | apply Kd.R_drew)); exact HO256.out) (Kd.R_base ho54) hb); have n4_ := Aside0.mk (Kd.R_elder' (by (with_reducible repeat (first | apply Kd.R_alloc | apply Kd.R_drewN | apply Kd.R_drew)); exact HO259.out) (Kd.R_base ho54) hb); have n5_ := Aside0.mk (Kd.R_elder' (by (with_reducible repeat (first | apply Kd.R_alloc | apply Kd.R_drewN | apply Kd.R_drew)); exact HO262.out) (Kd.R_base ho54) hb); have n6_ := Aside0.mk (Kd.R_elder' (by (with_reducible repeat (first | apply Kd.R_alloc | apply Kd.R_drewN | apply Kd.R_drew)); exact HO267.out) (Kd.R_base ho54) hb); have n7_ := Aside0.mk (Kd.R_elder' (by (with_reducible repeat (first | apply Kd.R_alloc | apply Kd.R_drewN | apply Kd.R_drew)); exact HO269.out) (Kd.R_base ho54) hb); have n8_ := Aside0.mk (Kd.R_elder' (by (with_reducible repeat (first | apply Kd.R_alloc | apply Kd.R_drewN | apply Kd.R_drew)); exact HO272.out) (Kd.R_base ho54) hb); have n9_ := Aside0.mk (Kd.R_elder' (by (with_reducible repeat (first | apply Kd.R_alloc | apply Kd.R_drewN | apply Kd.R_drew)); exact HO275.out) (Kd.R_base ho54) hb); have n10_ := Aside0.mk (Kd.R_elder' (by (with_reducible repeat (first | apply Kd.R_alloc | apply Kd.R_drewN | apply Kd.R_drew)); exact HO279.out) (Kd.R_base ho54) hb); have n11_ := Aside0.mk (Kd.R_elder' (by (with_reducible repeat (first | apply Kd.R_alloc | apply Kd.R_drewN | apply Kd.R_drew)); exact HO282.out) (Kd.R_base ho54) hb); have n12_ := Aside0.mk (Kd.R_elder' (by (with_reducible repeat (first | apply Kd.R_alloc | apply Kd.R_drewN | apply Kd.R_drew)); exact HO286.out) (Kd.R_base ho54) hb); have n13_ := Aside0.mk (Kd.R_elder' (by (with_reducible repeat (first | apply Kd.R_alloc | apply Kd.R_drewN | apply Kd.R_drew)); exact HO290.out) (Kd.R_base ho54) hb); have n14_ := Aside0.mk (Kd.R_lower (Kd.R_new' (Kd.R_new' (Kd.R_new' (Kd.R_new' (Kd.R_new' (Kd.R_new' (Kd.R_new' (Kd.R_new' (Kd.R_new' (Kd.R_new' (Kd.R_new' (Kd.R_new' (Kd.R_new' (Kd.R_new' ho54 (Kd.R_lt (by (with_reducible repeat (first | apply Kd.R_alloc | apply Kd.R_drewN | apply Kd.R_drew)); exact HO245.out))) (Kd.R_lt (by (with_reducible repeat (first | apply Kd.R_alloc | apply Kd.R_drewN | apply Kd.R_drew)); exact HO249.out))) (Kd.R_lt (by (with_reducible repeat (first | apply Kd.R_alloc | apply Kd.R_drewN | apply Kd.R_drew)); exact HO252.out))) (Kd.R_lt (by (with_reducible repeat (first | apply Kd.R_alloc | apply Kd.R_drewN | apply Kd.R_drew)); exact HO256.out))) (Kd.R_lt (by (with_reducible repeat (first | apply Kd.R_alloc | apply Kd.R_drewN | apply Kd.R_drew)); exact HO259.out))) (Kd.R_lt (by (with_reducible repeat (first | apply Kd.R_alloc | apply Kd.R_drewN | apply Kd.R_drew)); exact HO262.out))) (Kd.R_lt (by (with_reducible repeat (first | apply Kd.R_alloc | apply Kd.R_drewN | apply Kd.R_drew)); exact HO267.out))) (Kd.R_lt (by (with_reducible repeat (first | apply Kd.R_alloc | apply Kd.R_drewN | apply Kd.R_drew)); exact HO269.out))) (Kd.R_lt (by (with_reducible repeat (first | apply Kd.R_alloc | apply Kd.R_drewN | apply Kd.R_drew)); exact HO272.out))) (Kd.R_lt (by (with_reducible repeat (first | apply Kd.R_alloc | apply Kd.R_drewN | apply Kd.R_drew)); exact HO275.out))) (Kd.R_lt (by (with_reducible repeat (first | apply Kd.R_alloc | apply Kd.R_drewN | apply Kd.R_drew)); exact HO279.out))) (Kd.R_lt (by (with_reducible repeat (first | apply Kd.R_alloc | apply Kd.R_drewN | apply Kd.R_drew)); exact HO282.out))) (Kd.R_lt (by (with_reducible repeat (first | apply Kd.R_alloc | apply Kd.R_drewN | apply Kd.R_drew)); exact HO286.out))) (Kd.R_lt (by (with_reducible repeat (first | apply Kd.R_alloc | apply Kd.R_drewN | apply Kd.R_drew)); exact HO290.out))) (below_size (by repeat (first | (with_reducible first | exact HB.out | apply below_alloc | apply pw_below_drewN | apply below_drew1) | exact HB.out)))); have n15_ := Aside0.mk (below_step (by repeat (first | (with_reducible first | exact HB.out | apply below_alloc | apply pw_below_drewN | apply below_drew1) | exact HB.out)) hb); clear HO245; clear HO249; clear HO252; clear HO256; clear HO259; clear HO262; clear HO267; clear HO269; clear HO272; clear HO275; clear HO279; clear HO282; clear HO286; clear HO290; clear HB; have HO245 := n0_; have HO249 := n1_; have HO252 := n2_; have HO256 := n3_; have HO259 := n4_; have HO262 := n5_; have HO267 := n6_; have HO269 := n7_; have HO272 := n8_; have HO275 := n9_; have HO279 := n10_; have HO282 := n11_; have HO286 := n12_; have HO290 := n13_; have HO294 := n14_; have HB := n15_; clear n0_ n1_ n2_ n3_ n4_ n5_ n6_ n7_ n8_ n9_ n10_ n11_ n12_ n13_ n14_ n15_; clear hb ho54; obtain ⟨Ao55, co55, eo55⟩ := Kd.R_slice HO269.out; subst eo55; obtain ⟨Ao56, co56, eo56⟩ := Kd.R_slice HO294.out; subst eo56) | (go_at_call 13; (with_reducible refine (reckonerref02_Is.calls k _ _ t264 _ _ y292 true _ ?side1 ?side2 ?side3 ?side4 A16.out).mono ?_); (case side1 => repeat (first | exact (Kd.R_reads' HO269.out).2.2 | (with_reducible refine Kd.C_alloc ?_ _) | (with_reducible refine Kd.C_drewN ?_ _) | (with_reducible refine Kd.C_drew ?_))); (case side2 => exact (Kd.R_reads' HO269.out).2.1); (case side3 => repeat (first | exact (Kd.R_reads' HO294.out).2.2 | (with_reducible refine Kd.C_alloc ?_ _) | (with_reducible refine Kd.C_drewN ?_ _) | (with_reducible refine Kd.C_drew ?_))); (case side4 => exact (Kd.R_reads' HO294.out).2.1); rintro e w57 ⟨rfl, hb⟩; have n0_ := Aside0.mk (Kd.R_below (by (with_reducible repeat (first | apply Kd.R_alloc | apply Kd.R_drewN | apply Kd.R_drew)); exact HO245.out) hb); have n1_ := Aside0.mk (Kd.R_below (by (with_reducible repeat (first | apply Kd.R_alloc | apply Kd.R_drewN | apply Kd.R_drew)); exact HO249.out) hb); have n2_ := Aside0.mk (Kd.R_below (by (with_reducible repeat (first | apply Kd.R_alloc | apply Kd.R_drewN | apply Kd.R_drew)); exact HO252.out) hb); have n3_ := Aside0.mk (Kd.R_below (by (with_reducible repeat (first | apply Kd.R_alloc | apply Kd.R_drewN | apply Kd.R_drew)); exact HO256.out) hb); have n4_ := Aside0.mk (Kd.R_below (by (with_reducible repeat (first | apply Kd.R_alloc | apply Kd.R_drewN | apply Kd.R_drew)); exact HO259.out) hb); have n5_ := Aside0.mk (Kd.R_below (by (with_reducible repeat (first | apply Kd.R_alloc | apply Kd.R_drewN | apply Kd.R_drew)); exact HO262.out) hb); have n6_ := Aside0.mk (Kd.R_below (by (with_reducible repeat (first | apply Kd.R_alloc | apply Kd.R_drewN | apply Kd.R_drew)); exact HO267.out) hb); have n7_ := Aside0.mk (Kd.R_below (by (with_reducible repeat (first | apply Kd.R_alloc | apply Kd.R_drewN | apply Kd.R_drew)); exact HO269.out) hb); have n8_ := Aside0.mk (Kd.R_below (by (with_reducible repeat (first | apply Kd.R_alloc | apply Kd.R_drewN | apply Kd.R_drew)); exact HO272.out) hb); have n9_ := Aside0.mk (Kd.R_below (by (with_reducible repeat (first | apply Kd.R_alloc | apply Kd.R_drewN | apply Kd.R_drew)); exact HO275.out) hb); have n10_ := Aside0.mk (Kd.R_below (by (with_reducible repeat (first | apply Kd.R_alloc | apply Kd.R_drewN | apply Kd.R_drew)); exact HO279.out) hb); have n11_ := Aside0.mk (Kd.R_below (by (with_reducible repeat (first | apply Kd.R_alloc | apply Kd.R_drewN | apply Kd.R_drew)); exact HO282.out) hb); have n12_ := Aside0.mk (Kd.R_below (by (with_reducible repeat (first | apply Kd.R_alloc | apply Kd.R_drewN | apply Kd.R_drew)); exact HO286.out) hb); have n13_ := Aside0.mk (Kd.R_below (by (with_reducible repeat (first | apply Kd.R_alloc | apply Kd.R_drewN | apply Kd.R_drew)); exact HO290.out) hb); have n14_ := Aside0.mk (Kd.R_below (by (with_reducible repeat (first | apply Kd.R_alloc | apply Kd.R_drewN | apply Kd.R_drew)); exact HO294.out) hb); have n15_ := Aside0.mk (below_step (by repeat (first | (with_reducible first | exact HB.out | apply below_alloc | apply pw_below_drewN | apply below_drew1) | exact HB.out)) hb); clear HO245; clear HO249; clear HO252; clear HO256; clear HO259; clear HO262; clear HO267; clear HO269; clear HO272; clear HO275; clear HO279; clear HO282; clear HO286; clear HO290; clear HO294; clear HB; have HO245 := n0_; have HO249 := n1_; have HO252 := n2_; have HO256 := n3_; have HO259 := n4_; have HO262 := n5_; have HO267 := n6_; have HO269 := n7_; have HO272 := n8_; have HO275 := n9_; have HO279 := n10_; have HO282 := n11_; have HO286 := n12_; have HO290 := n13_; have HO294 := n14_; have HB := n15_; clear n0_ n1_ n2_ n3_ n4_ n5_ n6_ n7_ n8_ n9_ n10_ n11_ n12_ n13_ n14_ n15_; (try clear hb); (try clear hb2); (try clear hk); (try clear hi)))
        go_ret
        exact ⟨by first | rfl | (simp [errW_none, errW_some] <;> rfl) | (simp [*, errW_none, errW_some] <;> rfl), by repeat (first | (with_reducible first | exact HB.out | apply below_alloc | apply pw_below_drewN | apply below_drew1) | exact HB.out)⟩
       ·replace c17 := Bool.eq_false_iff.mpr c17
        subst c17
        have H1 : (none) = some r := by rw [if_neg (show ¬ (false = true) by decide)] at H; exact H
        clear H
        have H := H1
        clear H1
        exact absurd H (by simp)
      ·replace c15 := Bool.eq_false_iff.mpr c15
       subst c15
       have H1 : (none) = some r := by rw [if_neg (show ¬ (false = true) by decide)] at H; exact H
       clear H
       have H := H1
       clear H1
       exact absurd H (by simp)
     ·rw [if_neg c12] at H
      exact absurd H (by simp)
    ·replace c11 := Bool.eq_false_iff.mpr c11
     subst c11
     have H1 : (none) = some r := by rw [if_neg (show ¬ (false = true) by decide)] at H; exact H
     clear H
     have H := H1
     clear H1
     exact absurd H (by simp)
   ·rw [if_neg c9] at H
    exact absurd H (by simp)
  ·replace c8 := Bool.eq_false_iff.mpr c8
   subst c8
   have H1 : (none) = some r := by rw [if_neg (show ¬ (false = true) by decide)] at H; exact H
   clear H
   have H := H1
   clear H1
   exact absurd H (by simp)
 ·rw [if_neg c5] at H
  exact absurd H (by simp)
/-! ### reckonerlaw02_NatPowers: function 3 -/
-- OURS: function 17 (nat_DivWord)

end Go.Proofs.Ytkkkbalefnileaa.T
-- PRINTED by print.py (a twelfth state) out of the translation. Not trusted: Lean checks it.
namespace Go.Proofs.Ytkkkbalefnileaa.T
open Go.RowKit Go.Proofs.YtkkkbalefnileaaW.PrintWords Go.Proofs.YtkkkbalefnileaaW.PrintLast Go.Proofs.YtkkkbalefnileaaW.PrintMore
attribute [local go_sem] max2_int min2_int max_two min_two max_three min_three max_four min_four   -- for this text's walks alone
open Ytkkkbalefnileaa.Ex
set_option linter.unusedVariables false
set_option linter.unusedSimpArgs false

/-! ### reckonerlaw02_NatSums: function 6 -/
/-! ### reckonerlaw02_list: function 28 -/
def reckonerlaw02_list.l0 : Nat → List (List Int) → Int → Int → List (List Int) → Int → Option ((List (List Int)))
  | 0, _, _, _, _, _ => none
  | k + 1, x0, x1, x2, x7, x8 => if x8 < (x0.length : Int) then (if x8 < x1 then (if 0 ≤ x8 then ((reckonerlaw02_few.f (rd_L1 x0 x8) x2).bind fun t524 => (if x7.length < 5864062014805 then (reckonerlaw02_list.l0 k x0 x1 x2 (x7 ++ [t524]) (wrap64 (x8 + 1))) else (none))) else (none)) else (some x7)) else (some x7)
def reckonerlaw02_list.f (k : Nat) (l0 : List (List Int)) (a1 : Int) (a2 : Int) : Option ((List (List Int))) := reckonerlaw02_list.l0 k l0 a1 a2 ([] : List (List Int)) 0
set_option maxHeartbeats 8000000 in
set_option maxRecDepth 100000 in
theorem reckonerlaw02_list.calls (k : Nat) (A0 : Option Addr) (c0 : Nat) (l0 : List (List Int)) (a1 : Int) (a2 : Int) (r : List (List Int)) (w : World) (hr0 : Kd.C (Kd.slice 33 (Kd.int .u64)) w A0 l0.length l0) (hc0 : l0.length ≤ c0) (h : reckonerlaw02_list.f k l0 a1 a2 = some r) :
  Calls Try.prog 28 #[.slice A0 l0.length c0, .int .i64 a1, .int .i64 a2] w fun e w' => ∃ v0_ : Value, e = .returned (v0_) ∧ Kd.S (Kd.slice 33 (Kd.int .u64)) 23 w' w.heap.size (fun _ => True) v0_ r ∧ Below w.heap.size w w' := by
 have HR0 := Aside0.mk hr0
 have HC0 := Aside0.mk hc0
 clear hr0 hc0
 have HB := Aside0.mk (Below.refl w.heap.size w)
 have H : (reckonerlaw02_list.l0 k l0 a1 a2 ([] : List (List Int)) 0) = some r := h
 clear h
 have H' := Aside0.mk H
 clear H
 go_enter Try.func28, Try.ntmps28
 try simp only [List.append]
 go_wp2
 go_loopg [7, 8] k (fun kq v7 v8 w' => ∃ (x7_1 : List (List Int)) (x8_1 : Int), v8 = .int .i64 x8_1 ∧ Aside0 (reckonerlaw02_list.l0 kq l0 a1 a2 x7_1 x8_1 = some r) ∧ Aside0 (kq ≤ k) ∧ Aside0 (Kd.S (Kd.slice 33 (Kd.int .u64)) 23 w' w.heap.size (fun _ => True) v7 x7_1) ∧ Aside0 (Below w.heap.size w w'))
 case atStart => exact ⟨(([] : List (List Int))), (0), (by first | rfl | (simp; done) | (simp [*]; done)), H', ⟨Nat.le_refl _⟩, ⟨by first | exact Kd.S_nil _ _ _ _ _ | exact Kd.N_nil _ _ _ _ _ | exact Kd.V_nil _ _ _ _ _ | exact Kd.Q_nil _ _ _ _ _ | exact Kd.R_nil _ _ _ _ _⟩, ⟨by repeat (first | (with_reducible first | exact HB.out | apply below_alloc | apply pw_below_drewN | apply below_drew1) | exact HB.out)⟩⟩
 case round =>
  clear H'
  try clear c2
  try clear p2
  obtain ⟨x7_1, x8_1, rfl, HA, HK1, HO_7, HB⟩ := hrel
  cases gk with
  | zero => exact absurd HA.out (by simp [reckonerlaw02_list.l0])
  | succ k1 =>
   have H := HA.out
   clear HA
   simp only [reckonerlaw02_list.l0] at H
   by_cases c4 : x8_1 < (l0.length : Int)
   ·rw [if_pos c4] at H
    have c4b0 : decide (x8_1 < (l0.length : Int)) = true := decide_eq_true c4
    clear c4
    by_cases c5 : x8_1 < a1
    ·rw [if_pos c5] at H
     have c5b0 : decide (x8_1 < a1) = true := decide_eq_true c5
     clear c5
     by_cases c6 : 0 ≤ x8_1
     ·rw [if_pos c6] at H
      have c6b0 : decide (0 ≤ x8_1) = true := decide_eq_true c6
      clear c6
      replace H := Option.bind_eq_some_iff.mp H
      obtain ⟨t524, A70, H⟩ := H
      replace H : (if x7_1.length < 5864062014805 then (reckonerlaw02_list.l0 k1 l0 a1 a2 (x7_1 ++ [t524]) (wrap64 (x8_1 + 1))) else (none)) = some r := H
      have A7 := Aside0.mk A70
      clear A70
      by_cases c8 : x7_1.length < 5864062014805
      ·rw [if_pos c8] at H
       have LMc8 := Aside0.mk c8
       clear c8
       obtain ⟨y527, hy527⟩ : ∃ y_ : List (List Int), y_ = (x7_1 ++ [t524]) := ⟨_, rfl⟩
       replace H : (reckonerlaw02_list.l0 k1 l0 a1 a2 y527 (wrap64 (x8_1 + 1))) = some r := by first | (rw [hy527]; with_reducible exact H) | (have H2_ := (Option.bind_some _ _).symm.trans H; rw [hy527]; with_reducible exact H2_) | (have H2_ := (Option.bind_some _ _).symm.trans H; with_reducible exact H2_) | with_reducible exact H | (rw [hy527]; exact H) | exact H
       have Ny527 := Aside0.mk hy527
       clear hy527
       have H' := Aside0.mk H
       clear H
       have p523 : 0 ≤ (x8_1 : Int) := of_decide_eq_true (by first | (with_reducible assumption) | assumption)
       have q523 : x8_1 < (l0.length : Int) := of_decide_eq_true (by first | (with_reducible assumption) | assumption)
       obtain ⟨ad523, A523_0, c523_0, e523, hx523_0, hl523_0, hi523_0⟩ := at_L1 HR0.out x8_1 p523 q523
       cases e523
       replace hx523_0 := (HB.out.cell (World.block_lt_of_cell? w _ hx523_0)).trans hx523_0
       have HR523_0 := Aside0.mk hi523_0
       have HC523_0 := Aside0.mk hl523_0
       clear hi523_0 hl523_0
       replace p523 := eq_true p523
       replace q523 := eq_true q523
       go_wp2_with (first | ((with_reducible refine gate_callee (f := 10) rfl ?_); refine goesL_ (some 26) rfl rfl Try.func10 (by kernel_rfl) rfl #[.slice A523_0 (rd_L1 l0 x8_1).length c523_0, .int .i64 a2] rfl (by (try simp only [List.map_toArray, List.map_cons, List.map_nil]); first | done | rfl | (simp only [List.length_drop, List.length_take]; rfl)) ?_; (with_reducible refine (reckonerlaw02_few.calls _ _ (rd_L1 l0 x8_1) a2 t524 _ ?side1 ?side2 A7.out).mono ?_); (case side1 => repeat (first | exact (Kd.C_below HR523_0.out HB.out) | (with_reducible refine Kd.C_alloc ?_ _) | (with_reducible refine Kd.C_drewN ?_ _) | (with_reducible refine Kd.C_drew ?_))); (case side2 => exact HC523_0.out); rintro e w9 ⟨v525, rfl, ho0, hb⟩; refine ⟨_, rfl, ?_⟩; have n0_ := Aside0.mk (Kd.S_elder' (by (with_reducible repeat (first | apply Kd.S_alloc | apply Kd.S_drewN | apply Kd.S_drew)); exact HO_7.out) (Kd.R_base ho0) hb); have n1_ := Aside0.mk (Kd.R_lower ho0 (below_size (by repeat (first | (with_reducible first | exact HB.out | apply below_alloc | apply pw_below_drewN | apply below_drew1) | exact HB.out)))); have n2_ := Aside0.mk (below_step (by repeat (first | (with_reducible first | exact HB.out | apply below_alloc | apply pw_below_drewN | apply below_drew1) | exact HB.out)) hb); clear HO_7; clear HB; have HO_7 := n0_; have HO526 := n1_; have HB := n2_; clear n0_ n1_ n2_; (try clear hb); (try clear hb2); (try clear hk); (try clear hi); (try clear ho0); obtain ⟨Ao11, co11, eo11⟩ := Kd.R_slice HO526.out; subst eo11) | ((with_reducible refine gate_builtin (b := .append) (xs := #[.tmp 20, .tmp 27]) rfl ?_); at_builtin; refine Kd.S_append (Kd.slice 33 (Kd.int .u64)) (w0 := w) w.heap.size rfl (.tmp 20) (.tmp 27) 46 23 (.slice none 0 0) 24 rfl Try.underlying46 info23 rfl (by decide) (by omega) u7 x7_1 t524 [.slice Ao11 t524.length co11] (fun _ => True) (fun k_ => some k_ = (.slice Ao11 t524.length co11 : Value).ownBlock) rfl rfl ?aP (fun k_ hk_ => ((Kd.R_mono (ok' := fun k_ => ((fun _ => True)) k_ ∧ some k_ ≠ (u7 : Value).ownBlock) (Kd.R_apart' (HO526.out) (Kd.S_typed HO_7.out) (by decide)) (fun k_ hk => ⟨trivial, hk.2⟩))).1 k_ hk_.symm) ?aF ?aO ?aB ?aS ?aL ?_; (case aP => exact Kd.M_row (Kd.R_mono (Kd.R_tight rfl (Kd.R_mono (ok' := fun k_ => ((fun _ => True)) k_ ∧ some k_ ≠ (u7 : Value).ownBlock) (Kd.R_apart' (HO526.out) (Kd.S_typed HO_7.out) (by decide)) (fun k_ hk => ⟨trivial, hk.2⟩))) (fun _ h_ => h_))); (case aB => exact (by repeat (first | (with_reducible first | exact HB.out | apply below_alloc | apply pw_below_drewN | apply below_drew1) | exact HB.out))); (case aF => exact (fun _ _ => trivial)); (case aO => exact (by (with_reducible repeat (first | apply Kd.S_alloc | apply Kd.S_drewN | apply Kd.S_drew)); exact Kd.S_mono HO_7.out (fun k_ hk => ⟨trivial, fun e_ => hk.2 e_⟩))); (case aS => exact (below_size (by repeat (first | (with_reducible first | exact HB.out | apply below_alloc | apply pw_below_drewN | apply below_drew1) | exact HB.out)))); (case aL => have := LMc8.out; omega); intro v528 w10 ho hb hg hat; rw [← Ny527.out] at ho; have n0_ := Aside0.mk (hb); have n1_ := Aside0.mk (ho); clear HB; clear HO_7; clear HO526; have HB := n0_; have HO529 := n1_; clear n0_ n1_; clear ho hb hg hat))
       go_roundg k1
       case measure => have := HK1.out; omega
       case rel => exact ⟨(y527), (wrap64 (x8_1 + 1)), (by first | rfl | (simp; done) | (simp [*]; done)), H', ⟨by have := HK1.out; omega⟩, ⟨by (with_reducible repeat (first | apply Kd.S_alloc | apply Kd.S_drewN | apply Kd.S_drew)); exact HO529.out⟩, ⟨by repeat (first | (with_reducible first | exact HB.out | apply below_alloc | apply pw_below_drewN | apply below_drew1) | exact HB.out)⟩⟩
      ·rw [if_neg c8] at H
       exact absurd H (by simp)
     ·rw [if_neg c6] at H
      exact absurd H (by simp)
    ·rw [if_neg c5] at H
     have c5b0 : decide (x8_1 < a1) = false := decide_eq_false c5
     clear c5
     obtain rfl := Option.some.inj H
     go_wp2
     go_ret
     exact ⟨_, by first | rfl | (simp [errW_none, errW_some] <;> rfl) | (simp [*, errW_none, errW_some] <;> rfl), by (with_reducible repeat (first | apply Kd.S_alloc | apply Kd.S_drewN | apply Kd.S_drew)); exact HO_7.out, by repeat (first | (with_reducible first | exact HB.out | apply below_alloc | apply pw_below_drewN | apply below_drew1) | exact HB.out)⟩
   ·rw [if_neg c4] at H
    have c4b0 : decide (x8_1 < (l0.length : Int)) = false := decide_eq_false c4
    clear c4
    obtain rfl := Option.some.inj H
    go_wp2
    go_ret
    exact ⟨_, by first | rfl | (simp [errW_none, errW_some] <;> rfl) | (simp [*, errW_none, errW_some] <;> rfl), by (with_reducible repeat (first | apply Kd.S_alloc | apply Kd.S_drewN | apply Kd.S_drew)); exact HO_7.out, by repeat (first | (with_reducible first | exact HB.out | apply below_alloc | apply pw_below_drewN | apply below_drew1) | exact HB.out)⟩
-- OURS: function 29 (nat_Sum)

-- OURS: function 30 (nat_Product)

/-! ### reckonerref02_Sum: function 31 -/
def reckonerref02_Sum.l0 : Nat → List (List Int) → List Int → Int → Option (List Int)
  | 0, _, _, _ => none
  | k + 1, x0, x3, x4 => if x4 < (x0.length : Int) then (if 0 ≤ x4 then ((reckonerref02_Add.f k x3 (rd_L1 x0 x4)).bind fun t531 => (reckonerref02_Sum.l0 k x0 t531 (wrap64 (x4 + 1)))) else (none)) else (some x3)
def reckonerref02_Sum.f (k : Nat) (l0 : List (List Int)) : Option (List Int) := reckonerref02_Sum.l0 k l0 ([] : List Int) 0
set_option maxHeartbeats 8000000 in
set_option maxRecDepth 100000 in
theorem reckonerref02_Sum.calls (k : Nat) (A0 : Option Addr) (c0 : Nat) (l0 : List (List Int)) (r : List Int) (w : World) (hr0 : Kd.C (Kd.slice 33 (Kd.int .u64)) w A0 l0.length l0) (hc0 : l0.length ≤ c0) (h : reckonerref02_Sum.f k l0 = some r) :
  Calls Try.prog 31 #[.slice A0 l0.length c0] w fun e w' => ∃ v0_ : Value, e = .returned (v0_) ∧ Kd.R (Kd.int .u64) 33 w' w.heap.size (fun _ => True) v0_ r ∧ Below w.heap.size w w' := by
 have HR0 := Aside0.mk hr0
 have HC0 := Aside0.mk hc0
 clear hr0 hc0
 have HB := Aside0.mk (Below.refl w.heap.size w)
 have H : (reckonerref02_Sum.l0 k l0 ([] : List Int) 0) = some r := h
 clear h
 have H' := Aside0.mk H
 clear H
 go_enter Try.func31, Try.ntmps31
 go_wp2
 go_loopg [3, 4] k (fun kq v3 v4 w' => ∃ (x3_1 : List Int) (x4_1 : Int), v4 = .int .i64 x4_1 ∧ Aside0 (reckonerref02_Sum.l0 kq l0 x3_1 x4_1 = some r) ∧ Aside0 (kq ≤ k) ∧ Aside0 (Kd.R (Kd.int .u64) 33 w' w.heap.size (fun _ => True) v3 x3_1) ∧ Aside0 (Below w.heap.size w w'))
 case atStart => exact ⟨(([] : List Int)), (0), (by first | rfl | (simp; done) | (simp [*]; done)), H', ⟨Nat.le_refl _⟩, ⟨by first | exact Kd.R_nil _ _ _ _ _ | exact Kd.N_nil _ _ _ _ _ | exact Kd.V_nil _ _ _ _ _ | exact Kd.Q_nil _ _ _ _ _ | exact Kd.S_nil _ _ _ _ _⟩, ⟨by repeat (first | (with_reducible first | exact HB.out | apply below_alloc | apply pw_below_drewN | apply below_drew1) | exact HB.out)⟩⟩
 case round =>
  clear H'
  obtain ⟨x3_1, x4_1, rfl, HA, HK1, HO_3, HB⟩ := hrel
  cases gk with
  | zero => exact absurd HA.out (by simp [reckonerref02_Sum.l0])
  | succ k1 =>
   have H := HA.out
   clear HA
   simp only [reckonerref02_Sum.l0] at H
   by_cases c2 : x4_1 < (l0.length : Int)
   ·rw [if_pos c2] at H
    have c2b0 : decide (x4_1 < (l0.length : Int)) = true := decide_eq_true c2
    clear c2
    by_cases c3 : 0 ≤ x4_1
    ·rw [if_pos c3] at H
     have c3b0 : decide (0 ≤ x4_1) = true := decide_eq_true c3
     clear c3
     replace H := Option.bind_eq_some_iff.mp H
     obtain ⟨t531, A40, H⟩ := H
     replace H : (reckonerref02_Sum.l0 k1 l0 t531 (wrap64 (x4_1 + 1))) = some r := H
     have A4 := Aside0.mk A40
     clear A40
     have H' := Aside0.mk H
     clear H
     have p530 : 0 ≤ (x4_1 : Int) := of_decide_eq_true (by first | (with_reducible assumption) | assumption)
     have q530 : x4_1 < (l0.length : Int) := of_decide_eq_true (by first | (with_reducible assumption) | assumption)
     obtain ⟨ad530, A530_0, c530_0, e530, hx530_0, hl530_0, hi530_0⟩ := at_L1 HR0.out x4_1 p530 q530
     cases e530
     replace hx530_0 := (HB.out.cell (World.block_lt_of_cell? w _ hx530_0)).trans hx530_0
     have HR530_0 := Aside0.mk hi530_0
     have HC530_0 := Aside0.mk hl530_0
     clear hi530_0 hl530_0
     replace p530 := eq_true p530
     replace q530 := eq_true q530
     obtain ⟨Ao5, co5, eo5⟩ := Kd.R_slice HO_3.out
     subst eo5
     go_wp2_with (first | ((with_reducible refine gate_callee (f := 26) rfl ?_); refine goesL_ (some 16) rfl rfl Try.func26 (by kernel_rfl) rfl #[.slice Ao5 x3_1.length co5, .slice A530_0 (rd_L1 l0 x4_1).length c530_0] rfl (by (try simp only [List.map_toArray, List.map_cons, List.map_nil]); first | done | rfl | (simp only [List.length_drop, List.length_take]; rfl)) ?_; (with_reducible refine (reckonerref02_Add.calls k1 _ _ x3_1 _ _ (rd_L1 l0 x4_1) t531 _ ?side1 ?side2 ?side3 ?side4 A4.out).mono ?_); (case side1 => repeat (first | exact (Kd.R_reads' HO_3.out).2.2 | (with_reducible refine Kd.C_alloc ?_ _) | (with_reducible refine Kd.C_drewN ?_ _) | (with_reducible refine Kd.C_drew ?_))); (case side2 => exact (Kd.R_reads' HO_3.out).2.1); (case side3 => repeat (first | exact (Kd.C_below HR530_0.out HB.out) | (with_reducible refine Kd.C_alloc ?_ _) | (with_reducible refine Kd.C_drewN ?_ _) | (with_reducible refine Kd.C_drew ?_))); (case side4 => exact HC530_0.out); rintro e w6 ⟨v532, rfl, ho0, hb⟩; refine ⟨_, rfl, ?_⟩; have n0_ := Aside0.mk (Kd.R_elder' (by (with_reducible repeat (first | apply Kd.R_alloc | apply Kd.R_drewN | apply Kd.R_drew)); exact HO_3.out) (Kd.R_base ho0) hb); have n1_ := Aside0.mk (Kd.R_lower (Kd.R_new' ho0 (Kd.R_lt (by (with_reducible repeat (first | apply Kd.R_alloc | apply Kd.R_drewN | apply Kd.R_drew)); exact HO_3.out))) (below_size (by repeat (first | (with_reducible first | exact HB.out | apply below_alloc | apply pw_below_drewN | apply below_drew1) | exact HB.out)))); have n2_ := Aside0.mk (below_step (by repeat (first | (with_reducible first | exact HB.out | apply below_alloc | apply pw_below_drewN | apply below_drew1) | exact HB.out)) hb); clear HO_3; clear HB; have HO_3 := n0_; have HO533 := n1_; have HB := n2_; clear n0_ n1_ n2_; (try clear hb); (try clear hb2); (try clear hk); (try clear hi); (try clear ho0)))
     go_roundg k1
     case measure => have := HK1.out; omega
     case rel => exact ⟨(t531), (wrap64 (x4_1 + 1)), (by first | rfl | (simp; done) | (simp [*]; done)), H', ⟨by have := HK1.out; omega⟩, ⟨by (with_reducible repeat (first | apply Kd.R_alloc | apply Kd.R_drewN | apply Kd.R_drew)); exact Kd.R_mono HO533.out (fun _ hk => trivial)⟩, ⟨by repeat (first | (with_reducible first | exact HB.out | apply below_alloc | apply pw_below_drewN | apply below_drew1) | exact HB.out)⟩⟩
    ·rw [if_neg c3] at H
     exact absurd H (by simp)
   ·rw [if_neg c2] at H
    have c2b0 : decide (x4_1 < (l0.length : Int)) = false := decide_eq_false c2
    clear c2
    obtain rfl := Option.some.inj H
    go_wp2
    go_ret
    exact ⟨_, by first | rfl | (simp [errW_none, errW_some] <;> rfl) | (simp [*, errW_none, errW_some] <;> rfl), by (with_reducible repeat (first | apply Kd.R_alloc | apply Kd.R_drewN | apply Kd.R_drew)); exact HO_3.out, by repeat (first | (with_reducible first | exact HB.out | apply below_alloc | apply pw_below_drewN | apply below_drew1) | exact HB.out)⟩
/-! ### reckonerref02_Product: function 32 -/
def reckonerref02_Product.l0 : Nat → List (List Int) → List Int → Int → Option (List Int)
  | 0, _, _, _ => none
  | k + 1, x0, x3, x4 => if x4 < (x0.length : Int) then (if 0 ≤ x4 then ((reckonerref02_Mul.f k x3 (rd_L1 x0 x4)).bind fun t538 => (reckonerref02_Product.l0 k x0 t538 (wrap64 (x4 + 1)))) else (none)) else (some x3)
def reckonerref02_Product.f (k : Nat) (l0 : List (List Int)) : Option (List Int) := (reckonerref02_FromWord.f k 1).bind fun t534 => (reckonerref02_Product.l0 k l0 t534 0)
set_option maxHeartbeats 8000000 in
set_option maxRecDepth 100000 in
theorem reckonerref02_Product.calls (k : Nat) (A0 : Option Addr) (c0 : Nat) (l0 : List (List Int)) (r : List Int) (w : World) (hr0 : Kd.C (Kd.slice 33 (Kd.int .u64)) w A0 l0.length l0) (hc0 : l0.length ≤ c0) (h : reckonerref02_Product.f k l0 = some r) :
  Calls Try.prog 32 #[.slice A0 l0.length c0] w fun e w' => ∃ v0_ : Value, e = .returned (v0_) ∧ Kd.R (Kd.int .u64) 33 w' w.heap.size (fun _ => True) v0_ r ∧ Below w.heap.size w w' := by
 have HR0 := Aside0.mk hr0
 have HC0 := Aside0.mk hc0
 clear hr0 hc0
 have HB := Aside0.mk (Below.refl w.heap.size w)
 have H : ((reckonerref02_FromWord.f k 1).bind fun t534 => (reckonerref02_Product.l0 k l0 t534 0)) = some r := h
 clear h
 replace H := Option.bind_eq_some_iff.mp H
 obtain ⟨t534, A20, H⟩ := H
 replace H : (reckonerref02_Product.l0 k l0 t534 0) = some r := H
 have A2 := Aside0.mk A20
 clear A20
 have H' := Aside0.mk H
 clear H
 go_enter Try.func32, Try.ntmps32
 go_wp2_with (first | ((with_reducible refine gate_callee (f := 50) rfl ?_); refine goesL_ (some 5) rfl rfl Try.func50 (by kernel_rfl) rfl #[.int .u64 1] rfl (by (try simp only [List.map_toArray, List.map_cons, List.map_nil]); first | done | rfl | (simp only [List.length_drop, List.length_take]; rfl)) ?_; (with_reducible refine (reckonerref02_FromWord.calls k 1 t534 _ A2.out).mono ?_); rintro e w3 ⟨v535, rfl, ho0, hb⟩; refine ⟨_, rfl, ?_⟩; have n0_ := Aside0.mk (Kd.R_lower ho0 (below_size (by repeat (first | (with_reducible first | exact HB.out | apply below_alloc | apply pw_below_drewN | apply below_drew1) | exact HB.out)))); have n1_ := Aside0.mk (below_step (by repeat (first | (with_reducible first | exact HB.out | apply below_alloc | apply pw_below_drewN | apply below_drew1) | exact HB.out)) hb); clear HB; have HO536 := n0_; have HB := n1_; clear n0_ n1_; (try clear hb); (try clear hb2); (try clear hk); (try clear hi); (try clear ho0)))
 go_loopg [3, 4] k (fun kq v3 v4 w' => ∃ (x3_1 : List Int) (x4_1 : Int), v4 = .int .i64 x4_1 ∧ Aside0 (reckonerref02_Product.l0 kq l0 x3_1 x4_1 = some r) ∧ Aside0 (kq ≤ k) ∧ Aside0 (Kd.R (Kd.int .u64) 33 w' w.heap.size (fun _ => True) v3 x3_1) ∧ Aside0 (Below w.heap.size w w'))
 case atStart => exact ⟨(t534), (0), (by first | rfl | (simp; done) | (simp [*]; done)), H', ⟨Nat.le_refl _⟩, ⟨by (with_reducible repeat (first | apply Kd.R_alloc | apply Kd.R_drewN | apply Kd.R_drew)); exact HO536.out⟩, ⟨by repeat (first | (with_reducible first | exact HB.out | apply below_alloc | apply pw_below_drewN | apply below_drew1) | exact HB.out)⟩⟩
 case round =>
  clear H'
  try clear p2
  try clear c3
  obtain ⟨x3_1, x4_1, rfl, HA, HK1, HO_3, HB⟩ := hrel
  cases gk with
  | zero => exact absurd HA.out (by simp [reckonerref02_Product.l0])
  | succ k1 =>
   have H := HA.out
   clear HA
   simp only [reckonerref02_Product.l0] at H
   by_cases c4 : x4_1 < (l0.length : Int)
   ·rw [if_pos c4] at H
    have c4b0 : decide (x4_1 < (l0.length : Int)) = true := decide_eq_true c4
    clear c4
    by_cases c5 : 0 ≤ x4_1
    ·rw [if_pos c5] at H
     have c5b0 : decide (0 ≤ x4_1) = true := decide_eq_true c5
     clear c5
     replace H := Option.bind_eq_some_iff.mp H
     obtain ⟨t538, A60, H⟩ := H
     replace H : (reckonerref02_Product.l0 k1 l0 t538 (wrap64 (x4_1 + 1))) = some r := H
     have A6 := Aside0.mk A60
     clear A60
     have H' := Aside0.mk H
     clear H
     have p537 : 0 ≤ (x4_1 : Int) := of_decide_eq_true (by first | (with_reducible assumption) | assumption)
     have q537 : x4_1 < (l0.length : Int) := of_decide_eq_true (by first | (with_reducible assumption) | assumption)
     obtain ⟨ad537, A537_0, c537_0, e537, hx537_0, hl537_0, hi537_0⟩ := at_L1 HR0.out x4_1 p537 q537
     cases e537
     replace hx537_0 := (HB.out.cell (World.block_lt_of_cell? w _ hx537_0)).trans hx537_0
     have HR537_0 := Aside0.mk hi537_0
     have HC537_0 := Aside0.mk hl537_0
     clear hi537_0 hl537_0
     replace p537 := eq_true p537
     replace q537 := eq_true q537
     obtain ⟨Ao7, co7, eo7⟩ := Kd.R_slice HO_3.out
     subst eo7
     go_wp2_with (first | ((with_reducible refine gate_callee (f := 23) rfl ?_); refine goesL_ (some 17) rfl rfl Try.func23 (by kernel_rfl) rfl #[.slice Ao7 x3_1.length co7, .slice A537_0 (rd_L1 l0 x4_1).length c537_0] rfl (by (try simp only [List.map_toArray, List.map_cons, List.map_nil]); first | done | rfl | (simp only [List.length_drop, List.length_take]; rfl)) ?_; (with_reducible refine (reckonerref02_Mul.calls k1 _ _ x3_1 _ _ (rd_L1 l0 x4_1) t538 _ ?side1 ?side2 ?side3 ?side4 A6.out).mono ?_); (case side1 => repeat (first | exact (Kd.R_reads' HO_3.out).2.2 | (with_reducible refine Kd.C_alloc ?_ _) | (with_reducible refine Kd.C_drewN ?_ _) | (with_reducible refine Kd.C_drew ?_))); (case side2 => exact (Kd.R_reads' HO_3.out).2.1); (case side3 => repeat (first | exact (Kd.C_below HR537_0.out HB.out) | (with_reducible refine Kd.C_alloc ?_ _) | (with_reducible refine Kd.C_drewN ?_ _) | (with_reducible refine Kd.C_drew ?_))); (case side4 => exact HC537_0.out); rintro e w8 ⟨v539, rfl, ho0, hb⟩; refine ⟨_, rfl, ?_⟩; have n0_ := Aside0.mk (Kd.R_elder' (by (with_reducible repeat (first | apply Kd.R_alloc | apply Kd.R_drewN | apply Kd.R_drew)); exact HO_3.out) (Kd.R_base ho0) hb); have n1_ := Aside0.mk (Kd.R_lower (Kd.R_new' ho0 (Kd.R_lt (by (with_reducible repeat (first | apply Kd.R_alloc | apply Kd.R_drewN | apply Kd.R_drew)); exact HO_3.out))) (below_size (by repeat (first | (with_reducible first | exact HB.out | apply below_alloc | apply pw_below_drewN | apply below_drew1) | exact HB.out)))); have n2_ := Aside0.mk (below_step (by repeat (first | (with_reducible first | exact HB.out | apply below_alloc | apply pw_below_drewN | apply below_drew1) | exact HB.out)) hb); clear HO_3; clear HB; have HO_3 := n0_; have HO540 := n1_; have HB := n2_; clear n0_ n1_ n2_; (try clear hb); (try clear hb2); (try clear hk); (try clear hi); (try clear ho0)))
     go_roundg k1
     case measure => have := HK1.out; omega
     case rel => exact ⟨(t538), (wrap64 (x4_1 + 1)), (by first | rfl | (simp; done) | (simp [*]; done)), H', ⟨by have := HK1.out; omega⟩, ⟨by (with_reducible repeat (first | apply Kd.R_alloc | apply Kd.R_drewN | apply Kd.R_drew)); exact Kd.R_mono HO540.out (fun _ hk => trivial)⟩, ⟨by repeat (first | (with_reducible first | exact HB.out | apply below_alloc | apply pw_below_drewN | apply below_drew1) | exact HB.out)⟩⟩
    ·rw [if_neg c5] at H
     exact absurd H (by simp)
   ·rw [if_neg c4] at H
    have c4b0 : decide (x4_1 < (l0.length : Int)) = false := decide_eq_false c4
    clear c4
    obtain rfl := Option.some.inj H
    go_wp2
    go_ret
    exact ⟨_, by first | rfl | (simp [errW_none, errW_some] <;> rfl) | (simp [*, errW_none, errW_some] <;> rfl), by (with_reducible repeat (first | apply Kd.R_alloc | apply Kd.R_drewN | apply Kd.R_drew)); exact HO_3.out, by repeat (first | (with_reducible first | exact HB.out | apply below_alloc | apply pw_below_drewN | apply below_drew1) | exact HB.out)⟩
-- NOT PRINTED: function 7 (reckonerlaw02_NatLists)

-- OURS: function 33 (nat_Left)

-- OURS: function 34 (nat_Right)

-- OURS: function 35 (nat_Low)

/-! ### reckonerref01_Right: function 74 -/
/-! ### reckonerref02_Right: function 36 -/
end Go.Proofs.Ytkkkbalefnileaa.T
/- The walk of NatLists. -/
namespace Go.Proofs.Ytkkkbalefnileaa.Ex
open Go.RowKit Go.Shelf Go.Proofs.YtkkkbalefnileaaW.PrintWords Go.Proofs.YtkkkbalefnileaaW.PrintLast Go.Proofs.YtkkkbalefnileaaW.PrintMore Go.Proofs.Ytkkkbalefnileaa.T
set_option linter.unusedVariables false
set_option linter.unusedSimpArgs false

theorem iN : (Try.prog.info? 23).map (fun i => (i.zero, i.size, i.bytes)) = some (some (.slice none 0 0), 1, 24) := by kernel_rfl
theorem uLN : Try.prog.underlying 46 = some (.slice 23) := by kernel_rfl
/-- A new list of numbers that are nil. -/
theorem print_makeN (m : Nat) (hm : m ≤ 1000000) :
    ∀ W : World, (Instr.makeSlice 46 (.int .i64 (m : Int)) (.int .i64 (m : Int))).run Try.prog W = .ok (.slice (some ⟨W.heap.size, 0, none⟩) m m) (W.alloc (.cells (madeCells #[.slice none 0 0] m) 23)) := by
  intro W
  obtain ⟨i0, hi0, hz0, hz1, hz2⟩ := info_parts iN
  have h := run_makeSlice W 46 23 i0 (.slice none 0 0) uLN hi0 hz0 .i64 .i64 (m : Int) (m : Int) (by omega) (by omega) (by rw [hz1]; omega) (by rw [hz2]; omega) (by omega)
  rw [h, hz1]
  simp only [Int.toNat_natCast, Nat.mul_one]
  rfl
theorem C_nils (W : World) (b m : Nat) (hm : m ≤ 1000000) (t : TypeId) (hb : W.heap[b]? = some (.cells (madeCells #[.slice none 0 0] m) t (0, 0))) : Kd.C (Kd.slice 33 (Kd.int .u64)) W (some ⟨b, 0, none⟩) (List.replicate m ([] : List Int)).length (List.replicate m []) := by
  refine ⟨rfl, by simp; omega, fun _ => ⟨_, rfl, fun j p hj => ?_⟩⟩
  have hjm : j < m := by have := (List.getElem?_eq_some_iff.1 hj).1; simpa using this
  have hp : p = [] := by
    obtain ⟨h1, h2⟩ := List.getElem?_eq_some_iff.1 hj
    rw [← h2, List.getElem_replicate]
  subst hp
  refine ⟨[.slice none 0 0], rfl, ⟨none, 0, rfl, Nat.le_refl _, ⟨rfl, by decide, fun h => absurd h (by decide)⟩⟩, fun i u hu => ?_⟩
  cases i with
  | zero =>
    cases hu
    have e : (⟨b, 0, none⟩ : Addr).add (j * (Kd.slice 33 (Kd.int .u64)).sz + 0) = ⟨b, j, none⟩ := by
      unfold Addr.add
      split <;> simp_all [Kd.slice]
    rw [e, blk_cell hb]
    simp [madeCells, hjm, Nat.mod_one]
  | succ i => simp at hu
theorem C_three {W : World} {b : Nat} {A0 A1 A2 : Option Addr} {c0 c1 c2 : Nat} {l0 l1 l2 : List Int} {t : TypeId} {fr : Nat × Nat} (h0 : Kd.C (Kd.int .u64) W A0 l0.length l0) (g0 : l0.length ≤ c0) (h1 : Kd.C (Kd.int .u64) W A1 l1.length l1) (g1 : l1.length ≤ c1) (h2 : Kd.C (Kd.int .u64) W A2 l2.length l2) (g2 : l2.length ≤ c2)
    (hb : W.heap[b]? = some (.cells #[.slice A0 l0.length c0, .slice A1 l1.length c1, .slice A2 l2.length c2] t fr)) : Kd.C (Kd.slice 33 (Kd.int .u64)) W (some ⟨b, 0, none⟩) 3 [l0, l1, l2] := by
  refine ⟨rfl, by decide, fun _ => ⟨_, rfl, fun j p hj => ?_⟩⟩
  match j, hj with
  | 0, hj =>
    cases hj
    refine ⟨[.slice A0 l0.length c0], rfl, ⟨A0, c0, rfl, g0, h0⟩, fun i u hu => ?_⟩
    cases i with
    | zero => cases hu; simp [World.cell?, Addr.add, hb]
    | succ i => simp at hu
  | 1, hj =>
    cases hj
    refine ⟨[.slice A1 l1.length c1], rfl, ⟨A1, c1, rfl, g1, h1⟩, fun i u hu => ?_⟩
    cases i with
    | zero => cases hu; simp [World.cell?, Addr.add, hb, Kd.slice]
    | succ i => simp at hu
  | 2, hj =>
    cases hj
    refine ⟨[.slice A2 l2.length c2], rfl, ⟨A2, c2, rfl, g2, h2⟩, fun i u hu => ?_⟩
    cases i with
    | zero => cases hu; simp [World.cell?, Addr.add, hb, Kd.slice]
    | succ i => simp at hu
  | j + 3, hj => simp at hj
theorem C_nilrow (W : World) : Kd.C (Kd.int .u64) W none ([] : List Int).length [] := ⟨rfl, by decide, fun h => absurd h (by decide)⟩
theorem C_first2 {W : World} {b : Nat} {x y z : List Int} (h : Kd.C (Kd.slice 33 (Kd.int .u64)) W (some ⟨b, 0, none⟩) 3 [x, y, z]) : Kd.C (Kd.slice 33 (Kd.int .u64)) W (some ⟨b, 0, none⟩) 2 [x, y] := by
  obtain ⟨_, _, h3⟩ := h
  obtain ⟨ad, e, hc⟩ := h3 (by decide)
  exact ⟨rfl, by decide, fun _ => ⟨ad, e, fun j p hj => hc j p (by
    match j, hj with
    | 0, hj => exact hj
    | 1, hj => exact hj
    | j + 2, hj => simp at hj)⟩⟩
set_option maxRecDepth 100000 in
set_option maxHeartbeats 8000000 in
theorem NatLists1 (A0 : Option Addr) (c0 : Nat) (l0 : List (List Int)) (a1 : Int) (w : World) (hr0 : Kd.C (Kd.slice 33 (Kd.int .u64)) w A0 l0.length l0) (hc0 : l0.length ≤ c0)
    (k1 k2 k3 k4 k5 k6 : Nat) (x : List (List Int)) (s p s' p' : List Int) (n : Nat) (hn : n ≤ 1000000)
    (fL : reckonerlaw02_list.f k1 l0 20 8 = some x) (fS : nat_Sum.f x = some (s, 0)) (fP : nat_Product.f x = some (p, 0))
    (rS : reckonerref02_Sum.f k2 x = some s') (iS : reckonerref02_Is.f k3 s s' = some true) (rP : reckonerref02_Product.f k4 x = some p') (iP : reckonerref02_Is.f k5 p p' = some true)
    (hlen : wrap64 (1001 + wrap64 (Int.tmod (IntKind.u64.wrap a1) 3)) = (n : Int)) (gS : nat_Sum.f (List.replicate n []) = some ([], 1)) (gP : nat_Product.f (List.replicate n []) = some ([], 1))
    (Z : List Int) (HZe : Aside0 (Z = List.replicate 4096 0)) (gP3 : nat_Product.f [[2, 1], Z.set 4095 1, []] = some ([], 0)) (gP2 : nat_Product.f [[2, 1], Z.set 4095 1] = some ([], 2))
    (aw : reckonerlaw02_awake.f k6 = some true) :
    Calls Try.prog 7 #[.slice A0 l0.length c0, .int .i64 a1] w fun e w' => e = .returned (.bool true) ∧ Below w.heap.size w w' := by
  have HR0 := Aside0.mk hr0
  clear hr0
  have hmN := print_makeN n hn
  have hrl : (List.replicate n ([] : List Int)).length = n := List.length_replicate
  have HCN := Aside0.mk (fun W : World => C_nils (W.alloc (.cells (madeCells #[.slice none 0 0] n) 23)) W.heap.size n hn _ (heap_alloc_new _ _))
  rw [hrl] at HCN
  go_enter Try.func7, Try.ntmps7
  try simp only [List.append]
  go_wp2_with fail
  refine (reckonerlaw02_list.calls k1 A0 c0 l0 20 8 x _ HR0.out hc0 fL).mono ?_
  rintro e w1 ⟨v1, rfl, hS1, hb1⟩
  have HB1 := Aside0.mk hb1
  obtain ⟨AX, cX, rfl, hcX, hCX⟩ := Kd.S_reads hS1
  have HX1 := Aside0.mk hCX
  clear hS1 hb1 hCX
  go_wp2_with fail
  refine (nat_Sum.calls AX cX x s 0 _ HX1.out hcX fS).mono ?_
  rintro e w2 ⟨v2, rfl, hR2, hb2⟩
  obtain ⟨AS, cS, rfl⟩ := Kd.R_slice hR2
  have HX2 := Aside0.mk (Kd.C_below HX1.out hb2)
  have HB2 := Aside0.mk (below_step HB1.out hb2)
  have HS2 := Aside0.mk hR2
  clear hR2 hb2 HX1 HB1
  go_wp2_with fail
  refine (nat_Product.calls AX cX x p 0 _ HX2.out hcX fP).mono ?_
  rintro e w3 ⟨v3, rfl, hR3, hb3⟩
  obtain ⟨AP, cP, rfl⟩ := Kd.R_slice hR3
  have HX3 := Aside0.mk (Kd.C_below HX2.out hb3)
  have HB3 := Aside0.mk (below_step HB2.out hb3)
  have HS3 := Aside0.mk (Kd.R_below HS2.out hb3)
  have HP3 := Aside0.mk hR3
  clear hR3 hb3 HX2 HB2 HS2
  go_wp2_with fail
  refine (reckonerref02_Sum.calls k2 AX cX x s' _ HX3.out hcX rS).mono ?_
  rintro e w4 ⟨v4, rfl, hR4, hb4⟩
  obtain ⟨AT, cT, rfl⟩ := Kd.R_slice hR4
  have HX4 := Aside0.mk (Kd.C_below HX3.out hb4)
  have HB4 := Aside0.mk (below_step HB3.out hb4)
  have HS4 := Aside0.mk (Kd.R_below HS3.out hb4)
  have HP4 := Aside0.mk (Kd.R_below HP3.out hb4)
  have HT4 := Aside0.mk hR4
  clear hR4 hb4 HX3 HB3 HS3 HP3
  go_wp2_with fail
  refine (reckonerref02_Is.calls k3 AS cS s AT cT s' true _ (R_C HS4.out) (R_cap HS4.out) (R_C HT4.out) (R_cap HT4.out) iS).mono ?_
  rintro e w5 ⟨rfl, hb5⟩
  have HX5 := Aside0.mk (Kd.C_below HX4.out hb5)
  have HB5 := Aside0.mk (below_step HB4.out hb5)
  have HP5 := Aside0.mk (Kd.R_below HP4.out hb5)
  clear hb5 HX4 HB4 HS4 HP4 HT4
  go_wp2_with fail
  refine (reckonerref02_Product.calls k4 AX cX x p' _ HX5.out hcX rP).mono ?_
  rintro e w6 ⟨v6, rfl, hR6, hb6⟩
  obtain ⟨AU, cU, rfl⟩ := Kd.R_slice hR6
  have HB6 := Aside0.mk (below_step HB5.out hb6)
  have HP6 := Aside0.mk (Kd.R_below HP5.out hb6)
  have HU6 := Aside0.mk hR6
  clear hR6 hb6 HX5 HB5 HP5
  go_wp2_with fail
  refine (reckonerref02_Is.calls k5 AP cP p AU cU p' true _ (R_C HP6.out) (R_cap HP6.out) (R_C HU6.out) (R_cap HU6.out) iP).mono ?_
  rintro e w7 ⟨rfl, hb7⟩
  have HB7 := Aside0.mk (below_step HB6.out hb7)
  clear hb7 HB6 HP6 HU6
  go_wp2_with fail
  have HB8 := Aside0.mk (below_alloc HB7.out (.cells (madeCells #[.slice none 0 0] n) 23))
  have HN8 := Aside0.mk (HCN.out w7)
  generalize w7.alloc (.cells (madeCells #[.slice none 0 0] n) 23) = w8 at HB8 HN8 ⊢
  generalize w7.heap.size = b at HN8 ⊢
  clear HB7 HCN hmN
  have HC9 := nat_Sum.calls (some ⟨b, 0, none⟩) n (List.replicate n []) [] 1 w8 (by rw [hrl]; exact HN8.out) (by rw [hrl]; exact Nat.le_refl n) gS
  rw [hrl] at HC9
  refine HC9.mono ?_
  clear HC9
  rintro e w9 ⟨v9, rfl, hR9, hb9⟩
  have hv9 : v9 = .slice none 0 0 ∨ True := Or.inr trivial
  obtain ⟨A9, c9, rfl⟩ := Kd.R_slice hR9
  have HN9 := Aside0.mk (Kd.C_below HN8.out hb9)
  have HB9 := Aside0.mk (below_step HB8.out hb9)
  clear hR9 hb9 HN8 HB8 hv9
  go_wp2_with fail
  have HC10 := nat_Product.calls (some ⟨b, 0, none⟩) n (List.replicate n []) [] 1 w9 (by rw [hrl]; exact HN9.out) (by rw [hrl]; exact Nat.le_refl n) gP
  rw [hrl] at HC10
  refine HC10.mono ?_
  clear HC10
  rintro e w10 ⟨v10, rfl, hR10, hb10⟩
  obtain ⟨A10, c10, rfl⟩ := Kd.R_slice hR10
  have HB10 := Aside0.mk (below_step HB9.out hb10)
  clear hR10 hb10 HN9 HB9 gS gP
  go_wp2
  have HA11 := Aside0.mk (show RowB (w10.alloc (.cells #[.int .u64 2, .int .u64 1] 33)) w10.heap.size [2, 1] from heap_alloc_new _ _)
  have HB11 := Aside0.mk (below_alloc HB10.out (.cells #[.int .u64 2, .int .u64 1] 33))
  have hg0 := below_size HB10.out
  generalize w10.alloc (.cells #[.int .u64 2, .int .u64 1] 33) = w11 at HA11 HB11 ⊢
  generalize w10.heap.size = g0 at HA11 hg0 ⊢
  clear HB10
  have hm4 := print_make2 4096 4096 (Nat.le_refl _) (by decide) w11
  have HZ12 := Aside0.mk (RowB.made w11 4096)
  have HB12 := Aside0.mk (below_alloc HB11.out (.cells (madeCells #[.int .u64 0] 4096) 33))
  have HA12 := Aside0.mk (HA11.out.alloc (.cells (madeCells #[.int .u64 0] 4096) 33))
  have hg1 := below_size HB11.out
  have hg01 := HA11.out.lt
  generalize w11.alloc (.cells (madeCells #[.int .u64 0] 4096) 33) = w12 at HZ12 HB12 HA12 hm4 ⊢
  have hZ := HZe.out
  rw [← hZ] at HZ12
  have hZl : Z.length = 4096 := by rw [hZ]; exact List.length_replicate
  have hZ0 : Z.getD 4095 0 = 0 := by rw [hZ, List.getD_eq_getElem?_getD, List.getElem?_replicate]; rfl
  generalize w11.heap.size = g1 at HZ12 hm4 hg1 hg01 ⊢
  rw [show (Instr.makeSlice 23 (.int .i64 4096) (.int .i64 4096)).run Try.prog w11 = _ from hm4]
  have HB13 := Aside0.mk (below_alloc HB12.out (.cells #[.slice (some ⟨g0, 0, none⟩) 2 2, .slice (some ⟨g1, 0, none⟩) 4096 4096, .slice none 0 0] 23))
  have hL13 := heap_alloc_new w12 (.cells #[.slice (some ⟨g0, 0, none⟩) 2 2, .slice (some ⟨g1, 0, none⟩) 4096 4096, .slice none 0 0] 23)
  have hA13 := HA12.out.alloc (.cells #[.slice (some ⟨g0, 0, none⟩) 2 2, .slice (some ⟨g1, 0, none⟩) 4096 4096, .slice none 0 0] 23)
  have hZ13 := HZ12.out.alloc (.cells #[.slice (some ⟨g0, 0, none⟩) 2 2, .slice (some ⟨g1, 0, none⟩) 4096 4096, .slice none 0 0] 23)
  have hg2 := HZ12.out.lt
  have hx1 := blk_cell hL13 1
  have hx2 := hZ13.cell 4095 (by omega)
  have hx3 := hZ13.frozen 4095
  rw [hZ0] at hx2
  have hx1 : (w12.alloc (.cells #[.slice (some ⟨g0, 0, none⟩) 2 2, .slice (some ⟨g1, 0, none⟩) 4096 4096, .slice none 0 0] 23)).cell? ⟨w12.heap.size, 1, none⟩ = some (.slice (some ⟨g1, 0, none⟩) 4096 4096) := hx1
  have HL13 := Aside0.mk hL13
  have HA13 := Aside0.mk hA13
  have HZ13 := Aside0.mk hZ13
  clear hm4 hL13 hA13 hZ13 HA13 HZ13 HL13 HB13 HA11 HB11 hZ
  go_wp2_with fail
  have HB14 := Aside0.mk (below_alloc (HB12.out.setCell (p := ⟨g1, 4095, none⟩) hg1 (.int .u64 1)) (.cells #[.slice (some ⟨g0, 0, none⟩) 2 2, .slice (some ⟨g1, 0, none⟩) 4096 4096, .slice none 0 0] 23))
  have hA14 := (HA12.out.far (p := ⟨g1, 4095, none⟩) (by show g0 ≠ g1; omega) (.int .u64 1)).alloc (.cells #[.slice (some ⟨g0, 0, none⟩) 2 2, .slice (some ⟨g1, 0, none⟩) 4096 4096, .slice none 0 0] 23)
  have hZ14 := (HZ12.out.set 4095 1).alloc (.cells #[.slice (some ⟨g0, 0, none⟩) 2 2, .slice (some ⟨g1, 0, none⟩) 4096 4096, .slice none 0 0] 23)
  have hL14 := heap_alloc_new (w12.setCell ⟨g1, 4095, none⟩ (.int .u64 1)) (.cells #[.slice (some ⟨g0, 0, none⟩) 2 2, .slice (some ⟨g1, 0, none⟩) 4096 4096, .slice none 0 0] 23)
  rw [show (w12.setCell ⟨g1, 4095, none⟩ (.int .u64 1)).heap.size = w12.heap.size from by simp] at hL14
  have hZl2 : (Z.set 4095 1).length = 4096 := by rw [List.length_set]; exact hZl
  generalize (w12.setCell ⟨g1, 4095, none⟩ (.int .u64 1)).alloc (.cells #[.slice (some ⟨g0, 0, none⟩) 2 2, .slice (some ⟨g1, 0, none⟩) 4096 4096, .slice none 0 0] 23) = w14 at HB14 hA14 hZ14 hL14 ⊢
  generalize w12.heap.size = g2 at hL14 ⊢
  generalize Z.set 4095 1 = Y at *
  have cA := R_C (hA14.own' 0 (Nat.zero_le _) (by show 2 ≤ 1000000; decide))
  have cY := R_C (hZ14.own' 0 (Nat.zero_le _) (by rw [hZl2]; decide))
  have hL14' : w14.heap[g2]? = some (.cells #[.slice (some ⟨g0, 0, none⟩) ([2, 1] : List Int).length 2, .slice (some ⟨g1, 0, none⟩) Y.length 4096, .slice none ([] : List Int).length 0] 23 (0, 0)) := by rw [hZl2]; exact hL14
  have HC14 := Aside0.mk (C_three cA (by decide) cY (by omega) (C_nilrow w14) (by decide) hL14')
  clear cA cY hL14' hL14 hA14 hZ14 hx1 hx2 hx3 HA12 HZ12 HB12 hZl hZ0 hZl2
  refine (nat_Product.calls (some ⟨g2, 0, none⟩) 3 [[2, 1], Y, []] [] 0 w14 HC14.out (Nat.le_refl 3) gP3).mono ?_
  rintro e w15 ⟨v15, rfl, hR15, hb15⟩
  obtain ⟨A15, c15, rfl⟩ := Kd.R_slice hR15
  have HB15 := Aside0.mk (below_step HB14.out hb15)
  have HC15 := Aside0.mk (C_first2 (Kd.C_below HC14.out hb15))
  clear hR15 hb15 HB14 HC14
  go_wp2_with fail
  refine (nat_Product.calls (some ⟨g2, 0, none⟩) 2 [[2, 1], Y] [] 2 w15 HC15.out (Nat.le_refl 2) gP2).mono ?_
  rintro e w16 ⟨v16, rfl, hR16, hb16⟩
  obtain ⟨A16, c16, rfl⟩ := Kd.R_slice hR16
  have HB16 := Aside0.mk (below_step HB15.out hb16)
  clear hR16 hb16 HB15 HC15
  go_wp2_with fail
  refine (reckonerlaw02_awake.calls k6 true w16 aw).mono ?_
  rintro e w17 ⟨rfl, hb17⟩
  have HB17 := Aside0.mk (below_step HB16.out hb17)
  clear hb17 HB16
  go_wp2
  go_ret
  exact ⟨rfl, HB17.out⟩
end Go.Proofs.Ytkkkbalefnileaa.Ex
/- What the reference's functions on digits hand back (printed in Tx1, Tx2). -/
namespace Go.Proofs.Ytkkkbalefnileaa.Ex
open Go.RowKit Go.Proofs.YtkkkbalefnileaaW.PrintWords Go.Proofs.YtkkkbalefnileaaW.PrintLast Go.Proofs.YtkkkbalefnileaaW.PrintMore Go.Proofs.Ytkkkbalefnileaa.T
set_option linter.unusedVariables false
set_option linter.unusedSimpArgs false

/-- The base of the reference's digits. -/
def H32 : Int := 4294967296
theorem H32_eq : H32 = 4294967296 := rfl
theorem H32_pos : 0 < H32 := by decide
theorem H32_sq : H32 * H32 = W64 := by decide
theorem rd_nat (l : List Int) (i : Nat) : rd l (i : Int) = l.getD i 0 := by simp [rd]
theorem w64_nat (n : Nat) (h : n < 4611686018427387904) : wrap64 (n : Int) = (n : Int) := by unfold wrap64; omega
theorem w64_int (n : Int) (h0 : -4611686018427387904 ≤ n) (h : n < 4611686018427387904) : wrap64 n = n := by unfold wrap64; omega
theorem wrapW (q : Int) (h0 : 0 ≤ q) (h1 : q < 18446744073709551616) : IntKind.u64.wrap q = q := Int.emod_eq_of_lt h0 h1
theorem tmodH (q : Int) (h : 0 ≤ q) : Int.tmod q 4294967296 = q % H32 := Int.tmod_eq_emod_of_nonneg h
theorem tdivH (q : Int) (h : 0 ≤ q) : Int.tdiv q 4294967296 = q / H32 := Int.tdiv_eq_ediv_of_nonneg h
theorem Ev.now' {α : Type} {g : Nat → Option α} {r : α} (h : ∀ k, g (k + 1) = some r) : Ev g r := Ev.step h (Ev.now r)
/-! ### digits -/
def digitsL : List Int → List Int
  | [] => []
  | x :: l => x % H32 :: x / H32 :: digitsL l
theorem digitsL_length : ∀ l, (digitsL l).length = 2 * l.length
  | [] => rfl
  | x :: l => by simp [digitsL, digitsL_length l]; omega
theorem digitsL_in : ∀ {l}, inW l → inB H32 (digitsL l)
  | [], _ => inB_nil
  | x :: l, h => by
    have h1 := inW_cons.1 h
    have h2 := h1.1.1
    have h3 := h1.1.2
    rw [W64_eq] at h3
    exact inB_cons.2 ⟨by rw [H32_eq]; omega, inB_cons.2 ⟨by rw [H32_eq]; omega, digitsL_in h1.2⟩⟩
theorem digitsL_val : ∀ l, valB H32 (digitsL l) = valB W64 l
  | [] => rfl
  | x :: l => by
    show x % H32 + H32 * (x / H32 + H32 * valB H32 (digitsL l)) = x + W64 * valB W64 l
    rw [digitsL_val l, Int.mul_add, ← Int.mul_assoc, H32_sq, ← Int.add_assoc]
    have := Int.emod_add_mul_ediv x H32
    omega
theorem Digits_loop (l : List Int) (hl : inW l) (hn : l.length ≤ 1000000) : ∀ n i acc, i + n = l.length → acc.length = 2 * i → Ev (fun k => reckonerref01_Digits.l0 k l acc (i : Int)) (acc ++ digitsL (l.drop i))
  | 0, i, acc, h, _ => by
    rw [List.drop_of_length_le (by omega)]
    refine Ev.now' fun k => ?_
    rw [reckonerref01_Digits.l0, if_neg (by omega)]
    simp [digitsL]
  | n + 1, i, acc, h, ha => by
    have hi : i < l.length := by omega
    have ih := Digits_loop l hl hn n (i + 1) (acc ++ [l[i] % H32, l[i] / H32]) (by omega) (by simp [ha]; omega)
    have hx : isW l[i] := hl _ (List.getElem_mem _)
    have h1 := hx.1
    have h2 := hx.2
    rw [W64_eq] at h2
    rw [List.drop_eq_getElem_cons hi]
    have e : acc ++ digitsL (l[i] :: l.drop (i + 1)) = (acc ++ [l[i] % H32, l[i] / H32]) ++ digitsL (l.drop (i + 1)) := by simp [digitsL]
    rw [e]
    refine Ev.step (fun k => ?_) ih
    have hg : l.getD i 0 = l[i] := by simp [List.getD_eq_getElem?_getD, List.getElem?_eq_getElem hi]
    have e1 : wrap64 ((i : Int) + 1) = ((i + 1 : Nat) : Int) := by rw [← w64_nat (i + 1) (by omega)]; rfl
    rw [reckonerref01_Digits.l0, if_pos (by omega), if_pos (by omega), Option.bind_some, if_pos (by simp; omega), rd_nat, hg, e1, tmodH _ h1, tdivH _ h1, wrapW _ (by rw [H32_eq]; omega) (by rw [H32_eq]; omega)]
theorem Digits_ev (l : List Int) (hl : inW l) (hn : l.length ≤ 1000000) : Ev (fun k => reckonerref01_Digits.f k l) (digitsL l) := by
  have h := Digits_loop l hl hn l.length 0 [] (by omega) rfl
  rw [List.drop_zero, List.nil_append] at h
  exact h
/-! ### a row of digits -/
def rowL : List Int → List Int
  | a :: b :: l => (a + b * H32) :: rowL l
  | _ => []
theorem rowL_in : ∀ {d}, inB H32 d → inW (rowL d)
  | [], _ => inW_nil
  | [_], _ => inW_nil
  | a :: b :: l, h => by
    have h1 := inB_cons.1 h
    have h2 := inB_cons.1 h1.2
    have h3 := h1.1
    have h4 := h2.1
    rw [H32_eq] at h3 h4
    exact inW_cons.2 ⟨by unfold isW; rw [H32_eq, W64_eq]; omega, rowL_in h2.2⟩
theorem rowL_length : ∀ d, (rowL d).length = d.length / 2
  | [] => rfl
  | [_] => by simp [rowL]
  | a :: b :: l => by
    have h := rowL_length l
    show (rowL l).length + 1 = (l.length + 1 + 1) / 2
    omega
theorem rowL_val : ∀ d, d.length % 2 = 0 → valB W64 (rowL d) = valB H32 d
  | [], _ => rfl
  | [_], h => by simp at h
  | a :: b :: l, h => by
    show a + b * H32 + W64 * valB W64 (rowL l) = a + H32 * (b + H32 * valB H32 l)
    rw [rowL_val l (by simp at h; omega), Int.mul_add, ← Int.mul_assoc, H32_sq, Int.mul_comm b]
    omega
theorem Row_loop (d : List Int) (hd : inB H32 d) (hn : d.length ≤ 4000000) : ∀ n i acc, 2 * (i + n) = d.length ∨ 2 * (i + n) + 1 = d.length → acc.length = i → Ev (fun k => reckonerref01_Row.l0 k d acc ((2 * i : Nat) : Int)) (acc ++ rowL (d.drop (2 * i)))
  | 0, i, acc, h, _ => by
    have e : rowL (d.drop (2 * i)) = [] := by
      have h1 : (d.drop (2 * i)).length ≤ 1 := by rw [List.length_drop]; omega
      match hm : d.drop (2 * i), h1 with
      | [], _ => rfl
      | [_], _ => rfl
      | _ :: _ :: _, h1 => simp at h1
    rw [e, List.append_nil]
    refine Ev.now' fun k => ?_
    have e1 : wrap64 (((2 * i : Nat) : Int) + 1) = ((2 * i + 1 : Nat) : Int) := by rw [← w64_nat (2 * i + 1) (by omega)]; rfl
    rw [reckonerref01_Row.l0, e1, if_neg (by omega)]
  | n + 1, i, acc, h, ha => by
    have hi : 2 * i < d.length := by omega
    have hi1 : 2 * i + 1 < d.length := by omega
    have ih := Row_loop d hd hn n (i + 1) (acc ++ [d[2 * i] + d[2 * i + 1] * H32]) (by omega) (by simp [ha])
    have h1 := hd _ (List.getElem_mem hi)
    have h2 := hd _ (List.getElem_mem hi1)
    rw [H32_eq] at h1 h2
    rw [List.drop_eq_getElem_cons hi, List.drop_eq_getElem_cons hi1]
    have e : acc ++ rowL (d[2 * i] :: d[2 * i + 1] :: d.drop (2 * i + 1 + 1)) = (acc ++ [d[2 * i] + d[2 * i + 1] * H32]) ++ rowL (d.drop (2 * (i + 1))) := by simp [rowL, Nat.mul_add]
    rw [e]
    refine Ev.step (fun k => ?_) ih
    have hg : d.getD (2 * i) 0 = d[2 * i] := by simp [List.getD_eq_getElem?_getD, List.getElem?_eq_getElem hi]
    have hg1 : d.getD (2 * i + 1) 0 = d[2 * i + 1] := by simp [List.getD_eq_getElem?_getD, List.getElem?_eq_getElem hi1]
    have e1 : wrap64 (((2 * i : Nat) : Int) + 1) = ((2 * i + 1 : Nat) : Int) := by rw [← w64_nat (2 * i + 1) (by omega)]; rfl
    have e2 : wrap64 (((2 * i : Nat) : Int) + 2) = ((2 * (i + 1) : Nat) : Int) := by rw [← w64_nat (2 * (i + 1)) (by omega)]; rfl
    rw [reckonerref01_Row.l0, e1, if_pos (by omega), if_pos (by omega), if_pos (by omega), if_pos (by omega), if_pos (by omega), rd_nat, rd_nat, hg, hg1, e2, wrapW (d[2 * i + 1] * 4294967296) (by omega) (by omega), wrapW _ (by omega) (by omega)]
    rfl
theorem Row_ev (d : List Int) (hd : inB H32 d) (hn : d.length ≤ 4000000) : Ev (fun k => reckonerref01_Row.f k d) (rowL d) := by
  have h := Row_loop d hd hn (d.length / 2) 0 [] (by omega) rfl
  rw [List.drop_zero, List.nil_append] at h
  exact h
/-! ### a digit, 0 beyond the end -/
theorem digit_some (a : List Int) (i : Nat) : reckonerref01_digit.f a (i : Int) = some (a.getD i 0) := by
  unfold reckonerref01_digit.f
  by_cases h : i < a.length
  · rw [if_pos (by omega), if_pos (by omega), rd_nat]
  · rw [if_neg (by omega)]
    simp [List.getD_eq_getElem?_getD, List.getElem?_eq_none (by omega : a.length ≤ i)]
/-! ### sums -/
def plusS (a b : List Int) (i : Nat) (c : Int) : Int × Int := ((c + a.getD i 0 + b.getD i 0) % H32, (c + a.getD i 0 + b.getD i 0) / H32)
theorem plusS_ok {a b : List Int} (ha : inB H32 a) (hb : inB H32 b) (i : Nat) {c : Int} (hc : 0 ≤ c ∧ c ≤ 1) :
    (0 ≤ (plusS a b i c).2 ∧ (plusS a b i c).2 ≤ 1) ∧ (0 ≤ (plusS a b i c).1 ∧ (plusS a b i c).1 < H32) ∧ (plusS a b i c).1 + H32 * (1 * (plusS a b i c).2) = (a.getD i 0 + b.getD i 0) + 1 * c := by
  have h1 := inB_getD H32_pos ha i
  have h2 := inB_getD H32_pos hb i
  unfold plusS
  simp only [H32_eq] at *
  omega
theorem Plus_loop (a b : List Int) (ha : inB H32 a) (hb : inB H32 b) (hn : a.length ≤ 4000000) (hm : b.length ≤ 4000000) : ∀ n i c (acc : List Int), i + n = max a.length b.length → acc.length = i → 0 ≤ c ∧ c ≤ 1 →
    Ev (fun k => reckonerref01_Plus.l0 k a b acc c (i : Int)) (acc ++ (carryL (plusS a b) n i c).1 ++ [(carryL (plusS a b) n i c).2])
  | 0, i, c, acc, h, hacc, hc => by
    refine Ev.step (f := fun k => reckonerref01_Plus.j1 k a b acc c (i : Int) false) (fun k => ?_) (Ev.now' fun k => ?_)
    · rw [reckonerref01_Plus.l0, if_neg (by omega)]
      have e : decide ((i : Int) < (b.length : Int)) = false := decide_eq_false (by omega)
      rw [e]
    · rw [reckonerref01_Plus.j1, if_neg (by decide), if_pos (by omega)]
      simp [carryL]
  | n + 1, i, c, acc, h, hacc, hc => by
    have q1 : acc.length < 17592186044416 := by omega
    have q2 : ¬ (i : Int) < (a.length : Int) → (i : Int) < (b.length : Int) := by omega
    have h1 := inB_getD H32_pos ha i
    have h2 := inB_getD H32_pos hb i
    rw [H32_eq] at h1 h2
    have q3 : IntKind.u64.wrap (c + a.getD i 0) = c + a.getD i 0 := wrapW _ (by omega) (by omega)
    have q4 : 0 ≤ c + a.getD i 0 + b.getD i 0 ∧ c + a.getD i 0 + b.getD i 0 < 18446744073709551616 := by omega
    have q5 : 0 ≤ (c + a.getD i 0 + b.getD i 0) / H32 ∧ (c + a.getD i 0 + b.getD i 0) / H32 < 18446744073709551616 := by rw [H32_eq]; omega
    have e1 : wrap64 ((i : Int) + 1) = ((i + 1 : Nat) : Int) := by rw [← w64_nat (i + 1) (by omega)]; rfl
    obtain ⟨k1, k2, _⟩ := plusS_ok ha hb i hc
    have ih := Plus_loop a b ha hb hn hm n (i + 1) (plusS a b i c).2 (acc ++ [(plusS a b i c).1]) (by omega) (by simp [hacc]) k1
    have e : acc ++ (carryL (plusS a b) (n + 1) i c).1 ++ [(carryL (plusS a b) (n + 1) i c).2] = (acc ++ [(plusS a b i c).1]) ++ (carryL (plusS a b) n (i + 1) (plusS a b i c).2).1 ++ [(carryL (plusS a b) n (i + 1) (plusS a b i c).2).2] := by simp [carryL]
    rw [e]
    refine Ev.step (f := fun k => reckonerref01_Plus.j1 k a b acc c (i : Int) true) (fun k => ?_) (Ev.step (fun k => ?_) ih)
    · show reckonerref01_Plus.l0 (k + 1) a b acc c (i : Int) = reckonerref01_Plus.j1 k a b acc c (i : Int) true
      rw [reckonerref01_Plus.l0]
      by_cases hl : (i : Int) < (a.length : Int)
      · exact if_pos hl
      · have e : decide ((i : Int) < (b.length : Int)) = true := decide_eq_true (q2 hl)
        exact (if_neg hl).trans (by rw [e])
    · rw [reckonerref01_Plus.j1, if_pos rfl, digit_some, digit_some, Option.bind_some, Option.bind_some, if_pos q1, e1, q3, wrapW _ q4.1 q4.2, tmodH _ q4.1, tdivH _ q4.1, wrapW _ q5.1 q5.2]
      rfl
/-- A sum of digits. -/
theorem Plus_ev (a b : List Int) (ha : inB H32 a) (hb : inB H32 b) (hn : a.length ≤ 4000000) (hm : b.length ≤ 4000000) :
    ∃ r, Ev (fun k => reckonerref01_Plus.f k a b) r ∧ inB H32 r ∧ r.length = max a.length b.length + 1 ∧ valB H32 r = valB H32 a + valB H32 b := by
  have h := Plus_loop a b ha hb hn hm (max a.length b.length) 0 0 [] (by omega) rfl ⟨Int.le_refl 0, by decide⟩
  obtain ⟨k1, k2, k3⟩ := carryL_val H32 (plusS a b) (fun i => a.getD i 0 + b.getD i 0) 1 (fun c => 0 ≤ c ∧ c ≤ 1) (max a.length b.length) 0 0 ⟨Int.le_refl 0, by decide⟩ (fun j _ _ c hc => plusS_ok ha hb j hc)
  have kl := carryL_length (plusS a b) (max a.length b.length) 0 0
  rw [List.nil_append] at h
  refine ⟨_, h, inB_append.2 ⟨k2, inB_cons.2 ⟨⟨k1.1, by have := k1.2; rw [H32_eq]; omega⟩, inB_nil⟩⟩, by simp [kl], ?_⟩
  rw [valB_append, kl]
  rw [sumB_add, sumB_pad H32 a _ (Nat.le_max_left _ _), sumB_pad H32 b _ (Nat.le_max_right _ _)] at k3
  simp only [valB, Int.mul_zero, Int.add_zero, Int.one_mul] at k3 ⊢
  exact k3
/-! ### differences -/
/-! ### two rows the same -/
theorem Same_loop (a b : List Int) (hl : a.length = b.length) (hn : a.length ≤ 1000000) : ∀ n i, i + n = a.length → a.take i = b.take i → Ev (fun k => reckonerref01_Same.l0 k a b (i : Int)) (decide (a = b))
  | 0, i, h, ht => by
    refine Ev.now' fun k => ?_
    rw [List.take_of_length_le (by omega), List.take_of_length_le (by omega)] at ht
    rw [reckonerref01_Same.l0, if_neg (by omega), decide_eq_true ht]
  | n + 1, i, h, ht => by
    have e1 : wrap64 ((i : Int) + 1) = ((i + 1 : Nat) : Int) := by rw [← w64_nat (i + 1) (by omega)]; rfl
    have hi : i < a.length := by omega
    have hi' : i < b.length := by omega
    have ga : a.getD i 0 = a[i] := by simp [List.getD_eq_getElem?_getD, List.getElem?_eq_getElem hi]
    have gb : b.getD i 0 = b[i] := by simp [List.getD_eq_getElem?_getD, List.getElem?_eq_getElem hi']
    by_cases hs : a[i] = b[i]
    · refine Ev.step (fun k => ?_) (Same_loop a b hl hn n (i + 1) (by omega) ?_)
      · rw [reckonerref01_Same.l0, if_pos (by omega), if_pos (by omega), if_pos (by omega), rd_nat, rd_nat, ga, gb, if_pos hs, e1]
      · rw [List.take_succ_eq_append_getElem hi, List.take_succ_eq_append_getElem hi', ht, hs]
    · refine Ev.now' fun k => ?_
      rw [reckonerref01_Same.l0, if_pos (by omega), if_pos (by omega), if_pos (by omega), rd_nat, rd_nat, ga, gb, if_neg hs]
      rw [decide_eq_false]
      rintro rfl
      exact hs rfl
theorem RSame_ev (a b : List Int) (hn : a.length ≤ 1000000) : Ev (fun k => reckonerref01_Same.f k a b) (decide (a = b)) := by
  by_cases hl : a.length = b.length
  · refine Ev.congr (fun k => ?_) (Same_loop a b hl hn a.length 0 (by omega) rfl)
    show reckonerref01_Same.f k a b = _
    unfold reckonerref01_Same.f
    rw [if_pos (by omega)]
    rfl
  · refine Ev.congr (f := fun _ => some (decide (a = b))) (fun k => ?_) (Ev.now _)
    show reckonerref01_Same.f k a b = _
    unfold reckonerref01_Same.f
    rw [if_neg (by omega), decide_eq_false (fun e => hl (by rw [e]))]
end Go.Proofs.Ytkkkbalefnileaa.Ex
/- The reference's Cut, Add, Sub (printed in Tx1, Tx2), and the row functions' results in values. -/
namespace Go.Proofs.Ytkkkbalefnileaa.Ex
open Go.RowKit Go.Proofs.YtkkkbalefnileaaW.PrintWords Go.Proofs.YtkkkbalefnileaaW.PrintLast Go.Proofs.YtkkkbalefnileaaW.PrintMore Go.Proofs.Ytkkkbalefnileaa.T
set_option linter.unusedVariables false
set_option linter.unusedSimpArgs false

theorem H32_pow (n : Nat) : H32 ^ (2 * n) = W64 ^ n := by
  rw [Int.pow_mul, show H32 ^ 2 = W64 by decide]
/-- The value of a row's two highest digits. -/
theorem getD_two {d : List Int} (n : Nat) (h : n + 2 ≤ d.length) : d.drop n = d.getD n 0 :: d.getD (n + 1) 0 :: d.drop (n + 2) := by
  have h1 : n < d.length := by omega
  have h2 : n + 1 < d.length := by omega
  rw [List.drop_eq_getElem_cons h1, List.drop_eq_getElem_cons h2]
  simp [List.getD_eq_getElem?_getD, List.getElem?_eq_getElem h1, List.getElem?_eq_getElem h2]
/-- What Cut makes of digits that are enough. -/
theorem Cut_done (d : List Int) (hd : inB H32 d) (n : Nat) (hn : n ≤ 1000000) (hm : d.length ≤ 4000000) (hl : 2 * n + 2 ≤ d.length) :
    Ev (fun k => reckonerref01_Cut.l0 k (n : Int) d) (rowL (d.take (2 * n)), d.getD (2 * n) 0 + d.getD (2 * n + 1) 0 * H32) := by
  have e1 : wrap64 (2 * (n : Int)) = ((2 * n : Nat) : Int) := by rw [← w64_nat (2 * n) (by omega)]; rfl
  have e2 : wrap64 (((2 * n : Nat) : Int) + 2) = ((2 * n + 2 : Nat) : Int) := by rw [← w64_nat (2 * n + 2) (by omega)]; rfl
  have e3 : wrap64 (((2 * n : Nat) : Int) + 1) = ((2 * n + 1 : Nat) : Int) := by rw [← w64_nat (2 * n + 1) (by omega)]; rfl
  have h1 := inB_getD H32_pos hd (2 * n)
  have h2 := inB_getD H32_pos hd (2 * n + 1)
  rw [H32_eq] at h1 h2
  have q1 : ¬ (d.length : Int) < ((2 * n + 2 : Nat) : Int) := by omega
  have q2 : (0 : Int) ≤ ((2 * n : Nat) : Int) := by omega
  have q3 : ((2 * n : Nat) : Int) ≤ (d.length : Int) := by omega
  have q4 : ((2 * n : Nat) : Int) < (d.length : Int) := by omega
  have q5 : (0 : Int) ≤ ((2 * n + 1 : Nat) : Int) := by omega
  have q6 : ((2 * n + 1 : Nat) : Int) < (d.length : Int) := by omega
  have q7 : IntKind.u64.wrap (d.getD (2 * n + 1) 0 * 4294967296) = d.getD (2 * n + 1) 0 * 4294967296 := wrapW _ (by omega) (by omega)
  have q8 : IntKind.u64.wrap (d.getD (2 * n) 0 + d.getD (2 * n + 1) 0 * 4294967296) = d.getD (2 * n) 0 + d.getD (2 * n + 1) 0 * 4294967296 := wrapW _ (by omega) (by omega)
  have hR := Row_ev (d.take (2 * n)) (inB_take hd _) (by rw [List.length_take]; omega)
  refine Ev.step (f := fun k => (reckonerref01_Row.f k (d.take (2 * n))).bind fun t => some (t, d.getD (2 * n) 0 + d.getD (2 * n + 1) 0 * H32)) (fun k => ?_) (Ev.bind hR (Ev.now _))
  rw [reckonerref01_Cut.l0, e1, e2, e3, if_neg q1, if_pos q2, if_pos q3, Int.toNat_natCast]
  simp only [if_pos q4, if_pos q5, if_pos q6, rd_nat, q7, q8]
  rfl
/-- Cut: the row of n words, and the word above it; what digits there are beyond that is left out. -/
theorem Cut_loop (n : Nat) (hn : n ≤ 1000000) : ∀ m (d : List Int), inB H32 d → d.length ≤ 4000000 → 2 * n + 2 - d.length = m →
    ∃ r t, Ev (fun k => reckonerref01_Cut.l0 k (n : Int) d) (r, t) ∧ inW r ∧ r.length = n ∧ isW t ∧ valB W64 r + W64 ^ n * t = valB H32 d % (W64 ^ n * W64)
  | 0, d, hd, hm, hl => by
    have h1 := inB_getD H32_pos hd (2 * n)
    have h2 := inB_getD H32_pos hd (2 * n + 1)
    have hl2 : 2 * n + 2 ≤ d.length := by omega
    have hlt : (d.take (2 * n)).length = 2 * n := by rw [List.length_take]; omega
    refine ⟨_, _, Cut_done d hd n hn hm hl2, rowL_in (inB_take hd _), by rw [rowL_length, hlt]; omega, ?_, ?_⟩
    · rw [H32_eq] at h1 h2
      unfold isW
      rw [H32_eq, W64_eq]
      omega
    · rw [rowL_val _ (by rw [hlt]; omega)]
      have e1 : W64 ^ n * W64 = H32 ^ (2 * n + 2) := by rw [show 2 * n + 2 = 2 * (n + 1) by omega, H32_pow, Int.pow_succ]
      rw [e1, ← valB_take H32_pos hd (2 * n + 2) hl2, valB_split H32 (d.take (2 * n + 2)) (2 * n) (by rw [List.length_take]; omega), List.take_take, Nat.min_eq_left (by omega : 2 * n ≤ 2 * n + 2), H32_pow]
      congr 1
      have e2 : (d.take (2 * n + 2)).drop (2 * n) = [d.getD (2 * n) 0, d.getD (2 * n + 1) 0] := by
        rw [List.drop_take, getD_two (2 * n) hl2]
        simp
      rw [e2]
      congr 1
      simp [valB, Int.mul_comm]
  | m + 1, d, hd, hm, hl => by
    have e1 : wrap64 (2 * (n : Int)) = ((2 * n : Nat) : Int) := by rw [← w64_nat (2 * n) (by omega)]; rfl
    have e2 : wrap64 (((2 * n : Nat) : Int) + 2) = ((2 * n + 2 : Nat) : Int) := by rw [← w64_nat (2 * n + 2) (by omega)]; rfl
    have q1 : (d.length : Int) < ((2 * n + 2 : Nat) : Int) := by omega
    have q2 : d.length < 17592186044416 := by omega
    have ho : inB H32 (d ++ [0]) := inB_append.2 ⟨hd, inB_cons.2 ⟨⟨Int.le_refl 0, H32_pos⟩, inB_nil⟩⟩
    obtain ⟨r, t, h1, h2⟩ := Cut_loop n hn m (d ++ [0]) ho (by simp; omega) (by simp; omega)
    refine ⟨r, t, Ev.step (fun k => ?_) h1, ?_⟩
    · rw [reckonerref01_Cut.l0, e1, e2, if_pos q1, if_pos q2]
    · have e3 : valB H32 (d ++ [0]) = valB H32 d := by rw [valB_append]; simp [valB]
      rw [e3] at h2
      exact h2
theorem Cut_ev (n : Nat) (hn : n ≤ 1000000) (d : List Int) (hd : inB H32 d) (hm : d.length ≤ 4000000) :
    ∃ r t, Ev (fun k => reckonerref01_Cut.f k d (n : Int)) (r, t) ∧ inW r ∧ r.length = n ∧ isW t ∧ valB W64 r + W64 ^ n * t = valB H32 d % (W64 ^ n * W64) := by
  obtain ⟨r, t, h1, h2⟩ := Cut_loop n hn _ d hd hm rfl
  refine ⟨r, t, ?_, h2⟩
  have q : (([] : List Int).length + d.length < 17592186044416) := by simp; omega
  refine Ev.congr (fun k => ?_) h1
  show reckonerref01_Cut.f k d (n : Int) = _
  unfold reckonerref01_Cut.f
  rw [if_pos q, List.nil_append]
end Go.Proofs.Ytkkkbalefnileaa.Ex
/- The reference's Word and Times (printed in Tx4, Tx5). -/
namespace Go.Proofs.Ytkkkbalefnileaa.Ex
open Go.RowKit Go.Proofs.YtkkkbalefnileaaW.PrintWords Go.Proofs.YtkkkbalefnileaaW.PrintLast Go.Proofs.YtkkkbalefnileaaW.PrintMore Go.Proofs.Ytkkkbalefnileaa.T
set_option linter.unusedVariables false
set_option linter.unusedSimpArgs false

theorem w64_add (a b : Nat) (h : a + b < 4611686018427387904) : wrap64 ((a : Int) + (b : Int)) = ((a + b : Nat) : Int) := by rw [← Int.natCast_add]; exact w64_nat (a + b) h
theorem w64_sub1 (n : Nat) (h : n < 4611686018427387904) : wrap64 (((n + 1 : Nat) : Int) - 1) = (n : Int) := by rw [← w64_nat n h]; congr 1; omega
theorem lin5 (u v o c p : Int) (h : u + v = c + o + p) : (u - o) + v = c + p := by omega
theorem Word_some (w : Int) (hw : isW w) : reckonerref01_Word.f w = some [w % H32, w / H32] := by
  have h0 := hw.1
  have h1 := hw.2
  rw [W64_eq] at h1
  have q : 0 ≤ w / H32 ∧ w / H32 < 18446744073709551616 := by rw [H32_eq]; omega
  unfold reckonerref01_Word.f
  rw [tmodH _ h0, tdivH _ h0, wrapW _ q.1 q.2]
theorem word_in (w : Int) (hw : isW w) : inB H32 [w % H32, w / H32] := digitsL_in (inW_cons.2 ⟨hw, inW_nil⟩)
theorem word_val (w : Int) : valB H32 [w % H32, w / H32] = w := by
  have h := digitsL_val [w]
  simpa [digitsL, valB] using h
/-- What holds of a product's digits between two rounds. -/
structure Prod (a b out : List Int) (i : Nat) : Prop where
  len : out.length = a.length + b.length
  dig : inB H32 out
  zero : ∀ j, i + b.length ≤ j → out.getD j 0 = 0
theorem getD_set (l : List Int) (i j : Nat) (x : Int) : (l.set i x).getD j 0 = if i = j ∧ i < l.length then x else l.getD j 0 := by
  simp only [List.getD_eq_getElem?_getD, List.getElem?_set]
  by_cases h : i = j
  · subst h
    by_cases h1 : i < l.length
    · simp [h1]
    · simp [h1]
  · simp [h]
def Good (a b r : List Int) : Prop := inB H32 r ∧ r.length = a.length + b.length ∧ valB H32 r = valB H32 a * valB H32 b
theorem Times_inner (a b : List Int) (ha : inB H32 a) (hb : inB H32 b) (hn : a.length ≤ 1000000) (hm : b.length ≤ 1000000) (i : Nat) (hi : i < a.length)
    (hO : ∀ out, Prod a b out (i + 1) → valB H32 out = valB H32 (a.take (i + 1)) * valB H32 b → ∃ r, Ev (fun k => reckonerref01_Times.l0 k a b out ((i + 1 : Nat) : Int)) r ∧ Good a b r) :
    ∀ (n kk : Nat) (out : List Int) (c : Int), kk + n = b.length → Prod a b out i → (0 ≤ c ∧ c < H32) → valB H32 out + H32 ^ (i + kk) * c = valB H32 (a.take i) * valB H32 b + H32 ^ i * (a.getD i 0 * valB H32 (b.take kk)) →
      ∃ r, Ev (fun k => reckonerref01_Times.l1 k a b out (i : Int) c (kk : Int)) r ∧ Good a b r
  | 0, kk, out, c, hk, hP, hc, hv => by
    have HV := Aside0.mk hv
    clear hv
    obtain rfl : kk = b.length := by omega
    have hlen := hP.len
    have q1 : i + b.length < out.length := by omega
    have q2 : ¬ (b.length : Int) < (b.length : Int) := by omega
    have q3 : (0 : Int) ≤ ((i + b.length : Nat) : Int) := by omega
    have q4 : ((i + b.length : Nat) : Int) < (out.length : Int) := by omega
    have e1 : wrap64 ((i : Int) + (b.length : Int)) = ((i + b.length : Nat) : Int) := w64_add i b.length (by omega)
    have e2 : wrap64 ((i : Int) + 1) = ((i + 1 : Nat) : Int) := by rw [← w64_nat (i + 1) (by omega)]; rfl
    have hz := hP.zero (i + b.length) (Nat.le_refl _)
    obtain ⟨r, h1, h2⟩ := hO (out.set (i + b.length) c) ⟨by rw [List.length_set]; exact hlen, inB_set hP.dig _ hc, fun j hj => by
        rw [getD_set, if_neg (by omega)]
        exact hP.zero j (by omega)⟩ (by
        rw [valB_set H32 out _ c q1, hz, Int.sub_zero, HV.out, valB_take_succ H32 a i hi, List.take_of_length_le (Nat.le_refl _), Int.add_mul, Int.mul_assoc])
    refine ⟨r, Ev.step (fun k => ?_) h1, h2⟩
    rw [reckonerref01_Times.l1, if_neg q2, e1, if_pos q3, if_pos q4, Int.toNat_natCast, e2]
  | n + 1, kk, out, c, hk, hP, hc, hv => by
    have HV := Aside0.mk hv
    clear hv
    have hlen := hP.len
    have hk' : kk + 1 + n = b.length := by omega
    have hjj : ∀ j, i + b.length ≤ j → ¬ (i + kk = j ∧ i + kk < out.length) := by omega
    have hkb : kk < b.length := by omega
    have e1 : wrap64 ((i : Int) + (kk : Int)) = ((i + kk : Nat) : Int) := w64_add i kk (by omega)
    have e2 : wrap64 ((kk : Int) + 1) = ((kk + 1 : Nat) : Int) := by rw [← w64_nat (kk + 1) (by omega)]; rfl
    have q1 : (kk : Int) < (b.length : Int) := by omega
    have q2 : (0 : Int) ≤ ((i + kk : Nat) : Int) := by omega
    have q3 : ((i + kk : Nat) : Int) < (out.length : Int) := by omega
    have q4 : (0 : Int) ≤ (i : Int) := by omega
    have q5 : (i : Int) < (a.length : Int) := by omega
    have q6 : (0 : Int) ≤ (kk : Int) := by omega
    have q7 : i + kk < out.length := by omega
    have h1 := inB_getD H32_pos ha i
    have h2 := inB_getD H32_pos hb kk
    have h3 := inB_getD H32_pos hP.dig (i + kk)
    rw [H32_eq] at h1 h2 h3 hc
    have hmul : a.getD i 0 * b.getD kk 0 ≤ 18446744065119617025 := Int.le_trans (Int.mul_le_mul (show a.getD i 0 ≤ 4294967295 by omega) (show b.getD kk 0 ≤ 4294967295 by omega) h2.1 (by decide)) (by decide)
    have hmul0 : 0 ≤ a.getD i 0 * b.getD kk 0 := Int.mul_nonneg h1.1 h2.1
    obtain ⟨p, hp⟩ : ∃ p, p = a.getD i 0 * b.getD kk 0 := ⟨_, rfl⟩
    rw [← hp] at hmul hmul0
    have HPP := Aside0.mk hp
    clear hp
    have w1 : IntKind.u64.wrap (c + out.getD (i + kk) 0) = c + out.getD (i + kk) 0 := wrapW _ (by omega) (by omega)
    have w2 : IntKind.u64.wrap p = p := wrapW _ (by omega) (by omega)
    have w3 : 0 ≤ c + out.getD (i + kk) 0 + p ∧ c + out.getD (i + kk) 0 + p < 18446744073709551616 := by omega
    have w4 : 0 ≤ (c + out.getD (i + kk) 0 + p) / H32 ∧ (c + out.getD (i + kk) 0 + p) / H32 < 4294967296 := by rw [H32_eq]; omega
    have w5 : (c + out.getD (i + kk) 0 + p) / H32 < 18446744073709551616 := by omega
    have w6 : 0 ≤ (c + out.getD (i + kk) 0 + p) % H32 ∧ (c + out.getD (i + kk) 0 + p) % H32 < H32 := by rw [H32_eq]; omega
    have hdm := Int.emod_add_mul_ediv (c + out.getD (i + kk) 0 + p) H32
    obtain ⟨r, k1, k2⟩ := Times_inner a b ha hb hn hm i hi hO n (kk + 1) (out.set (i + kk) ((c + out.getD (i + kk) 0 + p) % H32)) ((c + out.getD (i + kk) 0 + p) / H32) hk'
      ⟨by rw [List.length_set]; exact hlen, inB_set hP.dig _ w6, fun j hj => by rw [getD_set, if_neg (hjj j hj)]; exact hP.zero j hj⟩ w4 (by
        rw [valB_set H32 out _ _ q7, valB_take_succ H32 b kk hkb, Int.mul_add (a.getD i 0), Int.mul_add (H32 ^ i), ← Int.add_assoc, ← HV.out]
        have e4 : H32 ^ i * (a.getD i 0 * (H32 ^ kk * b.getD kk 0)) = H32 ^ (i + kk) * p := by
          rw [HPP.out, Int.pow_add, Int.mul_left_comm (a.getD i 0), ← Int.mul_assoc]
        have e5 : H32 ^ (i + (kk + 1)) = H32 ^ (i + kk) * H32 := by rw [← Nat.add_assoc, Int.pow_succ]
        have e6 : H32 ^ (i + kk) * ((c + out.getD (i + kk) 0 + p) % H32 - out.getD (i + kk) 0) + H32 ^ (i + kk) * H32 * ((c + out.getD (i + kk) 0 + p) / H32) = H32 ^ (i + kk) * c + H32 ^ (i + kk) * p := by
          rw [Int.mul_assoc, ← Int.mul_add, ← Int.mul_add, lin5 _ _ _ _ _ hdm]
        rw [e4, e5, Int.add_assoc (valB H32 out), e6, ← Int.add_assoc])
    refine ⟨r, Ev.step (fun k => ?_) k1, k2⟩
    rw [reckonerref01_Times.l1, if_pos q1, e1, if_pos q2, if_pos q3, if_pos q4, if_pos q5, if_pos q6, rd_nat, rd_nat, rd_nat, ← HPP.out, w1, w2, wrapW _ w3.1 w3.2, tmodH _ w3.1, tdivH _ w3.1, wrapW _ w4.1 w5, e2, Int.toNat_natCast]
theorem Times_outer (a b : List Int) (ha : inB H32 a) (hb : inB H32 b) (hn : a.length ≤ 1000000) (hm : b.length ≤ 1000000) : ∀ (m i : Nat) (out : List Int), i + m = a.length → Prod a b out i → valB H32 out = valB H32 (a.take i) * valB H32 b →
      ∃ r, Ev (fun k => reckonerref01_Times.l0 k a b out (i : Int)) r ∧ Good a b r
  | 0, i, out, hi, hP, hv => by
    have q0 : a.length ≤ i := by clear hv; omega
    have q1 : ¬ (i : Int) < (a.length : Int) := by clear hv; omega
    rw [List.take_of_length_le q0] at hv
    exact ⟨out, Ev.now' fun k => by rw [reckonerref01_Times.l0, if_neg q1], hP.dig, hP.len, hv⟩
  | m + 1, i, out, hi, hP, hv => by
    have q1 : (i : Int) < (a.length : Int) := by clear hv; omega
    have q2 : i < a.length := by clear hv; omega
    have q3 : i + 1 + m = a.length := by clear hv; omega
    obtain ⟨r, h1, h2⟩ := Times_inner a b ha hb hn hm i q2 (fun out hP hv => Times_outer a b ha hb hn hm m (i + 1) out q3 hP hv) b.length 0 out 0 (Nat.zero_add _) hP ⟨Int.le_refl 0, H32_pos⟩ (by
      rw [List.take_zero]
      simp [valB, hv])
    exact ⟨r, Ev.step (fun k => by rw [reckonerref01_Times.l0, if_pos q1]; rfl) h1, h2⟩
/-- A product of digits. -/
theorem Times_ev (a b : List Int) (ha : inB H32 a) (hb : inB H32 b) (hn : a.length ≤ 1000000) (hm : b.length ≤ 1000000) : ∃ r, Ev (fun k => reckonerref01_Times.f k a b) r ∧ Good a b r := by
  obtain ⟨r, h1, h2⟩ := Times_outer a b ha hb hn hm a.length 0 (List.replicate (a.length + b.length) 0) (by omega)
    ⟨by simp, inB_zeros H32_pos _, fun j _ => by
        simp only [List.getD_eq_getElem?_getD, List.getElem?_replicate]
        split <;> rfl⟩ (by rw [valB_zeros, List.take_zero]; simp [valB])
  have e1 : wrap64 ((a.length : Int) + (b.length : Int)) = ((a.length + b.length : Nat) : Int) := w64_add a.length b.length (by omega)
  have q1 : (0 : Int) ≤ ((a.length + b.length : Nat) : Int) := by omega
  have q2 : a.length + b.length ≤ 35184372088832 := by omega
  refine ⟨r, Ev.congr (fun k => ?_) h1, h2⟩
  show reckonerref01_Times.f k a b = _
  unfold reckonerref01_Times.f
  rw [e1, if_pos q1, Int.toNat_natCast, if_pos q2]
  rfl
end Go.Proofs.Ytkkkbalefnileaa.Ex
/- The reference's Short. -/
namespace Go.Proofs.Ytkkkbalefnileaa.Ex
open Go.RowKit Go.Proofs.YtkkkbalefnileaaW.PrintWords Go.Proofs.YtkkkbalefnileaaW.PrintLast Go.Proofs.YtkkkbalefnileaaW.PrintMore Go.Proofs.Ytkkkbalefnileaa.T
set_option linter.unusedVariables false
set_option linter.unusedSimpArgs false

theorem pow_leB {n m : Nat} (h : n ≤ m) : H32 ^ n ≤ H32 ^ m := by
  obtain ⟨d, rfl⟩ : ∃ d, m = n + d := ⟨m - n, by omega⟩
  rw [Int.pow_add]
  have h1 := pow_posB H32_pos n
  have h2 := pow_posB H32_pos d
  have h3 : H32 ^ n * 1 ≤ H32 ^ n * H32 ^ d := Int.mul_le_mul_of_nonneg_left (by omega) (by omega)
  omega
/-! ### Short -/
theorem Short_stop (a : List Int) (n : Nat) (hn : n ≤ a.length) : (if 0 ≤ (n : Int) then (if (n : Int) ≤ (a.length : Int) then (some (a.take ((n : Int) : Int).toNat)) else (none)) else (none)) = some (a.take n) := by
  rw [if_pos (by omega), if_pos (by omega), Int.toNat_natCast]
theorem Short_loop (a : List Int) (hn : a.length ≤ 4000000) : ∀ n, n ≤ a.length → valB H32 (a.take n) = valB H32 a →
    ∃ m, m ≤ a.length ∧ Ev (fun k => reckonerref01_Short.l0 k a (n : Int)) (a.take m) ∧ valB H32 (a.take m) = valB H32 a ∧ (m = 0 ∨ a.getD (m - 1) 0 ≠ 0)
  | 0, h, hv => ⟨0, h, Ev.now' fun k => by
      have q : ¬ (((0 : Nat) : Int) > 0) := by decide
      rw [reckonerref01_Short.l0, if_neg q]
      exact Short_stop a 0 h, hv, Or.inl rfl⟩
  | n + 1, h, hv => by
    have q1 : (((n + 1 : Nat) : Int) > 0) := by omega
    have q2 : (0 : Int) ≤ (n : Int) := by omega
    have q3 : (n : Int) < (a.length : Int) := by omega
    have e1 := w64_sub1 n (by omega)
    by_cases hz : a.getD n 0 = 0
    · obtain ⟨m, m1, m2, m3⟩ := Short_loop a hn n (by omega) (by rw [← hv, valB_take_succ H32 a n (by omega), hz, Int.mul_zero, Int.add_zero])
      refine ⟨m, m1, Ev.step (fun k => ?_) m2, m3⟩
      rw [reckonerref01_Short.l0, if_pos q1, e1, if_pos q2, if_pos q3, rd_nat, if_pos hz]
    · refine ⟨n + 1, h, Ev.now' fun k => ?_, hv, Or.inr hz⟩
      rw [reckonerref01_Short.l0, if_pos q1, e1, if_pos q2, if_pos q3, rd_nat, if_neg hz]
      exact Short_stop a (n + 1) h
theorem Short_ev (a : List Int) (hn : a.length ≤ 4000000) : ∃ m, m ≤ a.length ∧ Ev (fun k => reckonerref01_Short.f k a) (a.take m) ∧ valB H32 (a.take m) = valB H32 a ∧ (m = 0 ∨ a.getD (m - 1) 0 ≠ 0) :=
  Short_loop a hn a.length (Nat.le_refl _) (by rw [List.take_of_length_le (Nat.le_refl _)])
end Go.Proofs.Ytkkkbalefnileaa.Ex
/- The reference's functions on numbers. -/
namespace Go.Proofs.Ytkkkbalefnileaa.Ex
open Go.RowKit Go.Proofs.YtkkkbalefnileaaW.PrintWords Go.Proofs.YtkkkbalefnileaaW.PrintLast Go.Proofs.YtkkkbalefnileaaW.PrintMore Go.Proofs.Ytkkkbalefnileaa.T
set_option linter.unusedVariables false
set_option linter.unusedSimpArgs false

theorem isW_of_wf {x : Int} (h : (Lit.int .u64 x).wf = true) : isW x := by
  have h1 : 0 ≤ x ∧ x ≤ 18446744073709551615 := by
    simp [Lit.wf, IntKind.min, IntKind.max, IntKind.signed, IntKind.bits] at h
    omega
  unfold isW
  rw [W64_eq]
  omega
theorem inW_of_wf {l : List Int} (h : ∀ x ∈ l, (Lit.int .u64 x).wf = true) : inW l := fun x hx => isW_of_wf (h x hx)
theorem inW_take {l : List Int} (h : inW l) (n : Nat) : inW (l.take n) := fun x hx => h x (List.mem_of_mem_take hx)
/-- A row of n words whose value has n words is the value's. -/
theorem can_of_len {r : List Int} (hr : inW r) (h : r = [] ∨ W64 ^ (r.length - 1) ≤ valB W64 r) : r = can (valB W64 r) := by
  have h0 := valW_nonneg hr
  rcases h with h | h
  · rw [h]; rfl
  · have h1 := can_high h0 h
    have h2 := can_le hr
    exact valB_inj W64_pos hr (can_in h0) (by omega) (can_val h0).symm
theorem RNat_ev (d : List Int) (hd : inB H32 d) (hm : d.length ≤ 1000000) : Ev (fun k => reckonerref02_nat.f k d) (can (valB H32 d)) := by
  obtain ⟨m, hm1, hs, hv, hnz⟩ := Short_ev d (by omega)
  have hdm : inB H32 (d.take m) := inB_take hd m
  have hlm : (d.take m).length = m := by rw [List.length_take]; omega
  obtain ⟨r, t, hc, hr1, hr2, hr3, hr4⟩ := Cut_ev ((m + 1) / 2) (by omega) (d.take m) hdm (by omega)
  have hlt := valB_lt H32_pos hdm
  have h0 := valB_nonneg H32_pos hdm
  rw [hlm] at hlt
  have hp : H32 ^ m ≤ W64 ^ ((m + 1) / 2) := by rw [← H32_pow]; exact pow_leB (by omega)
  have hpp := pow_posB W64_pos ((m + 1) / 2)
  have hmod : valB H32 (d.take m) % (W64 ^ ((m + 1) / 2) * W64) = valB H32 (d.take m) := by
    refine Int.emod_eq_of_lt h0 ?_
    have h1 : W64 ^ ((m + 1) / 2) * 1 ≤ W64 ^ ((m + 1) / 2) * W64 := Int.mul_le_mul_of_nonneg_left (by decide) (Int.le_of_lt hpp)
    rw [Int.mul_one] at h1
    omega
  rw [hmod, hv] at hr4
  rw [hv] at hlt h0
  have hrl := valB_lt W64_pos hr1
  have hr0 := valB_nonneg W64_pos hr1
  rw [hr2] at hrl
  have ht : t = 0 := by
    by_cases ht : t ≤ 0
    · have := hr3.1; omega
    · have h1 : W64 ^ ((m + 1) / 2) * 1 ≤ W64 ^ ((m + 1) / 2) * t := Int.mul_le_mul_of_nonneg_left (by omega) (Int.le_of_lt hpp)
      rw [Int.mul_one] at h1
      omega
  rw [ht, Int.mul_zero, Int.add_zero] at hr4
  have hcan : r = can (valB H32 d) := by
    have h1 := can_of_len hr1 (by
      rw [hr2]
      by_cases hm0 : m = 0
      · left; rw [hm0] at hr2; exact List.eq_nil_of_length_eq_zero hr2
      · right
        rw [hr4, ← hv]
        have h2 := valB_take_succ H32 d (m - 1) (by omega)
        rw [show m - 1 + 1 = m by omega] at h2
        rw [h2]
        have h3 := valB_nonneg H32_pos (inB_take hd (m - 1))
        have h4 : 1 ≤ d.getD (m - 1) 0 := by
          have h5 := (inB_getD H32_pos hd (m - 1)).1
          rcases hnz with h | h
          · exact (hm0 h).elim
          · omega
        have h6 : H32 ^ (m - 1) * 1 ≤ H32 ^ (m - 1) * d.getD (m - 1) 0 := Int.mul_le_mul_of_nonneg_left h4 (Int.le_of_lt (pow_posB H32_pos _))
        rw [Int.mul_one] at h6
        have h7 : W64 ^ ((m + 1) / 2 - 1) ≤ H32 ^ (m - 1) := by rw [← H32_pow]; exact pow_leB (by omega)
        omega)
    rw [hr4] at h1
    exact h1
  have e : wrap64 (Int.tdiv (wrap64 (((d.take m).length : Int) + 1)) 2) = (((m + 1) / 2 : Nat) : Int) := by
    rw [hlm, show ((m : Int) + 1) = ((m + 1 : Nat) : Int) by omega, w64_nat (m + 1) (by omega)]
    exact w64_nat ((m + 1) / 2) (by omega)
  refine Ev.bind hs ?_
  simp only [e]
  refine Ev.bind hc ?_
  rw [← hcan]
  exact Ev.now _
theorem RTrim_ev (x : List Int) (hx : inW x) (hn : x.length ≤ 400000) : Ev (fun k => reckonerref02_Trim.f k x) (can (valB W64 x)) := by
  have h := RNat_ev (digitsL x) (digitsL_in hx) (by rw [digitsL_length]; omega)
  rw [digitsL_val] at h
  exact Ev.bind (Digits_ev x hx (by omega)) (Ev.bind h (Ev.now _))
theorem RCan_some {x : List Int} (h : canL x) (hn : x.length ≤ 400000) : reckonerref02_Canonical.f x = some true := by
  unfold reckonerref02_Canonical.f
  by_cases h0 : x = []
  · subst h0; rfl
  · have hp : 0 < x.length := List.length_pos_iff.2 h0
    have e : wrap64 ((x.length : Int) - 1) = ((x.length - 1 : Nat) : Int) := by rw [← w64_nat (x.length - 1) (by omega)]; congr 1; omega
    have hl : x.getD (x.length - 1) 0 ≠ 0 := by
      intro e
      have h1 := canL_low h h0
      have h2 := valB_take_succ W64 x (x.length - 1) (by omega)
      rw [List.take_of_length_le (by omega), e, Int.mul_zero, Int.add_zero] at h2
      have h3 := valB_lt W64_pos (inB_take (canL_in h) (x.length - 1))
      rw [List.length_take, Nat.min_eq_left (by omega)] at h3
      omega
    rw [if_neg (by omega), e, if_pos (by omega), if_pos (by omega), rd_nat, bne_iff_ne.2 hl]
theorem RIs_ev {v : Int} (y : List Int) (hy : inW y) (hn : y.length ≤ 400000) (h : valB W64 y = v) : Ev (fun k => reckonerref02_Is.f k (can v) y) true := by
  have hv : 0 ≤ v := by rw [← h]; exact valW_nonneg hy
  have hl := can_le hy
  rw [h] at hl
  have ht := RTrim_ev y hy hn
  rw [h] at ht
  have hs := RSame_ev (can v) (can v) (by omega)
  rw [decide_eq_true rfl] at hs
  refine Ev.congr (f := fun k => (reckonerref02_Trim.f k y).bind fun t => (reckonerref01_Same.f k (can v) t).bind fun t => some t) (fun k => ?_) (Ev.bind ht (Ev.bind hs (Ev.now true)))
  show reckonerref02_Is.f k (can v) y = _
  unfold reckonerref02_Is.f
  rw [RCan_some (can_canL hv) (by omega), Option.bind_some, if_pos rfl]
theorem RWord_ev (w : Int) (hw : isW w) : Ev (fun k => reckonerref02_FromWord.f k w) (can w) := by
  have h := RNat_ev [w % H32, w / H32] (word_in w hw) (by simp)
  rw [word_val] at h
  refine Ev.congr (f := fun k => (reckonerref02_nat.f k [w % H32, w / H32]).bind fun t => some t) (fun k => ?_) (Ev.bind h (Ev.now _))
  show reckonerref02_FromWord.f k w = _
  unfold reckonerref02_FromWord.f
  rw [Word_some w hw, Option.bind_some]
theorem RAdd_ev (x y : List Int) (hx : inW x) (hy : inW y) (hn : x.length ≤ 400000) (hm : y.length ≤ 400000) : Ev (fun k => reckonerref02_Add.f k x y) (can (valB W64 x + valB W64 y)) := by
  obtain ⟨p, hp1, hp2, hp3, hp4⟩ := Plus_ev (digitsL x) (digitsL y) (digitsL_in hx) (digitsL_in hy) (by rw [digitsL_length]; omega) (by rw [digitsL_length]; omega)
  rw [digitsL_length, digitsL_length] at hp3
  rw [digitsL_val, digitsL_val] at hp4
  have h := RNat_ev p hp2 (by omega)
  rw [hp4] at h
  exact Ev.bind (Digits_ev x hx (by omega)) (Ev.bind (Digits_ev y hy (by omega)) (Ev.bind hp1 (Ev.bind h (Ev.now _))))
theorem RMul_ev (x y : List Int) (hx : inW x) (hy : inW y) (hn : x.length ≤ 200000) (hm : y.length ≤ 200000) : Ev (fun k => reckonerref02_Mul.f k x y) (can (valB W64 x * valB W64 y)) := by
  obtain ⟨p, hp1, hp2, hp3, hp4⟩ := Times_ev (digitsL x) (digitsL y) (digitsL_in hx) (digitsL_in hy) (by rw [digitsL_length]; omega) (by rw [digitsL_length]; omega)
  rw [digitsL_length, digitsL_length] at hp3
  rw [digitsL_val, digitsL_val] at hp4
  have h := RNat_ev p hp2 (by omega)
  rw [hp4] at h
  exact Ev.bind (Digits_ev x hx (by omega)) (Ev.bind (Digits_ev y hy (by omega)) (Ev.bind hp1 (Ev.bind h (Ev.now _))))
end Go.Proofs.Ytkkkbalefnileaa.Ex
/- The reference's Parse; what every law asks beside: awake. -/
namespace Go.Proofs.Ytkkkbalefnileaa.Ex
open Go.RowKit Go.Proofs.YtkkkbalefnileaaW.PrintWords Go.Proofs.YtkkkbalefnileaaW.PrintLast Go.Proofs.YtkkkbalefnileaaW.PrintMore Go.Proofs.Ytkkkbalefnileaa.T
set_option linter.unusedVariables false
set_option linter.unusedSimpArgs false

/-- The number of the digits from place i on, behind v. -/
def pv (s : ByteArray) : Nat → Nat → Int → Int
  | _, 0, v => v
  | i, n + 1, v => pv s (i + 1) n (v * 10 + (bt s (i : Int) - 48) % 256)
theorem Parse_loop (s : ByteArray) (hs : s.size ≤ 1000) (n : Nat) : ∀ (i : Nat) (v : Int), i + n = s.size → 0 ≤ v → v < W64 ^ (i + 1) → Ev (fun k => reckonerref02_Parse.l0 k s (can v) (i : Int)) (can (pv s i n v)) := by
  induction n with
  | zero =>
    intro i v hi h0 h1
    refine Ev.now' fun k => ?_
    rw [reckonerref02_Parse.l0, if_neg (by omega)]
    rfl
  | succ n IH =>
    intro i v hi h0 h1
    have e1 : wrap64 ((i : Int) + 1) = ((i + 1 : Nat) : Int) := by rw [← w64_nat (i + 1) (by omega)]; rfl
    have hd0 : 0 ≤ (bt s (i : Int) - 48) % 256 := Int.emod_nonneg _ (by decide)
    have hd1 : (bt s (i : Int) - 48) % 256 < 256 := Int.emod_lt_of_pos _ (by decide)
    have hdw : isW ((bt s (i : Int) - 48) % 256) := by unfold isW; rw [W64_eq]; omega
    have htw : isW 10 := by decide
    have hl := can_short h0 h1
    have r1 := RWord_ev 10 htw
    have r2 := RMul_ev (can v) (can 10) (can_in h0) (can_in (by decide)) (by omega) (by decide)
    rw [can_val h0, can_val (by decide)] at r2
    have r3 := RWord_ev _ hdw
    have hp := pow_posB W64_pos (i + 1)
    have hb : v * 10 + (bt s (i : Int) - 48) % 256 < W64 ^ (i + 1 + 1) := by
      rw [Int.pow_succ _ (i + 1)]
      have h2 : W64 ^ (i + 1) * 1000 ≤ W64 ^ (i + 1) * W64 := Int.mul_le_mul_of_nonneg_left (by decide) (Int.le_of_lt hp)
      omega
    have hm0 : 0 ≤ v * 10 := by omega
    have hm1 : v * 10 < W64 ^ (i + 1 + 1) := by omega
    have hml := can_short hm0 hm1
    have hwl : (can ((bt s (i : Int) - 48) % 256)).length ≤ 1 := can_short hd0 (by rw [Int.pow_succ, Int.pow_zero, Int.one_mul]; exact hdw.2)
    have r4 := RAdd_ev (can (v * 10)) (can ((bt s (i : Int) - 48) % 256)) (can_in hm0) (can_in hd0) (by omega) (by omega)
    rw [can_val hm0, can_val hd0] at r4
    have ih := IH (i + 1) (v * 10 + (bt s (i : Int) - 48) % 256) (by omega) (by omega) hb
    refine Ev.step (f := fun k => (reckonerref02_FromWord.f k 10).bind fun t => (reckonerref02_Mul.f k (can v) t).bind fun t2 => (reckonerref02_FromWord.f k ((bt s (i : Int) - 48) % 256)).bind fun t3 => (reckonerref02_Add.f k t2 t3).bind fun t4 => reckonerref02_Parse.l0 k s t4 ((i + 1 : Nat) : Int)) (fun k => ?_) (Ev.bind r1 (Ev.bind r2 (Ev.bind r3 (Ev.bind r4 ih))))
    show reckonerref02_Parse.l0 (k + 1) s (can v) (i : Int) = _
    rw [reckonerref02_Parse.l0, if_pos (by omega)]
    simp only [if_pos (show (0 : Int) ≤ (i : Int) by omega), e1]
theorem Parse_ev (s : ByteArray) (hs : s.size ≤ 1000) (v : Int) (h : pv s 0 s.size 0 = v) : Ev (fun k => reckonerref02_Parse.f k s) (can v) := by
  have h1 := Parse_loop s hs s.size 0 0 (by omega) (Int.le_refl 0) (by decide)
  rw [h] at h1
  exact h1
theorem aw1 : nat_Pow.f [10] 20 = some (can 100000000000000000000, 0) := by
  have e : valB W64 [10] ^ (20 : Int).toNat = 100000000000000000000 := by decide
  have hl : (can 100000000000000000000).length ≤ 4096 := Nat.le_trans (can_short (n := 2) (by decide) (by decide)) (by decide)
  unfold nat_Pow.f
  rw [if_pos (by decide), if_pos (by decide), if_neg (by decide), e]
  unfold fitV
  rw [if_pos hl]
theorem aw2 : nat_Square.f [18446744073709551615] = some (can 340282366920938463426481119284349108225, 0) := by
  have e : valB W64 [18446744073709551615] * valB W64 [18446744073709551615] = 340282366920938463426481119284349108225 := by decide
  have hl : (can 340282366920938463426481119284349108225).length ≤ 4096 := Nat.le_trans (can_short (n := 2) (by decide) (by decide)) (by decide)
  unfold nat_Square.f
  rw [if_pos (by decide), if_pos (by decide), e]
  unfold fitV
  rw [if_pos hl]
theorem aw3 : nat_DivMod.f [7766279631452241920, 5] [3] = some (can 33333333333333333333, can 1, 0) := by
  have e1 : valB W64 [7766279631452241920, 5] / valB W64 [3] = 33333333333333333333 := by decide
  have e2 : valB W64 [7766279631452241920, 5] % valB W64 [3] = 1 := by decide
  unfold nat_DivMod.f
  rw [if_pos (by decide), if_pos (by decide), if_neg (by decide), e1, e2]
theorem aw4 : nat_Sub.f [1] [2] = some ([], 8) := by
  unfold nat_Sub.f
  rw [if_pos (by decide), if_pos (by decide), if_pos (by decide)]
theorem awake_ev : Ev (fun k => reckonerlaw02_awake.f k) true := by
  have p1 := Parse_ev ⟨#[49, 48, 48, 48, 48, 48, 48, 48, 48, 48, 48, 48, 48, 48, 48, 48, 48, 48, 48, 48, 48]⟩ (by decide) 100000000000000000000 (by decide +kernel)
  have p2 := Parse_ev ⟨#[51, 51, 51, 51, 51, 51, 51, 51, 51, 51, 51, 51, 51, 51, 51, 51, 51, 51, 51, 51]⟩ (by decide) 33333333333333333333 (by decide +kernel)
  have l1 : (can 100000000000000000000).length ≤ 2 := can_short (by decide) (by decide)
  have l2 : (can 33333333333333333333).length ≤ 2 := can_short (by decide) (by decide)
  have i1 := RIs_ev (can 100000000000000000000) (can_in (by decide)) (by omega) (can_val (by decide))
  have i2 := RIs_ev (v := 340282366920938463426481119284349108225) [1, 18446744073709551614] (by decide) (by decide) (by decide)
  have i3 := RIs_ev (can 33333333333333333333) (can_in (by decide)) (by omega) (can_val (by decide))
  have i4 := RIs_ev (v := 1) [1] (by decide) (by decide) (by decide)
  refine Ev.congr (f := fun k => (reckonerref02_Parse.f k (⟨#[49, 48, 48, 48, 48, 48, 48, 48, 48, 48, 48, 48, 48, 48, 48, 48, 48, 48, 48, 48, 48]⟩ : ByteArray)).bind fun t280 => ((reckonerref02_Is.f k (can 100000000000000000000) t280).bind fun t283 => (if t283 = true then ((reckonerref02_Is.f k (can 340282366920938463426481119284349108225) (([1, 18446744073709551614] : List Int))).bind fun t287 => (if t287 = true then ((reckonerref02_Parse.f k (⟨#[51, 51, 51, 51, 51, 51, 51, 51, 51, 51, 51, 51, 51, 51, 51, 51, 51, 51, 51, 51]⟩ : ByteArray)).bind fun t288 => ((reckonerref02_Is.f k (can 33333333333333333333) t288).bind fun t291 => (if t291 = true then ((reckonerref02_Is.f k (can 1) (([1] : List Int))).bind fun t295 => (if t295 = true then (some ((8 : Int) == 8)) else (none))) else (none)))) else (none))) else (none)))) (fun k => ?_) (Ev.bind p1 (Ev.bind i1 ?_))
  · show reckonerlaw02_awake.f k = _
    unfold reckonerlaw02_awake.f
    rw [aw1, aw2, aw3, aw4]
    rfl
  · simp only [if_true]
    refine Ev.bind i2 ?_
    simp only [if_true]
    refine Ev.bind p2 (Ev.bind i3 ?_)
    simp only [if_true]
    refine Ev.bind i4 ?_
    simp only [if_true]
    exact Ev.now true
end Go.Proofs.Ytkkkbalefnileaa.Ex
/- NatLists: the plain part, and the walk with it. -/
namespace Go.Proofs.Ytkkkbalefnileaa.Ex
open Go.RowKit Go.Proofs.YtkkkbalefnileaaW.PrintWords Go.Proofs.YtkkkbalefnileaaW.PrintLast Go.Proofs.YtkkkbalefnileaaW.PrintMore Go.Proofs.Ytkkkbalefnileaa.T
set_option linter.unusedVariables false
set_option linter.unusedSimpArgs false

/-- Of a list of numbers the first ones, and of these the first words. -/
def listV (l : List (List Int)) (many most : Nat) : List (List Int) := (l.take many).map fun x => x.take most
theorem few_small (l : List Int) (n : Nat) (h : n ≤ 1000) : reckonerlaw02_few.f l (n : Int) = some (l.take n) := by
  unfold reckonerlaw02_few.f
  rw [if_pos ⟨by omega, Or.inr (by omega)⟩, Int.toNat_natCast]
theorem list_loop (l : List (List Int)) (many most : Nat) (h1 : many ≤ 1000) (h2 : most ≤ 1000) : ∀ (d i : Nat), i + d = min l.length many → Ev (fun k => reckonerlaw02_list.l0 k l (many : Int) (most : Int) (listV l i most) (i : Int)) (listV l many most)
  | 0, i, hi => by
    refine Ev.now' fun k => ?_
    have e : listV l i most = listV l many most := by
      unfold listV
      by_cases h : l.length ≤ many
      · rw [List.take_of_length_le (by omega), List.take_of_length_le h]
      · rw [show i = many by omega]
    rw [reckonerlaw02_list.l0, e]
    by_cases h : i < l.length
    · rw [if_pos (by omega), if_neg (by omega)]
    · rw [if_neg (by omega)]
  | d + 1, i, hi => by
    have ih := list_loop l many most h1 h2 d (i + 1) (by omega)
    have ei : wrap64 ((i : Int) + 1) = ((i + 1 : Nat) : Int) := by rw [w64_int _ (by omega) (by omega)]; omega
    have hil : i < l.length := by omega
    have er : rd_L1 l (i : Int) = l[i] := by
      unfold rd_L1
      simp [List.getD_eq_getElem?_getD, List.getElem?_eq_getElem hil]
    have e1 : listV l (i + 1) most = listV l i most ++ [l[i].take most] := by
      unfold listV
      rw [List.take_succ_eq_append_getElem hil, List.map_append]
      rfl
    have hl : (listV l i most).length < 5864062014805 := by unfold listV; rw [List.length_map, List.length_take]; omega
    rw [e1] at ih
    refine Ev.step (fun k => ?_) ih
    rw [reckonerlaw02_list.l0, if_pos (by omega), if_pos (by omega), if_pos (by omega), er, few_small _ _ h2, Option.bind_some, if_pos hl, ei]
theorem list_ev (l : List (List Int)) (many most : Nat) (h1 : many ≤ 1000) (h2 : most ≤ 1000) : Ev (fun k => reckonerlaw02_list.f k l (many : Int) (most : Int)) (listV l many most) :=
  list_loop l many most h1 h2 (min l.length many) 0 (by omega)
theorem rdL1 (l : List (List Int)) (i : Nat) (h : i < l.length) : rd_L1 l (i : Int) = l[i] := by
  unfold rd_L1
  simp [List.getD_eq_getElem?_getD, List.getElem?_eq_getElem h]
/-- The reference's sum of a list, and its product. -/
theorem RSum_loop (X : List (List Int)) (hw : ∀ x ∈ X, inW x) (h8 : ∀ x ∈ X, x.length ≤ 8) (hn : X.length ≤ 20) : ∀ (d i : Nat), i + d = X.length → Ev (fun k => reckonerref02_Sum.l0 k X (can (sumV (X.take i))) (i : Int)) (can (sumV X))
  | 0, i, hi => by
    refine Ev.now' fun k => ?_
    rw [reckonerref02_Sum.l0, if_neg (by omega), List.take_of_length_le (by omega)]
  | d + 1, i, hi => by
    have ih := RSum_loop X hw h8 hn d (i + 1) (by omega)
    have ei : wrap64 ((i : Int) + 1) = ((i + 1 : Nat) : Int) := by rw [w64_int _ (by omega) (by omega)]; omega
    have hil : i < X.length := by omega
    have w1 := fun x hx => hw x (List.mem_of_mem_take (i := i) hx)
    have w2 := fun x hx => h8 x (List.mem_of_mem_take (i := i) hx)
    have s0 := (sumV_bound 8 (X.take i) w1 w2).1
    have s1 := sumV_short 8 (X.take i) w1 w2 (by rw [List.length_take]; omega)
    have m8 := h8 _ (List.getElem_mem hil)
    have ha := RAdd_ev (can (sumV (X.take i))) X[i] (can_in s0) (hw _ (List.getElem_mem hil)) (by omega) (by omega)
    rw [can_val s0, ← sumV_succ X i hil] at ha
    refine Ev.step (f := fun k => (reckonerref02_Add.f k (can (sumV (X.take i))) X[i]).bind fun t => reckonerref02_Sum.l0 k X t ((i + 1 : Nat) : Int)) (fun k => ?_) (Ev.bind ha ih)
    rw [reckonerref02_Sum.l0, if_pos (by omega), if_pos (by omega), rdL1 X i hil, ei]
theorem prodV_bound (n : Nat) : ∀ (l : List (List Int)), (∀ x ∈ l, inW x) → (∀ x ∈ l, x.length ≤ n) → prodV l ≤ W64 ^ (n * l.length)
  | [], _, _ => by simp [prodV]
  | x :: l, h1, h2 => by
    have hx := h1 x (List.mem_cons_self ..)
    have ih := prodV_bound n l (fun y hy => h1 y (List.mem_cons_of_mem _ hy)) (fun y hy => h2 y (List.mem_cons_of_mem _ hy))
    have a0 := valW_nonneg hx
    have a1 := valB_lt W64_pos hx
    have a2 := pow_mono (B := W64) (by decide) (h2 x (List.mem_cons_self ..))
    have p0 := prodV_nonneg l (fun y hy => h1 y (List.mem_cons_of_mem _ hy))
    rw [List.length_cons, Nat.mul_succ, Int.pow_add, Int.mul_comm (W64 ^ (n * l.length))]
    exact Int.mul_le_mul (by omega) ih p0 (Int.le_of_lt (pow_posB W64_pos n))
theorem prodV_short (l : List (List Int)) (hw : ∀ x ∈ l, inW x) (h8 : ∀ x ∈ l, x.length ≤ 8) (hn : l.length ≤ 20) : 0 ≤ prodV l ∧ (can (prodV l)).length ≤ 161 := by
  have p0 := prodV_nonneg l hw
  have p1 := prodV_bound 8 l hw h8
  have p2 := pow_mono (B := W64) (by decide) (show 8 * l.length ≤ 160 by omega)
  have p3 : W64 ^ 161 = W64 ^ 160 * W64 := Int.pow_succ ..
  have p4 := pow_posB W64_pos 160
  have p5 : W64 ^ 160 * 2 ≤ W64 ^ 160 * W64 := Int.mul_le_mul_of_nonneg_left (by decide) (Int.le_of_lt p4)
  refine ⟨p0, can_short p0 ?_⟩
  rw [p3]
  generalize W64 ^ 160 * W64 = S at *
  generalize W64 ^ 160 = R at *
  clear p3
  omega
theorem RProduct_loop (X : List (List Int)) (hw : ∀ x ∈ X, inW x) (h8 : ∀ x ∈ X, x.length ≤ 8) (hn : X.length ≤ 20) : ∀ (d i : Nat), i + d = X.length → Ev (fun k => reckonerref02_Product.l0 k X (can (prodV (X.take i))) (i : Int)) (can (prodV X))
  | 0, i, hi => by
    refine Ev.now' fun k => ?_
    rw [reckonerref02_Product.l0, if_neg (by omega), List.take_of_length_le (by omega)]
  | d + 1, i, hi => by
    have ih := RProduct_loop X hw h8 hn d (i + 1) (by omega)
    have ei : wrap64 ((i : Int) + 1) = ((i + 1 : Nat) : Int) := by rw [w64_int _ (by omega) (by omega)]; omega
    have hil : i < X.length := by omega
    obtain ⟨s0, s1⟩ := prodV_short (X.take i) (fun x hx => hw x (List.mem_of_mem_take hx)) (fun x hx => h8 x (List.mem_of_mem_take hx)) (by rw [List.length_take]; omega)
    have m8 := h8 _ (List.getElem_mem hil)
    have ha := RMul_ev (can (prodV (X.take i))) X[i] (can_in s0) (hw _ (List.getElem_mem hil)) (by omega) (by omega)
    rw [can_val s0, ← prodV_succ X i hil] at ha
    refine Ev.step (f := fun k => (reckonerref02_Mul.f k (can (prodV (X.take i))) X[i]).bind fun t => reckonerref02_Product.l0 k X t ((i + 1 : Nat) : Int)) (fun k => ?_) (Ev.bind ha ih)
    rw [reckonerref02_Product.l0, if_pos (by omega), if_pos (by omega), rdL1 X i hil, ei]
theorem set_end (n : Nat) : (List.replicate (n + 1) (0 : Int)).set n 1 = List.replicate n 0 ++ [1] := by
  rw [List.replicate_succ', List.set_append]
  simp
theorem NatLists_true (A0 : Option Addr) (c0 : Nat) (l0 : List (List Int)) (a1 : Int) (w : World) (hr0 : Kd.C (Kd.slice 33 (Kd.int .u64)) w A0 l0.length l0) (hc0 : l0.length ≤ c0) (hwf : ∀ x ∈ l0, inW x) :
    Calls Try.prog 7 #[.slice A0 l0.length c0, .int .i64 a1] w fun e w' => e = .returned (.bool true) ∧ Below w.heap.size w w' := by
  have xw : ∀ x ∈ listV l0 20 8, inW x := by
    intro x hx
    simp only [listV, List.mem_map] at hx
    obtain ⟨y, hy, rfl⟩ := hx
    exact inW_take (hwf y (List.mem_of_mem_take hy)) 8
  have x8 : ∀ x ∈ listV l0 20 8, x.length ≤ 8 := by
    intro x hx
    simp only [listV, List.mem_map] at hx
    obtain ⟨y, hy, rfl⟩ := hx
    rw [List.length_take]; omega
  have xl : (listV l0 20 8).length ≤ 20 := by rw [listV, List.length_map, List.length_take]; omega
  have hL := list_ev l0 20 8 (by decide) (by decide)
  generalize listV l0 20 8 = X at *
  have s0 := (sumV_bound 8 X xw x8).1
  have s1 := sumV_short 8 X xw x8 (by omega)
  obtain ⟨p0, p1⟩ := prodV_short X xw x8 xl
  have fS : nat_Sum.f X = some (can (sumV X), 0) := by
    unfold nat_Sum.f fitV
    rw [if_pos xw, if_pos (by omega), if_pos (fun x hx => by have := x8 x hx; omega), if_pos (by omega)]
  have fP : nat_Product.f X = some (can (prodV X), 0) := by
    unfold nat_Product.f fitV
    rw [if_pos xw, if_pos (by omega), if_pos (fun x hx => by have := x8 x hx; omega), if_pos (by omega)]
  have rS := RSum_loop X xw x8 xl X.length 0 (by omega)
  have rP : Ev (fun k => reckonerref02_Product.f k X) (can (prodV X)) := Ev.bind (RWord_ev 1 (by decide)) (RProduct_loop X xw x8 xl X.length 0 (by omega))
  have iS := RIs_ev (v := sumV X) (can (sumV X)) (can_in s0) (by omega) (can_val s0)
  have iP := RIs_ev (v := prodV X) (can (prodV X)) (can_in p0) (by omega) (can_val p0)
  obtain ⟨k1, h1⟩ := Ev.rounds hL
  obtain ⟨k2, h2⟩ := Ev.rounds rS
  obtain ⟨k3, h3⟩ := Ev.rounds iS
  obtain ⟨k4, h4⟩ := Ev.rounds rP
  obtain ⟨k5, h5⟩ := Ev.rounds iP
  obtain ⟨k6, h6⟩ := Ev.rounds awake_ev
  obtain ⟨n, hn, hn1, hn2⟩ : ∃ n : Nat, wrap64 (1001 + wrap64 (Int.tmod (IntKind.u64.wrap a1) 3)) = (n : Int) ∧ 1001 ≤ n ∧ n ≤ 1003 := by
    have u0 : 0 ≤ IntKind.u64.wrap a1 := Int.emod_nonneg a1 (by decide : (18446744073709551616 : Int) ≠ 0)
    rw [Int.tmod_eq_emod_of_nonneg u0]
    have m0 := Int.emod_nonneg (IntKind.u64.wrap a1) (show (3 : Int) ≠ 0 by decide)
    have m1 := Int.emod_lt_of_pos (IntKind.u64.wrap a1) (show (0 : Int) < 3 by decide)
    generalize IntKind.u64.wrap a1 % 3 = t at *
    rw [w64_int t (by omega) (by omega), w64_int _ (by omega) (by omega)]
    exact ⟨(1001 + t).toNat, by omega, by omega, by omega⟩
  have nw : ∀ x ∈ List.replicate n ([] : List Int), inW x := fun x hx => by
    rw [(List.mem_replicate.1 hx).2]
    intro y hy
    cases hy
  have nl : ¬ (List.replicate n ([] : List Int)).length ≤ 1000 := by rw [List.length_replicate]; omega
  have gS : nat_Sum.f (List.replicate n []) = some ([], 1) := by unfold nat_Sum.f; rw [if_pos nw, if_neg nl]
  have gP : nat_Product.f (List.replicate n []) = some ([], 1) := by unfold nat_Product.f; rw [if_pos nw, if_neg nl]
  obtain ⟨Z, hZ⟩ : ∃ Z : List Int, Z = List.replicate 4096 0 := ⟨_, rfl⟩
  have hY : Z.set 4095 1 = List.replicate 4095 0 ++ [1] := by rw [hZ]; exact set_end 4095
  have yl : (Z.set 4095 1).length = 4096 := by rw [hZ, List.length_set, List.length_replicate]
  have yv : valB W64 (Z.set 4095 1) = W64 ^ 4095 := by
    rw [hY, valB_append, valB_zeros, List.length_replicate]
    have : valB W64 [1] = 1 := by simp [valB]
    rw [this, Int.mul_one, Int.zero_add]
  have yw : inW (Z.set 4095 1) := by
    rw [hY]
    exact inB_append.2 ⟨inB_zeros W64_pos 4095, inB_cons.2 ⟨by decide, inB_nil⟩⟩
  clear hY
  have HZe := Aside0.mk hZ
  have main := NatLists1 A0 c0 l0 a1 w hr0 hc0 k1 k2 k3 k4 k5 k6 X _ _ _ _ n (by omega) h1 fS fP h2 h3 h4 h5 hn gS gP Z HZe
  generalize Z.set 4095 1 = Y at *
  have two : inW [2, 1] := fun z hz => by
    simp at hz
    rcases hz with rfl | rfl <;> decide
  have twov : valB W64 [2, 1] = 2 + W64 := by simp [valB]
  have w3 : ∀ x ∈ [[2, 1], Y, []], inW x := by
    intro x hx
    simp at hx
    rcases hx with rfl | rfl | rfl
    · exact two
    · exact yw
    · intro y hy; cases hy
  have w2 : ∀ x ∈ [[2, 1], Y], inW x := by
    intro x hx
    simp at hx
    rcases hx with rfl | rfl
    · exact two
    · exact yw
  have g3 : ∀ x ∈ [[2, 1], Y, []], x.length ≤ 4096 := by
    intro x hx
    simp at hx
    rcases hx with rfl | rfl | rfl
    · decide
    · omega
    · decide
  have g2 : ∀ x ∈ [[2, 1], Y], x.length ≤ 4096 := by
    intro x hx
    simp at hx
    rcases hx with rfl | rfl
    · decide
    · omega
  have q3 : nat_Product.f [[2, 1], Y, []] = some ([], 0) := by
    have e : prodV [[2, 1], Y, []] = 0 := by simp [prodV, valB]
    unfold nat_Product.f
    rw [if_pos w3, if_pos (by show (3 : Nat) ≤ 1000; decide), if_pos g3, e]
    rfl
  have q2 : nat_Product.f [[2, 1], Y] = some ([], 2) := by
    have e : prodV [[2, 1], Y] = (2 + W64) * W64 ^ 4095 := by
      show valB W64 [2, 1] * (valB W64 Y * 1) = _
      rw [twov, yv, Int.mul_one]
    have hp := pow_posB W64_pos 4095
    have hle : W64 * W64 ^ 4095 ≤ (2 + W64) * W64 ^ 4095 := Int.mul_le_mul_of_nonneg_right (by omega) (Int.le_of_lt hp)
    have hh := can_high (n := 4096) (v := (2 + W64) * W64 ^ 4095) (Int.mul_nonneg (by decide) (Int.le_of_lt hp)) (by rw [show (4096 : Nat) = 4095 + 1 from rfl, Int.pow_succ, Int.mul_comm]; exact hle)
    unfold nat_Product.f fitV
    rw [if_pos w2, if_pos (by show (2 : Nat) ≤ 1000; decide), if_pos g2, e, if_neg (by omega)]
  exact main q3 q2 h6
end Go.Proofs.Ytkkkbalefnileaa.Ex
/- A list of numbers that came in, as the walks read it. -/
namespace Go.Proofs.Ytkkkbalefnileaa.Ex
open Go.RowKit Go.Proofs.YtkkkbalefnileaaW.PrintWords Go.Proofs.YtkkkbalefnileaaW.PrintLast Go.Proofs.YtkkkbalefnileaaW.PrintMore Go.Proofs.Ytkkkbalefnileaa.T
set_option linter.unusedVariables false
set_option linter.unusedSimpArgs false

theorem C_openN {W : World} {x : Addr} {len cap : Nat} {A : Nat → Option Addr} {L C : Nat → Nat} {Z : Nat → List Int} (hl : len ≤ cap) (hm : cap ≤ maxLen)
    (hrow : ∀ r, r < cap → W.cell? (x.add r) = some (.slice (A r) (L r) (C r)) ∧ L r ≤ C r ∧ C r ≤ maxLen ∧ (Z r).length = C r ∧ (∀ n ∈ Z r, (Lit.int .u64 n).wf = true) ∧ (A r = none → C r = 0) ∧
      ∀ a', A r = some a' → 0 ≤ a'.block ∧ ∀ c, c < C r → W.cell? (a'.add c) = some (.int .u64 ((Z r).getD c 0))) :
    Kd.C (Kd.slice 33 (Kd.int .u64)) W (some x) len ((List.range len).map fun r => (Z r).take (L r)) := by
  have hml : maxLen = 9223372036854775807 := rfl
  refine ⟨by simp, by omega, fun _ => ⟨x, rfl, fun j p hj => ?_⟩⟩
  have hjl : j < len := by have := (List.getElem?_eq_some_iff.1 hj).1; simpa using this
  have hp : p = (Z j).take (L j) := by
    rw [List.getElem?_map, List.getElem?_range hjl] at hj
    exact (Option.some.inj hj).symm
  subst hp
  obtain ⟨h1, h2, h3, h4, h5, h6, h7⟩ := hrow j (by omega)
  have hpl : ((Z j).take (L j)).length = L j := by rw [List.length_take]; omega
  refine ⟨[.slice (A j) (L j) (C j)], rfl, ⟨A j, C j, by rw [hpl], by rw [hpl]; exact h2, ?_⟩, fun i u hu => ?_⟩
  · refine ⟨rfl, by rw [hpl]; omega, fun h0 => ?_⟩
    rw [hpl] at h0
    cases hA : A j with
    | none => have := h6 hA; omega
    | some a' =>
      obtain ⟨_, h8⟩ := h7 a' hA
      refine ⟨a', rfl, fun i q hq => ?_⟩
      have hil : i < L j := by have := (List.getElem?_eq_some_iff.1 hq).1; omega
      refine ⟨[.int .u64 q], rfl, rfl, fun m u hu => ?_⟩
      cases m with
      | zero =>
        cases hu
        have h9 := h8 i (by omega)
        have e : (Z j).getD i 0 = q := by
          rw [List.getElem?_take_of_lt hil] at hq
          rw [List.getD_eq_getElem?_getD, hq]
          rfl
        rw [e] at h9
        have e2 : i * (Kd.int .u64).sz + 0 = i := by simp [Kd.int, Kd.scalar]
        rw [e2]
        exact h9
      | succ m => simp at hu
  · cases i with
    | zero =>
      cases hu
      have e2 : j * (Kd.slice 33 (Kd.int .u64)).sz + 0 = j := by simp [Kd.slice]
      rw [e2]
      exact h1
    | succ i => simp at hu
end Go.Proofs.Ytkkkbalefnileaa.Ex
/- The row of NatLists: as the print's rows, with a list of numbers that came in. -/
namespace Go.Proofs.Ytkkkbalefnileaa.natLists
open Go.Proofs.YtkkkbalefnileaaW.PrintWords
open Go.ChangeShapes Go.WideShapes Go.ChangeAt Go.RowKit
open Go.ChangeMaps (open_string shut_string)
set_option linter.unusedVariables false
theorem own : ownKnob Try.prog.godebug = none := by kernel_rfl
theorem laidOut : laidOutB Try.prog = true := by kernel_rfl
set_option maxRecDepth 100000 in
theorem lifted (os : Os) (started : os.Started) (H : Type) (enc : TypeId × Value → H) :
    ReturnsInHanded {} Try.checked os 7 .any (Rows.natListsSpec.pre6 enc Try.prog Try.f7 Rows.natListsRow.domain false) (Rows.natListsSpec.post enc Try.prog Try.f7 false true false false) := by
  refine returnsInHanded_of_change_sized (C := Try.checked) own started (by kernel_rfl) Try.func7
    (ChangeSpec.witness6 (enc := enc) (C := Try.checked) false ⟨#[], #[.slice none 0 0, .int .i64 0], []⟩ 8 (by kernel_rfl) (by kernel_rfl) (by kernel_rfl) (by kernel_rfl)) ?_
  intro W base args ds gs before hval0 hW hcnd hsz0 _
  have hsz : (DataW.weightsEach Try.prog (Try.f7.params.toList ++ Rows.natListsSpec.plain.varTypes Try.prog) (ds ++ gs)).all (· ≤ reachBytes) = true := hsz0
  have hval : ∀ (j : Nat) t v, Try.f7.params[j]? = some t → args[j]? = some v → Value.okWide Try.prog W .any base t v := hval0
  have hW' := hW
  obtain ⟨p, q, hA0, hV, rfl, hfz, hnd⟩ := hW
  have hA : DataW.TrodAll enc Try.prog W 0 (fun _ => true) true Try.f7.params.toList args.toList ds p := hA0
  rw [Try.params7] at hA hval hsz
  obtain ⟨v0, vs0, d0, ds0, p0, q0, hargs, rfl, rfl, h0, r0⟩ := trodAll_cons hA
  obtain ⟨v1, vs1, d1, ds1, p1, q1, rfl, rfl, rfl, h1, r1⟩ := trodAll_cons r0
  obtain ⟨rfl, rfl, rfl⟩ := trodAll_nil r1
  obtain rfl : args = #[v0, v1] := by cases args; simp_all
  obtain ⟨rfl, rfl⟩ := trodVars_none hV
  obtain ⟨a0, len0, cap0, rfl⟩ := okWide_slice Try.underlying46 (hval 0 46 v0 rfl rfl)
  have k0 := h0
  have lt0 : ∀ x ∈ p0, x.block < W.heap.size := by obtain ⟨m, hm⟩ := k0; exact DataW.trod_lt m _ _ _ hm
  obtain ⟨z0, e0, c0, w0, n0⟩ : ∃ zs : List (List Int), zs.length = len0 ∧ len0 ≤ cap0 ∧ Kd.C (Kd.slice 33 (Kd.int .u64)) W a0 len0 zs ∧ ∀ x ∈ zs, Ex.inW x := by
    obtain ⟨fuel, hf⟩ := h0
    rcases Deep.open_int_rows Try.underlying46 Try.underlying23 Try.underlying33 (by kernel_rfl) (by kernel_rfl) hf with ⟨hcs, _⟩ | ⟨x, l, c, A, L, C, Z, hcs, _, hl, hm, _, hrow⟩
    · simp [Value.cells] at hcs
      obtain ⟨rfl, rfl, rfl⟩ := hcs
      exact ⟨[], rfl, Nat.le_refl _, ⟨rfl, by decide, fun h => absurd h (by decide)⟩, fun x hx => by cases hx⟩
    · simp [Value.cells] at hcs
      obtain ⟨rfl, rfl, rfl⟩ := hcs
      refine ⟨_, by simp, hl, Ex.C_openN hl hm hrow, fun y hy => ?_⟩
      simp only [List.mem_map] at hy
      obtain ⟨r, hr, rfl⟩ := hy
      have hr2 := List.mem_range.1 hr
      exact Ex.inW_take (Ex.inW_of_wf (hrow r (by omega)).2.2.2.2.1) _
  obtain ⟨a1, rfl, rfl, rfl, w1⟩ := open_int Try.underlying3 (hval 1 3 v1 rfl rfl) h1
  clear hA0 hval0 hsz0 hsz
  subst e0
  refine (Ex.NatLists_true a0 cap0 z0 a1 W w0 c0 n0).mono fun e W' ⟨he, bel⟩ => ?_
  subst he
  exact ⟨_, rfl, _, _, _, [], _, [], hW', trodAll_mk1 (shut_bool Try.underlying4 _), (trodAll_cons_mk (Below.trod laidOut (by kernel_rfl) (of_decide_eq_true (by kernel_rfl)) k0 bel lt0) (trodAll_cons_mk (shut_int Try.underlying3 w1) trodAll_mk0)), rfl, bel.frame _, fun h => by cases h⟩
theorem over : Rows.natListsRow.holds Try.pinned (OpenSpec.ofChange Rows.natListsSpec) :=
  OpenClaim.holds_of_wide 7 Try.f7 rfl rfl rfl rfl rfl rfl rfl ⟨rfl, rfl, rfl, rfl, rfl⟩ rfl rfl rfl rfl rfl (by kernel_rfl) Try.func7 (by kernel_rfl)
    (of_decide_eq_true (by kernel_rfl)) (by unfold Func.isWrapper; first | (rw [if_pos (by decide +kernel)]; kernel_rfl) | (rw [if_neg (by decide +kernel)]; exact ⟨rfl, rfl⟩))
    (fun os started H enc _ => lifted os started H enc)
theorem proved : Rows.NatListsSaid := over
#print axioms proved
end Go.Proofs.Ytkkkbalefnileaa.natLists
namespace Go.Proofs.Ytkkkbalefnileaa
/-- The row, under a short name, for the claim. -/
theorem natLists_holds : Rows.NatListsSaid := natLists.proved
end Go.Proofs.Ytkkkbalefnileaa
