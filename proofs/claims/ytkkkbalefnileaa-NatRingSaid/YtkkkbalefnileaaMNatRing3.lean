/- Proof of NatRing: sums, products, squares and quotients of numbers obey the laws of a ring. (Part 4 of 5.) -/
import Derived.Test.YtkkkbalefnileaaMNatRing2
-- PRINTED by print.py (a twelfth state) out of the translation. Not trusted: Lean checks it.
namespace Go.Proofs.Ytkkkbalefnileaa.T
open Go.RowKit Go.Proofs.YtkkkbalefnileaaW.PrintWords Go.Proofs.YtkkkbalefnileaaW.PrintLast Go.Proofs.YtkkkbalefnileaaW.PrintMore
attribute [local go_sem] max2_int min2_int max_two min_two max_three min_three max_four min_four   -- for this text's walks alone
open Ytkkkbalefnileaa.Ex
set_option linter.unusedVariables false
set_option linter.unusedSimpArgs false

/-! ### reckonerref02_Parse: function 51 -/
def reckonerref02_Parse.l0 : Nat → ByteArray → List Int → Int → Option (List Int)
  | 0, _, _, _ => none
  | k + 1, x0, x3, x4 => if x4 < (x0.size : Int) then ((reckonerref02_FromWord.f k 10).bind fun t231 => ((reckonerref02_Mul.f k x3 t231).bind fun t234 => (if 0 ≤ x4 then ((reckonerref02_FromWord.f k (((bt x0 x4) - 48) % 256)).bind fun t237 => ((reckonerref02_Add.f k t234 t237).bind fun t240 => (reckonerref02_Parse.l0 k x0 t240 (wrap64 (x4 + 1))))) else (none)))) else (some x3)
def reckonerref02_Parse.f (k : Nat) (a0 : ByteArray) : Option (List Int) := reckonerref02_Parse.l0 k a0 ([] : List Int) 0
def reckonerref02_Parse.T5 : Bool × List (List Nat × List Nat) := (true, [([], []), ([], []), ([0, 1, 1], [0, 1]), ([], []), ([], []), ([3, 4], [3, 4]), ([5], [5]), ([6], [6]), ([7, 2], [7]), ([2, 8, 8], [2, 8]), ([9, 9, 0, 1, 2, 3, 4, 5, 6, 7, 8, 9], [0, 9])])
def reckonerref02_Parse.B5 : List Nat := [0, 0, 3, 0, 0, 24, 56, 120, 255, 511, 1023]
theorem reckonerref02_Parse.tab5 : rtab .any (opsOf Try.f51 5) = reckonerref02_Parse.T5 := by kernel_rfl
theorem reckonerref02_Parse.bits5 : waitsOk reckonerref02_Parse.T5.2 reckonerref02_Parse.B5 = true := by kernel_rfl
set_option maxHeartbeats 8000000 in
set_option maxRecDepth 100000 in
theorem reckonerref02_Parse.calls (k : Nat) (a0 : ByteArray) (r : List Int) (w : World) (h : reckonerref02_Parse.f k a0 = some r) :
  Calls Try.prog 51 #[.string a0] w fun e w' => ∃ v0_ : Value, e = .returned (v0_) ∧ Kd.R (Kd.int .u64) 33 w' w.heap.size (fun _ => True) v0_ r ∧ Below w.heap.size w w' := by
 have HB := Aside0.mk (Below.refl w.heap.size w)
 have H : (reckonerref02_Parse.l0 k a0 ([] : List Int) 0) = some r := h
 clear h
 have H' := Aside0.mk H
 clear H
 go_enter Try.func51, Try.ntmps51
 go_wp2
 go_loopg [3, 4] k (fun kq v3 v4 w' => ∃ (x3_1 : List Int) (x4_1 : Int), v4 = .int .i64 x4_1 ∧ Aside0 (reckonerref02_Parse.l0 kq a0 x3_1 x4_1 = some r) ∧ Aside0 (kq ≤ k) ∧ Aside0 (Kd.R (Kd.int .u64) 33 w' w.heap.size (fun _ => True) v3 x3_1) ∧ Aside0 (Below w.heap.size w w'))
 case atStart => exact ⟨(([] : List Int)), (0), (by first | rfl | (simp; done) | (simp [*]; done)), H', ⟨Nat.le_refl _⟩, ⟨by first | exact Kd.R_nil _ _ _ _ _ | exact Kd.N_nil _ _ _ _ _ | exact Kd.V_nil _ _ _ _ _ | exact Kd.Q_nil _ _ _ _ _ | exact Kd.S_nil _ _ _ _ _⟩, ⟨by repeat (first | (with_reducible first | exact HB.out | apply below_alloc | apply pw_below_drewN | apply below_drew1) | exact HB.out)⟩⟩
 case round =>
  clear H'
  obtain ⟨x3_1, x4_1, rfl, HA, HK1, HO_3, HB⟩ := hrel
  cases gk with
  | zero => exact absurd HA.out (by simp [reckonerref02_Parse.l0])
  | succ k1 =>
   have H := HA.out
   clear HA
   simp only [reckonerref02_Parse.l0] at H
   by_cases c2 : x4_1 < (a0.size : Int)
   ·rw [if_pos c2] at H
    have c2b0 : decide (x4_1 < (a0.size : Int)) = true := decide_eq_true c2
    clear c2
    replace H := Option.bind_eq_some_iff.mp H
    obtain ⟨t231, A30, H⟩ := H
    replace H : ((reckonerref02_Mul.f k1 x3_1 t231).bind fun t234 => (if 0 ≤ x4_1 then ((reckonerref02_FromWord.f k1 (((bt a0 x4_1) - 48) % 256)).bind fun t237 => ((reckonerref02_Add.f k1 t234 t237).bind fun t240 => (reckonerref02_Parse.l0 k1 a0 t240 (wrap64 (x4_1 + 1))))) else (none))) = some r := H
    have A3 := Aside0.mk A30
    clear A30
    replace H := Option.bind_eq_some_iff.mp H
    obtain ⟨t234, A40, H⟩ := H
    replace H : (if 0 ≤ x4_1 then ((reckonerref02_FromWord.f k1 (((bt a0 x4_1) - 48) % 256)).bind fun t237 => ((reckonerref02_Add.f k1 t234 t237).bind fun t240 => (reckonerref02_Parse.l0 k1 a0 t240 (wrap64 (x4_1 + 1))))) else (none)) = some r := H
    have A4 := Aside0.mk A40
    clear A40
    by_cases c5 : 0 ≤ x4_1
    ·rw [if_pos c5] at H
     have c5b0 : decide (0 ≤ x4_1) = true := decide_eq_true c5
     clear c5
     replace H := Option.bind_eq_some_iff.mp H
     obtain ⟨t237, A70, H⟩ := H
     replace H : ((reckonerref02_Add.f k1 t234 t237).bind fun t240 => (reckonerref02_Parse.l0 k1 a0 t240 (wrap64 (x4_1 + 1)))) = some r := H
     have A7 := Aside0.mk A70
     clear A70
     replace H := Option.bind_eq_some_iff.mp H
     obtain ⟨t240, A80, H⟩ := H
     replace H : (reckonerref02_Parse.l0 k1 a0 t240 (wrap64 (x4_1 + 1))) = some r := H
     have A8 := Aside0.mk A80
     clear A80
     have H' := Aside0.mk H
     clear H
     try go_wp2
     have n0_ := Aside0.mk (Kd.R_drew HO_3.out)
     have n1_ := Aside0.mk (below_drew1 HB.out)
     clear HO_3
     clear HB
     have HO_3 := n0_
     have HB := n1_
     clear n0_ n1_
     have p6 : 0 ≤ (x4_1 : Int) := of_decide_eq_true (by first | (with_reducible assumption) | assumption)
     have q6 : x4_1 < (a0.size : Int) := of_decide_eq_true (by first | (with_reducible assumption) | assumption)
     have hx6 := bt_at a0 x4_1
     replace p6 := eq_true p6
     replace q6 := eq_true q6
     refine start_ (n := 11) (S := fun w' => True) (ds := []) #[false, false, false, false, false, false, false, false, false, false, false] (by kernel_rfl) rfl rfl trivial (fun hHeld => ?_); refine with_tabW reckonerref02_Parse.tab5 reckonerref02_Parse.bits5 (fun HT_ HW_ => ?_)
     generalize wr.drew = w9 at HO_3 HB hHeld ⊢
     refine pure_ (i := 0) (N := some 11) (v := ?_) (a' := ?_) #[true, false, false, false, false, false, false, false, false, false, false] rfl rfl (any_of HT_.out (by kernel_rfl)) (fun _ _ _ h => h) (Or.inl ⟨by rfl, ?_⟩) ?_ ?_
     rotate_left
     ·intro w'
      go_simp
      with_reducible rfl
     rotate_left
     ·simp only [Act.put, List.setIfInBounds_toArray, List.set_cons_zero, List.set_cons_succ, i64_w, i32_w]
      rfl
     refine pure_ (i := 3) (N := some 14) (v := ?_) (a' := ?_) #[true, false, false, true, false, false, false, false, false, false, false] rfl rfl (any_of HT_.out (by kernel_rfl)) (fun _ _ _ h => h) (Or.inl ⟨by rfl, ?_⟩) ?_ ?_
     rotate_left
     ·intro w'
      go_simp
      with_reducible rfl
     rotate_left
     ·simp only [Act.put, List.setIfInBounds_toArray, List.set_cons_zero, List.set_cons_succ, i64_w, i32_w]
      rfl
     refine pure_ (i := 4) (N := some 15) (v := ?_) (a' := ?_) #[true, false, false, true, true, false, false, false, false, false, false] rfl rfl (any_of HT_.out (by kernel_rfl)) (fun _ _ _ h => h) (Or.inl ⟨by rfl, ?_⟩) ?_ ?_
     rotate_left
     ·intro w'
      go_simp
      with_reducible rfl
     rotate_left
     ·simp only [Act.put, List.setIfInBounds_toArray, List.set_cons_zero, List.set_cons_succ, i64_w, i32_w]
      rfl
     refine take_ (i := 5) (N := some 16) (v := ?_) (a' := ?_) #[true, false, false, true, true, true, false, false, false, false, false] rfl rfl (take_ofW HT_.out HW_.out (by kernel_rfl)) (fun _ _ _ h => h) (Or.inl ⟨by rfl, ?_⟩) hHeld ?_ ?_
     rotate_left
     ·intro w' _
      go_simp
      with_reducible rfl
     rotate_left
     ·simp only [Act.put, List.setIfInBounds_toArray, List.set_cons_zero, List.set_cons_succ, i64_w, i32_w]
      rfl
     refine pure_ (i := 6) (N := some 17) (v := ?_) (a' := ?_) #[true, false, false, true, true, true, true, false, false, false, false] rfl rfl (any_of HT_.out (by kernel_rfl)) (fun _ _ _ h => h) (Or.inl ⟨by rfl, ?_⟩) ?_ ?_
     rotate_left
     ·intro w'
      go_simp
      with_reducible rfl
     rotate_left
     ·simp only [Act.put, List.setIfInBounds_toArray, List.set_cons_zero, List.set_cons_succ, i64_w, i32_w]
      rfl
     refine pure_ (i := 7) (N := some 18) (v := ?_) (a' := ?_) #[true, false, false, true, true, true, true, true, false, false, false] rfl rfl (any_of HT_.out (by kernel_rfl)) (fun _ _ _ h => h) (Or.inl ⟨by rfl, ?_⟩) ?_ ?_
     rotate_left
     ·intro w'
      go_simp
      with_reducible rfl
     rotate_left
     ·simp only [Act.put, List.setIfInBounds_toArray, List.set_cons_zero, List.set_cons_succ, i64_w, i32_w]
      rfl
     refine one_ (i := 1) (N := some 12) #[true, true, false, true, true, true, true, true, false, false, false] rfl rfl (one_of HT_.out (by kernel_rfl)) (by decide) (fun K hK => ?_)
     refine goes_ Try.func50 (by kernel_rfl) rfl #[.int .u64 10] (by rfl) rfl rfl (by (try simp only [List.map_toArray, List.map_cons, List.map_nil]); first | done | rfl | exact congrArg (fun z => #[Value.int .u64 z]) (u8_u64 _) | (simp only [List.length_drop, List.length_take]; rfl)) ?_
     with_reducible refine (reckonerref02_FromWord.calls k1 10 t231 _ A3.out).mono ?_
     rintro e w10 ⟨v232, rfl, ho0, hb⟩
     refine ⟨_, rfl, ?_⟩
     have n0_ := Aside0.mk (Kd.R_elder' (by (with_reducible repeat (first | apply Kd.R_alloc | apply Kd.R_drewN | apply Kd.R_drew)); exact HO_3.out) (Kd.R_base ho0) hb)
     have n1_ := Aside0.mk (Kd.R_lower (Kd.R_new' ho0 (Kd.R_lt (by (with_reducible repeat (first | apply Kd.R_alloc | apply Kd.R_drewN | apply Kd.R_drew)); exact HO_3.out))) (below_size (by repeat (first | (with_reducible first | exact HB.out | apply below_alloc | apply pw_below_drewN | apply below_drew1) | exact HB.out))))
     have n2_ := Aside0.mk (below_step (by repeat (first | (with_reducible first | exact HB.out | apply below_alloc | apply pw_below_drewN | apply below_drew1) | exact HB.out)) hb)
     clear HO_3
     clear HB
     have HO_3 := n0_
     have HO233 := n1_
     have HB := n2_
     clear n0_ n1_ n2_
     (try clear hb)
     (try clear hb2)
     (try clear hk)
     (try clear hi)
     (try clear ho0)
     obtain ⟨Ao11, co11, eo11⟩ := Kd.R_slice HO_3.out
     (first | subst eo11 | (injection eo11 with f1_ f2_ f3_; have f4_ := f1_.symm; have f5_ := f3_.symm; clear f1_ f2_ f3_; subst f4_; subst f5_))
     obtain ⟨Ao12, co12, eo12⟩ := Kd.R_slice HO233.out
     (first | subst eo12 | (injection eo12 with f1_ f2_ f3_; have f4_ := f1_.symm; have f5_ := f3_.symm; clear f1_ f2_ f3_; subst f4_; subst f5_))
     refine hK.out _ _ trivial (fun hHeld => ?_)
     clear hK K
     refine norm_ (a' := ?_) ?_ ?_
     rotate_left
     ·show Act.put _ (some 12) _ = _
      simp only [Act.put, List.setIfInBounds_toArray, List.set_cons_zero, List.set_cons_succ, i64_w, i32_w]
      rfl
     refine one_ (i := 2) (N := some 13) #[true, true, true, true, true, true, true, true, false, false, false] rfl rfl (one_of HT_.out (by kernel_rfl)) (by decide) (fun K hK => ?_)
     refine goes_ Try.func23 (by kernel_rfl) rfl #[.slice Ao11 x3_1.length co11, .slice Ao12 t231.length co12] (by rfl) rfl rfl (by (try simp only [List.map_toArray, List.map_cons, List.map_nil]); first | done | rfl | exact congrArg (fun z => #[Value.int .u64 z]) (u8_u64 _) | (simp only [List.length_drop, List.length_take]; rfl)) ?_
     with_reducible refine (reckonerref02_Mul.calls k1 _ _ x3_1 _ _ t231 t234 _ ?side1 ?side2 ?side3 ?side4 A4.out).mono ?_
     (case side1 => repeat (first | exact (Kd.R_reads' HO_3.out).2.2 | (with_reducible refine Kd.C_alloc ?_ _) | (with_reducible refine Kd.C_drewN ?_ _) | (with_reducible refine Kd.C_drew ?_)))
     (case side2 => exact (Kd.R_reads' HO_3.out).2.1)
     (case side3 => repeat (first | exact (Kd.R_reads' HO233.out).2.2 | (with_reducible refine Kd.C_alloc ?_ _) | (with_reducible refine Kd.C_drewN ?_ _) | (with_reducible refine Kd.C_drew ?_)))
     (case side4 => exact (Kd.R_reads' HO233.out).2.1)
     rintro e w13 ⟨v235, rfl, ho0, hb⟩
     refine ⟨_, rfl, ?_⟩
     have n0_ := Aside0.mk (Kd.R_elder' (by (with_reducible repeat (first | apply Kd.R_alloc | apply Kd.R_drewN | apply Kd.R_drew)); exact HO_3.out) (Kd.R_base ho0) hb)
     have n1_ := Aside0.mk (Kd.R_elder' (by (with_reducible repeat (first | apply Kd.R_alloc | apply Kd.R_drewN | apply Kd.R_drew)); exact HO233.out) (Kd.R_base ho0) hb)
     have n2_ := Aside0.mk (Kd.R_lower (Kd.R_new' (Kd.R_new' ho0 (Kd.R_lt (by (with_reducible repeat (first | apply Kd.R_alloc | apply Kd.R_drewN | apply Kd.R_drew)); exact HO_3.out))) (Kd.R_lt (by (with_reducible repeat (first | apply Kd.R_alloc | apply Kd.R_drewN | apply Kd.R_drew)); exact HO233.out))) (below_size (by repeat (first | (with_reducible first | exact HB.out | apply below_alloc | apply pw_below_drewN | apply below_drew1) | exact HB.out))))
     have n3_ := Aside0.mk (below_step (by repeat (first | (with_reducible first | exact HB.out | apply below_alloc | apply pw_below_drewN | apply below_drew1) | exact HB.out)) hb)
     clear HO_3
     clear HO233
     clear HB
     have HO_3 := n0_
     have HO233 := n1_
     have HO236 := n2_
     have HB := n3_
     clear n0_ n1_ n2_ n3_
     (try clear hb)
     (try clear hb2)
     (try clear hk)
     (try clear hi)
     (try clear ho0)
     refine hK.out _ _ trivial (fun hHeld => ?_)
     clear hK K
     refine norm_ (a' := ?_) ?_ ?_
     rotate_left
     ·show Act.put _ (some 13) _ = _
      simp only [Act.put, List.setIfInBounds_toArray, List.set_cons_zero, List.set_cons_succ, i64_w, i32_w]
      rfl
     refine one_ (i := 8) (N := some 19) #[true, true, true, true, true, true, true, true, true, false, false] rfl rfl (one_of HT_.out (by kernel_rfl)) (by decide) (fun K hK => ?_)
     refine goes_ Try.func50 (by kernel_rfl) rfl #[.int .u64 (((bt a0 x4_1) - 48) % 256)] (by rfl) rfl rfl (by (try simp only [List.map_toArray, List.map_cons, List.map_nil]); first | done | rfl | exact congrArg (fun z => #[Value.int .u64 z]) (u8_u64 _) | (simp only [List.length_drop, List.length_take]; rfl)) ?_
     with_reducible refine (reckonerref02_FromWord.calls k1 (((bt a0 x4_1) - 48) % 256) t237 _ A7.out).mono ?_
     rintro e w14 ⟨v238, rfl, ho0, hb⟩
     refine ⟨_, rfl, ?_⟩
     have n0_ := Aside0.mk (Kd.R_elder' (by (with_reducible repeat (first | apply Kd.R_alloc | apply Kd.R_drewN | apply Kd.R_drew)); exact HO_3.out) (Kd.R_base ho0) hb)
     have n1_ := Aside0.mk (Kd.R_elder' (by (with_reducible repeat (first | apply Kd.R_alloc | apply Kd.R_drewN | apply Kd.R_drew)); exact HO233.out) (Kd.R_base ho0) hb)
     have n2_ := Aside0.mk (Kd.R_elder' (by (with_reducible repeat (first | apply Kd.R_alloc | apply Kd.R_drewN | apply Kd.R_drew)); exact HO236.out) (Kd.R_base ho0) hb)
     have n3_ := Aside0.mk (Kd.R_lower (Kd.R_new' (Kd.R_new' (Kd.R_new' ho0 (Kd.R_lt (by (with_reducible repeat (first | apply Kd.R_alloc | apply Kd.R_drewN | apply Kd.R_drew)); exact HO_3.out))) (Kd.R_lt (by (with_reducible repeat (first | apply Kd.R_alloc | apply Kd.R_drewN | apply Kd.R_drew)); exact HO233.out))) (Kd.R_lt (by (with_reducible repeat (first | apply Kd.R_alloc | apply Kd.R_drewN | apply Kd.R_drew)); exact HO236.out))) (below_size (by repeat (first | (with_reducible first | exact HB.out | apply below_alloc | apply pw_below_drewN | apply below_drew1) | exact HB.out))))
     have n4_ := Aside0.mk (below_step (by repeat (first | (with_reducible first | exact HB.out | apply below_alloc | apply pw_below_drewN | apply below_drew1) | exact HB.out)) hb)
     clear HO_3
     clear HO233
     clear HO236
     clear HB
     have HO_3 := n0_
     have HO233 := n1_
     have HO236 := n2_
     have HO239 := n3_
     have HB := n4_
     clear n0_ n1_ n2_ n3_ n4_
     (try clear hb)
     (try clear hb2)
     (try clear hk)
     (try clear hi)
     (try clear ho0)
     obtain ⟨Ao15, co15, eo15⟩ := Kd.R_slice HO236.out
     (first | subst eo15 | (injection eo15 with f1_ f2_ f3_; have f4_ := f1_.symm; have f5_ := f3_.symm; clear f1_ f2_ f3_; subst f4_; subst f5_))
     obtain ⟨Ao16, co16, eo16⟩ := Kd.R_slice HO239.out
     (first | subst eo16 | (injection eo16 with f1_ f2_ f3_; have f4_ := f1_.symm; have f5_ := f3_.symm; clear f1_ f2_ f3_; subst f4_; subst f5_))
     refine hK.out _ _ trivial (fun hHeld => ?_)
     clear hK K
     refine norm_ (a' := ?_) ?_ ?_
     rotate_left
     ·show Act.put _ (some 19) _ = _
      simp only [Act.put, List.setIfInBounds_toArray, List.set_cons_zero, List.set_cons_succ, i64_w, i32_w]
      rfl
     refine one_ (i := 9) (N := some 20) #[true, true, true, true, true, true, true, true, true, true, false] rfl rfl (one_of HT_.out (by kernel_rfl)) (by decide) (fun K hK => ?_)
     refine goes_ Try.func26 (by kernel_rfl) rfl #[.slice Ao15 t234.length co15, .slice Ao16 t237.length co16] (by rfl) rfl rfl (by (try simp only [List.map_toArray, List.map_cons, List.map_nil]); first | done | rfl | exact congrArg (fun z => #[Value.int .u64 z]) (u8_u64 _) | (simp only [List.length_drop, List.length_take]; rfl)) ?_
     with_reducible refine (reckonerref02_Add.calls k1 _ _ t234 _ _ t237 t240 _ ?side1 ?side2 ?side3 ?side4 A8.out).mono ?_
     (case side1 => repeat (first | exact (Kd.R_reads' HO236.out).2.2 | (with_reducible refine Kd.C_alloc ?_ _) | (with_reducible refine Kd.C_drewN ?_ _) | (with_reducible refine Kd.C_drew ?_)))
     (case side2 => exact (Kd.R_reads' HO236.out).2.1)
     (case side3 => repeat (first | exact (Kd.R_reads' HO239.out).2.2 | (with_reducible refine Kd.C_alloc ?_ _) | (with_reducible refine Kd.C_drewN ?_ _) | (with_reducible refine Kd.C_drew ?_)))
     (case side4 => exact (Kd.R_reads' HO239.out).2.1)
     rintro e w17 ⟨v241, rfl, ho0, hb⟩
     refine ⟨_, rfl, ?_⟩
     have n0_ := Aside0.mk (Kd.R_elder' (by (with_reducible repeat (first | apply Kd.R_alloc | apply Kd.R_drewN | apply Kd.R_drew)); exact HO_3.out) (Kd.R_base ho0) hb)
     have n1_ := Aside0.mk (Kd.R_elder' (by (with_reducible repeat (first | apply Kd.R_alloc | apply Kd.R_drewN | apply Kd.R_drew)); exact HO233.out) (Kd.R_base ho0) hb)
     have n2_ := Aside0.mk (Kd.R_elder' (by (with_reducible repeat (first | apply Kd.R_alloc | apply Kd.R_drewN | apply Kd.R_drew)); exact HO236.out) (Kd.R_base ho0) hb)
     have n3_ := Aside0.mk (Kd.R_elder' (by (with_reducible repeat (first | apply Kd.R_alloc | apply Kd.R_drewN | apply Kd.R_drew)); exact HO239.out) (Kd.R_base ho0) hb)
     have n4_ := Aside0.mk (Kd.R_lower (Kd.R_new' (Kd.R_new' (Kd.R_new' (Kd.R_new' ho0 (Kd.R_lt (by (with_reducible repeat (first | apply Kd.R_alloc | apply Kd.R_drewN | apply Kd.R_drew)); exact HO_3.out))) (Kd.R_lt (by (with_reducible repeat (first | apply Kd.R_alloc | apply Kd.R_drewN | apply Kd.R_drew)); exact HO233.out))) (Kd.R_lt (by (with_reducible repeat (first | apply Kd.R_alloc | apply Kd.R_drewN | apply Kd.R_drew)); exact HO236.out))) (Kd.R_lt (by (with_reducible repeat (first | apply Kd.R_alloc | apply Kd.R_drewN | apply Kd.R_drew)); exact HO239.out))) (below_size (by repeat (first | (with_reducible first | exact HB.out | apply below_alloc | apply pw_below_drewN | apply below_drew1) | exact HB.out))))
     have n5_ := Aside0.mk (below_step (by repeat (first | (with_reducible first | exact HB.out | apply below_alloc | apply pw_below_drewN | apply below_drew1) | exact HB.out)) hb)
     clear HO_3
     clear HO233
     clear HO236
     clear HO239
     clear HB
     have HO_3 := n0_
     have HO233 := n1_
     have HO236 := n2_
     have HO239 := n3_
     have HO242 := n4_
     have HB := n5_
     clear n0_ n1_ n2_ n3_ n4_ n5_
     (try clear hb)
     (try clear hb2)
     (try clear hk)
     (try clear hi)
     (try clear ho0)
     refine hK.out _ _ trivial (fun hHeld => ?_)
     clear hK K
     refine norm_ (a' := ?_) ?_ ?_
     rotate_left
     ·show Act.put _ (some 20) _ = _
      simp only [Act.put, List.setIfInBounds_toArray, List.set_cons_zero, List.set_cons_succ, i64_w, i32_w]
      rfl
     refine pure_ (i := 10) (N := some 3) (v := ?_) (a' := ?_) #[true, true, true, true, true, true, true, true, true, true, true] rfl rfl (any_of HT_.out (by kernel_rfl)) (fun _ _ _ h => h) (Or.inl ⟨by rfl, ?_⟩) ?_ ?_
     rotate_left
     ·intro w'
      go_simp
      with_reducible rfl
     rotate_left
     ·simp only [Act.put, List.setIfInBounds_toArray, List.set_cons_zero, List.set_cons_succ, i64_w, i32_w]
      rfl
     refine done_ (done_of HT_.out (by kernel_rfl)) ?_
     try go_wp2
     go_roundg k1
     case measure => have := HK1.out; omega
     case rel => exact ⟨(t240), (wrap64 (x4_1 + 1)), (by first | rfl | (simp; done) | (simp [*]; done)), H', ⟨by have := HK1.out; omega⟩, ⟨by (with_reducible repeat (first | apply Kd.R_alloc | apply Kd.R_drewN | apply Kd.R_drew)); exact Kd.R_mono HO242.out (fun _ hk => trivial)⟩, ⟨by repeat (first | (with_reducible first | exact HB.out | apply below_alloc | apply pw_below_drewN | apply below_drew1) | exact HB.out)⟩⟩
    ·rw [if_neg c5] at H
     exact absurd H (by simp)
   ·rw [if_neg c2] at H
    have c2b0 : decide (x4_1 < (a0.size : Int)) = false := decide_eq_false c2
    clear c2
    obtain rfl := Option.some.inj H
    go_wp2
    go_ret
    exact ⟨_, by first | rfl | (simp [errW_none, errW_some] <;> rfl) | (simp [*, errW_none, errW_some] <;> rfl), by (with_reducible repeat (first | apply Kd.R_alloc | apply Kd.R_drewN | apply Kd.R_drew)); exact HO_3.out, by repeat (first | (with_reducible first | exact HB.out | apply below_alloc | apply pw_below_drewN | apply below_drew1) | exact HB.out)⟩
/-! ### reckonerlaw02_awake: function 15 -/
def reckonerlaw02_awake.f (k : Nat)  : Option (Bool) := (nat_Pow.f (([10] : List Int)) 20).bind fun bt246 => ((nat_Square.f (([18446744073709551615] : List Int))).bind fun bt253 => ((nat_DivMod.f (([7766279631452241920, 5] : List Int)) (([3] : List Int))).bind fun bt263 => ((nat_Sub.f (([1] : List Int)) (([2] : List Int))).bind fun bt276 => (if bt246.2 = 0 then ((reckonerref02_Parse.f k (⟨#[49, 48, 48, 48, 48, 48, 48, 48, 48, 48, 48, 48, 48, 48, 48, 48, 48, 48, 48, 48, 48]⟩ : ByteArray)).bind fun t280 => ((reckonerref02_Is.f k bt246.1 t280).bind fun t283 => (if t283 = true then (if bt253.2 = 0 then ((reckonerref02_Is.f k bt253.1 (([1, 18446744073709551614] : List Int))).bind fun t287 => (if t287 = true then (if bt263.2.2 = 0 then ((reckonerref02_Parse.f k (⟨#[51, 51, 51, 51, 51, 51, 51, 51, 51, 51, 51, 51, 51, 51, 51, 51, 51, 51, 51, 51]⟩ : ByteArray)).bind fun t288 => ((reckonerref02_Is.f k bt263.1 t288).bind fun t291 => (if t291 = true then ((reckonerref02_Is.f k bt263.2.1 (([1] : List Int))).bind fun t295 => (if t295 = true then (some (bt276.2 == 8)) else (none))) else (none)))) else (none)) else (none))) else (none)) else (none)))) else (none)))))
set_option maxHeartbeats 8000000 in
set_option maxRecDepth 100000 in
theorem reckonerlaw02_awake.calls (k : Nat)  (r : Bool) (w : World) (h : reckonerlaw02_awake.f k  = some r) :
  Calls Try.prog 15 #[] w fun e w' => e = .returned (.bool r) ∧ Below w.heap.size w w' := by
 have HB := Aside0.mk (Below.refl w.heap.size w)
 have H : ((nat_Pow.f (([10] : List Int)) 20).bind fun bt246 => ((nat_Square.f (([18446744073709551615] : List Int))).bind fun bt253 => ((nat_DivMod.f (([7766279631452241920, 5] : List Int)) (([3] : List Int))).bind fun bt263 => ((nat_Sub.f (([1] : List Int)) (([2] : List Int))).bind fun bt276 => (if bt246.2 = 0 then ((reckonerref02_Parse.f k (⟨#[49, 48, 48, 48, 48, 48, 48, 48, 48, 48, 48, 48, 48, 48, 48, 48, 48, 48, 48, 48, 48]⟩ : ByteArray)).bind fun t280 => ((reckonerref02_Is.f k bt246.1 t280).bind fun t283 => (if t283 = true then (if bt253.2 = 0 then ((reckonerref02_Is.f k bt253.1 (([1, 18446744073709551614] : List Int))).bind fun t287 => (if t287 = true then (if bt263.2.2 = 0 then ((reckonerref02_Parse.f k (⟨#[51, 51, 51, 51, 51, 51, 51, 51, 51, 51, 51, 51, 51, 51, 51, 51, 51, 51, 51, 51]⟩ : ByteArray)).bind fun t288 => ((reckonerref02_Is.f k bt263.1 t288).bind fun t291 => (if t291 = true then ((reckonerref02_Is.f k bt263.2.1 (([1] : List Int))).bind fun t295 => (if t295 = true then (some (bt276.2 == 8)) else (none))) else (none)))) else (none)) else (none))) else (none)) else (none)))) else (none)))))) = some r := h
 clear h
 obtain ⟨y243, hy243⟩ : ∃ y_ : List Int, y_ = (([10] : List Int)) := ⟨_, rfl⟩
 replace H : ((nat_Pow.f y243 20).bind fun bt246 => ((nat_Square.f (([18446744073709551615] : List Int))).bind fun bt253 => ((nat_DivMod.f (([7766279631452241920, 5] : List Int)) (([3] : List Int))).bind fun bt263 => ((nat_Sub.f (([1] : List Int)) (([2] : List Int))).bind fun bt276 => (if bt246.2 = 0 then ((reckonerref02_Parse.f k (⟨#[49, 48, 48, 48, 48, 48, 48, 48, 48, 48, 48, 48, 48, 48, 48, 48, 48, 48, 48, 48, 48]⟩ : ByteArray)).bind fun t280 => ((reckonerref02_Is.f k bt246.1 t280).bind fun t283 => (if t283 = true then (if bt253.2 = 0 then ((reckonerref02_Is.f k bt253.1 (([1, 18446744073709551614] : List Int))).bind fun t287 => (if t287 = true then (if bt263.2.2 = 0 then ((reckonerref02_Parse.f k (⟨#[51, 51, 51, 51, 51, 51, 51, 51, 51, 51, 51, 51, 51, 51, 51, 51, 51, 51, 51, 51]⟩ : ByteArray)).bind fun t288 => ((reckonerref02_Is.f k bt263.1 t288).bind fun t291 => (if t291 = true then ((reckonerref02_Is.f k bt263.2.1 (([1] : List Int))).bind fun t295 => (if t295 = true then (some (bt276.2 == 8)) else (none))) else (none)))) else (none)) else (none))) else (none)) else (none)))) else (none)))))) = some r := by first | (rw [hy243]; with_reducible exact H) | (have H2_ := (Option.bind_some _ _).symm.trans H; rw [hy243]; with_reducible exact H2_) | (have H2_ := (Option.bind_some _ _).symm.trans H; with_reducible exact H2_) | with_reducible exact H | (rw [hy243]; exact H) | exact H
 have Ny243 := Aside0.mk hy243
 clear hy243
 replace H := Option.bind_eq_some_iff.mp H
 obtain ⟨⟨t246, t247⟩, A10, H⟩ := H
 replace H : ((nat_Square.f (([18446744073709551615] : List Int))).bind fun bt253 => ((nat_DivMod.f (([7766279631452241920, 5] : List Int)) (([3] : List Int))).bind fun bt263 => ((nat_Sub.f (([1] : List Int)) (([2] : List Int))).bind fun bt276 => (if t247 = 0 then ((reckonerref02_Parse.f k (⟨#[49, 48, 48, 48, 48, 48, 48, 48, 48, 48, 48, 48, 48, 48, 48, 48, 48, 48, 48, 48, 48]⟩ : ByteArray)).bind fun t280 => ((reckonerref02_Is.f k t246 t280).bind fun t283 => (if t283 = true then (if bt253.2 = 0 then ((reckonerref02_Is.f k bt253.1 (([1, 18446744073709551614] : List Int))).bind fun t287 => (if t287 = true then (if bt263.2.2 = 0 then ((reckonerref02_Parse.f k (⟨#[51, 51, 51, 51, 51, 51, 51, 51, 51, 51, 51, 51, 51, 51, 51, 51, 51, 51, 51, 51]⟩ : ByteArray)).bind fun t288 => ((reckonerref02_Is.f k bt263.1 t288).bind fun t291 => (if t291 = true then ((reckonerref02_Is.f k bt263.2.1 (([1] : List Int))).bind fun t295 => (if t295 = true then (some (bt276.2 == 8)) else (none))) else (none)))) else (none)) else (none))) else (none)) else (none)))) else (none))))) = some r := H
 have A1 := Aside0.mk A10
 clear A10
 obtain ⟨y250, hy250⟩ : ∃ y_ : List Int, y_ = (([18446744073709551615] : List Int)) := ⟨_, rfl⟩
 replace H : ((nat_Square.f y250).bind fun bt253 => ((nat_DivMod.f (([7766279631452241920, 5] : List Int)) (([3] : List Int))).bind fun bt263 => ((nat_Sub.f (([1] : List Int)) (([2] : List Int))).bind fun bt276 => (if t247 = 0 then ((reckonerref02_Parse.f k (⟨#[49, 48, 48, 48, 48, 48, 48, 48, 48, 48, 48, 48, 48, 48, 48, 48, 48, 48, 48, 48, 48]⟩ : ByteArray)).bind fun t280 => ((reckonerref02_Is.f k t246 t280).bind fun t283 => (if t283 = true then (if bt253.2 = 0 then ((reckonerref02_Is.f k bt253.1 (([1, 18446744073709551614] : List Int))).bind fun t287 => (if t287 = true then (if bt263.2.2 = 0 then ((reckonerref02_Parse.f k (⟨#[51, 51, 51, 51, 51, 51, 51, 51, 51, 51, 51, 51, 51, 51, 51, 51, 51, 51, 51, 51]⟩ : ByteArray)).bind fun t288 => ((reckonerref02_Is.f k bt263.1 t288).bind fun t291 => (if t291 = true then ((reckonerref02_Is.f k bt263.2.1 (([1] : List Int))).bind fun t295 => (if t295 = true then (some (bt276.2 == 8)) else (none))) else (none)))) else (none)) else (none))) else (none)) else (none)))) else (none))))) = some r := by first | (rw [hy250]; with_reducible exact H) | (have H2_ := (Option.bind_some _ _).symm.trans H; rw [hy250]; with_reducible exact H2_) | (have H2_ := (Option.bind_some _ _).symm.trans H; with_reducible exact H2_) | with_reducible exact H | (rw [hy250]; exact H) | exact H
 have Ny250 := Aside0.mk hy250
 clear hy250
 replace H := Option.bind_eq_some_iff.mp H
 obtain ⟨⟨t253, t254⟩, A20, H⟩ := H
 replace H : ((nat_DivMod.f (([7766279631452241920, 5] : List Int)) (([3] : List Int))).bind fun bt263 => ((nat_Sub.f (([1] : List Int)) (([2] : List Int))).bind fun bt276 => (if t247 = 0 then ((reckonerref02_Parse.f k (⟨#[49, 48, 48, 48, 48, 48, 48, 48, 48, 48, 48, 48, 48, 48, 48, 48, 48, 48, 48, 48, 48]⟩ : ByteArray)).bind fun t280 => ((reckonerref02_Is.f k t246 t280).bind fun t283 => (if t283 = true then (if t254 = 0 then ((reckonerref02_Is.f k t253 (([1, 18446744073709551614] : List Int))).bind fun t287 => (if t287 = true then (if bt263.2.2 = 0 then ((reckonerref02_Parse.f k (⟨#[51, 51, 51, 51, 51, 51, 51, 51, 51, 51, 51, 51, 51, 51, 51, 51, 51, 51, 51, 51]⟩ : ByteArray)).bind fun t288 => ((reckonerref02_Is.f k bt263.1 t288).bind fun t291 => (if t291 = true then ((reckonerref02_Is.f k bt263.2.1 (([1] : List Int))).bind fun t295 => (if t295 = true then (some (bt276.2 == 8)) else (none))) else (none)))) else (none)) else (none))) else (none)) else (none)))) else (none)))) = some r := H
 have A2 := Aside0.mk A20
 clear A20
 obtain ⟨y257, hy257⟩ : ∃ y_ : List Int, y_ = (([7766279631452241920, 5] : List Int)) := ⟨_, rfl⟩
 replace H : ((nat_DivMod.f y257 (([3] : List Int))).bind fun bt263 => ((nat_Sub.f (([1] : List Int)) (([2] : List Int))).bind fun bt276 => (if t247 = 0 then ((reckonerref02_Parse.f k (⟨#[49, 48, 48, 48, 48, 48, 48, 48, 48, 48, 48, 48, 48, 48, 48, 48, 48, 48, 48, 48, 48]⟩ : ByteArray)).bind fun t280 => ((reckonerref02_Is.f k t246 t280).bind fun t283 => (if t283 = true then (if t254 = 0 then ((reckonerref02_Is.f k t253 (([1, 18446744073709551614] : List Int))).bind fun t287 => (if t287 = true then (if bt263.2.2 = 0 then ((reckonerref02_Parse.f k (⟨#[51, 51, 51, 51, 51, 51, 51, 51, 51, 51, 51, 51, 51, 51, 51, 51, 51, 51, 51, 51]⟩ : ByteArray)).bind fun t288 => ((reckonerref02_Is.f k bt263.1 t288).bind fun t291 => (if t291 = true then ((reckonerref02_Is.f k bt263.2.1 (([1] : List Int))).bind fun t295 => (if t295 = true then (some (bt276.2 == 8)) else (none))) else (none)))) else (none)) else (none))) else (none)) else (none)))) else (none)))) = some r := by first | (rw [hy257]; with_reducible exact H) | (have H2_ := (Option.bind_some _ _).symm.trans H; rw [hy257]; with_reducible exact H2_) | (have H2_ := (Option.bind_some _ _).symm.trans H; with_reducible exact H2_) | with_reducible exact H | (rw [hy257]; exact H) | exact H
 have Ny257 := Aside0.mk hy257
 clear hy257
 obtain ⟨y260, hy260⟩ : ∃ y_ : List Int, y_ = (([3] : List Int)) := ⟨_, rfl⟩
 replace H : ((nat_DivMod.f y257 y260).bind fun bt263 => ((nat_Sub.f (([1] : List Int)) (([2] : List Int))).bind fun bt276 => (if t247 = 0 then ((reckonerref02_Parse.f k (⟨#[49, 48, 48, 48, 48, 48, 48, 48, 48, 48, 48, 48, 48, 48, 48, 48, 48, 48, 48, 48, 48]⟩ : ByteArray)).bind fun t280 => ((reckonerref02_Is.f k t246 t280).bind fun t283 => (if t283 = true then (if t254 = 0 then ((reckonerref02_Is.f k t253 (([1, 18446744073709551614] : List Int))).bind fun t287 => (if t287 = true then (if bt263.2.2 = 0 then ((reckonerref02_Parse.f k (⟨#[51, 51, 51, 51, 51, 51, 51, 51, 51, 51, 51, 51, 51, 51, 51, 51, 51, 51, 51, 51]⟩ : ByteArray)).bind fun t288 => ((reckonerref02_Is.f k bt263.1 t288).bind fun t291 => (if t291 = true then ((reckonerref02_Is.f k bt263.2.1 (([1] : List Int))).bind fun t295 => (if t295 = true then (some (bt276.2 == 8)) else (none))) else (none)))) else (none)) else (none))) else (none)) else (none)))) else (none)))) = some r := by first | (rw [hy260]; with_reducible exact H) | (have H2_ := (Option.bind_some _ _).symm.trans H; rw [hy260]; with_reducible exact H2_) | (have H2_ := (Option.bind_some _ _).symm.trans H; with_reducible exact H2_) | with_reducible exact H | (rw [hy260]; exact H) | exact H
 have Ny260 := Aside0.mk hy260
 clear hy260
 replace H := Option.bind_eq_some_iff.mp H
 obtain ⟨⟨t263, t264, t265⟩, A30, H⟩ := H
 replace H : ((nat_Sub.f (([1] : List Int)) (([2] : List Int))).bind fun bt276 => (if t247 = 0 then ((reckonerref02_Parse.f k (⟨#[49, 48, 48, 48, 48, 48, 48, 48, 48, 48, 48, 48, 48, 48, 48, 48, 48, 48, 48, 48, 48]⟩ : ByteArray)).bind fun t280 => ((reckonerref02_Is.f k t246 t280).bind fun t283 => (if t283 = true then (if t254 = 0 then ((reckonerref02_Is.f k t253 (([1, 18446744073709551614] : List Int))).bind fun t287 => (if t287 = true then (if t265 = 0 then ((reckonerref02_Parse.f k (⟨#[51, 51, 51, 51, 51, 51, 51, 51, 51, 51, 51, 51, 51, 51, 51, 51, 51, 51, 51, 51]⟩ : ByteArray)).bind fun t288 => ((reckonerref02_Is.f k t263 t288).bind fun t291 => (if t291 = true then ((reckonerref02_Is.f k t264 (([1] : List Int))).bind fun t295 => (if t295 = true then (some (bt276.2 == 8)) else (none))) else (none)))) else (none)) else (none))) else (none)) else (none)))) else (none))) = some r := H
 have A3 := Aside0.mk A30
 clear A30
 obtain ⟨y270, hy270⟩ : ∃ y_ : List Int, y_ = (([1] : List Int)) := ⟨_, rfl⟩
 replace H : ((nat_Sub.f y270 (([2] : List Int))).bind fun bt276 => (if t247 = 0 then ((reckonerref02_Parse.f k (⟨#[49, 48, 48, 48, 48, 48, 48, 48, 48, 48, 48, 48, 48, 48, 48, 48, 48, 48, 48, 48, 48]⟩ : ByteArray)).bind fun t280 => ((reckonerref02_Is.f k t246 t280).bind fun t283 => (if t283 = true then (if t254 = 0 then ((reckonerref02_Is.f k t253 (([1, 18446744073709551614] : List Int))).bind fun t287 => (if t287 = true then (if t265 = 0 then ((reckonerref02_Parse.f k (⟨#[51, 51, 51, 51, 51, 51, 51, 51, 51, 51, 51, 51, 51, 51, 51, 51, 51, 51, 51, 51]⟩ : ByteArray)).bind fun t288 => ((reckonerref02_Is.f k t263 t288).bind fun t291 => (if t291 = true then ((reckonerref02_Is.f k t264 (([1] : List Int))).bind fun t295 => (if t295 = true then (some (bt276.2 == 8)) else (none))) else (none)))) else (none)) else (none))) else (none)) else (none)))) else (none))) = some r := by first | (rw [hy270]; with_reducible exact H) | (have H2_ := (Option.bind_some _ _).symm.trans H; rw [hy270]; with_reducible exact H2_) | (have H2_ := (Option.bind_some _ _).symm.trans H; with_reducible exact H2_) | with_reducible exact H | (rw [hy270]; exact H) | exact H
 have Ny270 := Aside0.mk hy270
 clear hy270
 obtain ⟨y273, hy273⟩ : ∃ y_ : List Int, y_ = (([2] : List Int)) := ⟨_, rfl⟩
 replace H : ((nat_Sub.f y270 y273).bind fun bt276 => (if t247 = 0 then ((reckonerref02_Parse.f k (⟨#[49, 48, 48, 48, 48, 48, 48, 48, 48, 48, 48, 48, 48, 48, 48, 48, 48, 48, 48, 48, 48]⟩ : ByteArray)).bind fun t280 => ((reckonerref02_Is.f k t246 t280).bind fun t283 => (if t283 = true then (if t254 = 0 then ((reckonerref02_Is.f k t253 (([1, 18446744073709551614] : List Int))).bind fun t287 => (if t287 = true then (if t265 = 0 then ((reckonerref02_Parse.f k (⟨#[51, 51, 51, 51, 51, 51, 51, 51, 51, 51, 51, 51, 51, 51, 51, 51, 51, 51, 51, 51]⟩ : ByteArray)).bind fun t288 => ((reckonerref02_Is.f k t263 t288).bind fun t291 => (if t291 = true then ((reckonerref02_Is.f k t264 (([1] : List Int))).bind fun t295 => (if t295 = true then (some (bt276.2 == 8)) else (none))) else (none)))) else (none)) else (none))) else (none)) else (none)))) else (none))) = some r := by first | (rw [hy273]; with_reducible exact H) | (have H2_ := (Option.bind_some _ _).symm.trans H; rw [hy273]; with_reducible exact H2_) | (have H2_ := (Option.bind_some _ _).symm.trans H; with_reducible exact H2_) | with_reducible exact H | (rw [hy273]; exact H) | exact H
 have Ny273 := Aside0.mk hy273
 clear hy273
 replace H := Option.bind_eq_some_iff.mp H
 obtain ⟨⟨t276, t277⟩, A40, H⟩ := H
 replace H : (if t247 = 0 then ((reckonerref02_Parse.f k (⟨#[49, 48, 48, 48, 48, 48, 48, 48, 48, 48, 48, 48, 48, 48, 48, 48, 48, 48, 48, 48, 48]⟩ : ByteArray)).bind fun t280 => ((reckonerref02_Is.f k t246 t280).bind fun t283 => (if t283 = true then (if t254 = 0 then ((reckonerref02_Is.f k t253 (([1, 18446744073709551614] : List Int))).bind fun t287 => (if t287 = true then (if t265 = 0 then ((reckonerref02_Parse.f k (⟨#[51, 51, 51, 51, 51, 51, 51, 51, 51, 51, 51, 51, 51, 51, 51, 51, 51, 51, 51, 51]⟩ : ByteArray)).bind fun t288 => ((reckonerref02_Is.f k t263 t288).bind fun t291 => (if t291 = true then ((reckonerref02_Is.f k t264 (([1] : List Int))).bind fun t295 => (if t295 = true then (some (t277 == 8)) else (none))) else (none)))) else (none)) else (none))) else (none)) else (none)))) else (none)) = some r := H
 have A4 := Aside0.mk A40
 clear A40
 by_cases c5 : t247 = 0
 ·rw [if_pos c5] at H
  have c5b0 : (t247 == 0) = true := beq_iff_eq.mpr c5
  have c5b1 : (t247 != 0) = false := bne_eq_false_iff_eq.mpr c5
  clear c5
  replace H := Option.bind_eq_some_iff.mp H
  obtain ⟨t280, A60, H⟩ := H
  replace H : ((reckonerref02_Is.f k t246 t280).bind fun t283 => (if t283 = true then (if t254 = 0 then ((reckonerref02_Is.f k t253 (([1, 18446744073709551614] : List Int))).bind fun t287 => (if t287 = true then (if t265 = 0 then ((reckonerref02_Parse.f k (⟨#[51, 51, 51, 51, 51, 51, 51, 51, 51, 51, 51, 51, 51, 51, 51, 51, 51, 51, 51, 51]⟩ : ByteArray)).bind fun t288 => ((reckonerref02_Is.f k t263 t288).bind fun t291 => (if t291 = true then ((reckonerref02_Is.f k t264 (([1] : List Int))).bind fun t295 => (if t295 = true then (some (t277 == 8)) else (none))) else (none)))) else (none)) else (none))) else (none)) else (none))) = some r := H
  have A6 := Aside0.mk A60
  clear A60
  replace H := Option.bind_eq_some_iff.mp H
  obtain ⟨t283, A70, H⟩ := H
  replace H : (if t283 = true then (if t254 = 0 then ((reckonerref02_Is.f k t253 (([1, 18446744073709551614] : List Int))).bind fun t287 => (if t287 = true then (if t265 = 0 then ((reckonerref02_Parse.f k (⟨#[51, 51, 51, 51, 51, 51, 51, 51, 51, 51, 51, 51, 51, 51, 51, 51, 51, 51, 51, 51]⟩ : ByteArray)).bind fun t288 => ((reckonerref02_Is.f k t263 t288).bind fun t291 => (if t291 = true then ((reckonerref02_Is.f k t264 (([1] : List Int))).bind fun t295 => (if t295 = true then (some (t277 == 8)) else (none))) else (none)))) else (none)) else (none))) else (none)) else (none)) = some r := H
  have A7 := Aside0.mk A70
  clear A70
  by_cases c8 : t283 = true
  ·subst c8
   have H1 : (if t254 = 0 then ((reckonerref02_Is.f k t253 (([1, 18446744073709551614] : List Int))).bind fun t287 => (if t287 = true then (if t265 = 0 then ((reckonerref02_Parse.f k (⟨#[51, 51, 51, 51, 51, 51, 51, 51, 51, 51, 51, 51, 51, 51, 51, 51, 51, 51, 51, 51]⟩ : ByteArray)).bind fun t288 => ((reckonerref02_Is.f k t263 t288).bind fun t291 => (if t291 = true then ((reckonerref02_Is.f k t264 (([1] : List Int))).bind fun t295 => (if t295 = true then (some (t277 == 8)) else (none))) else (none)))) else (none)) else (none))) else (none)) = some r := by rw [if_pos rfl] at H; exact H
   clear H
   have H := H1
   clear H1
   by_cases c9 : t254 = 0
   ·rw [if_pos c9] at H
    have c9b0 : (t254 == 0) = true := beq_iff_eq.mpr c9
    have c9b1 : (t254 != 0) = false := bne_eq_false_iff_eq.mpr c9
    clear c9
    obtain ⟨y284, hy284⟩ : ∃ y_ : List Int, y_ = (([1, 18446744073709551614] : List Int)) := ⟨_, rfl⟩
    replace H : ((reckonerref02_Is.f k t253 y284).bind fun t287 => (if t287 = true then (if t265 = 0 then ((reckonerref02_Parse.f k (⟨#[51, 51, 51, 51, 51, 51, 51, 51, 51, 51, 51, 51, 51, 51, 51, 51, 51, 51, 51, 51]⟩ : ByteArray)).bind fun t288 => ((reckonerref02_Is.f k t263 t288).bind fun t291 => (if t291 = true then ((reckonerref02_Is.f k t264 (([1] : List Int))).bind fun t295 => (if t295 = true then (some (t277 == 8)) else (none))) else (none)))) else (none)) else (none))) = some r := by first | (rw [hy284]; with_reducible exact H) | (have H2_ := (Option.bind_some _ _).symm.trans H; rw [hy284]; with_reducible exact H2_) | (have H2_ := (Option.bind_some _ _).symm.trans H; with_reducible exact H2_) | with_reducible exact H | (rw [hy284]; exact H) | exact H
    have Ny284 := Aside0.mk hy284
    clear hy284
    replace H := Option.bind_eq_some_iff.mp H
    obtain ⟨t287, A100, H⟩ := H
    replace H : (if t287 = true then (if t265 = 0 then ((reckonerref02_Parse.f k (⟨#[51, 51, 51, 51, 51, 51, 51, 51, 51, 51, 51, 51, 51, 51, 51, 51, 51, 51, 51, 51]⟩ : ByteArray)).bind fun t288 => ((reckonerref02_Is.f k t263 t288).bind fun t291 => (if t291 = true then ((reckonerref02_Is.f k t264 (([1] : List Int))).bind fun t295 => (if t295 = true then (some (t277 == 8)) else (none))) else (none)))) else (none)) else (none)) = some r := H
    have A10 := Aside0.mk A100
    clear A100
    by_cases c11 : t287 = true
    ·subst c11
     have H1 : (if t265 = 0 then ((reckonerref02_Parse.f k (⟨#[51, 51, 51, 51, 51, 51, 51, 51, 51, 51, 51, 51, 51, 51, 51, 51, 51, 51, 51, 51]⟩ : ByteArray)).bind fun t288 => ((reckonerref02_Is.f k t263 t288).bind fun t291 => (if t291 = true then ((reckonerref02_Is.f k t264 (([1] : List Int))).bind fun t295 => (if t295 = true then (some (t277 == 8)) else (none))) else (none)))) else (none)) = some r := by rw [if_pos rfl] at H; exact H
     clear H
     have H := H1
     clear H1
     by_cases c12 : t265 = 0
     ·rw [if_pos c12] at H
      have c12b0 : (t265 == 0) = true := beq_iff_eq.mpr c12
      have c12b1 : (t265 != 0) = false := bne_eq_false_iff_eq.mpr c12
      clear c12
      replace H := Option.bind_eq_some_iff.mp H
      obtain ⟨t288, A130, H⟩ := H
      replace H : ((reckonerref02_Is.f k t263 t288).bind fun t291 => (if t291 = true then ((reckonerref02_Is.f k t264 (([1] : List Int))).bind fun t295 => (if t295 = true then (some (t277 == 8)) else (none))) else (none))) = some r := H
      have A13 := Aside0.mk A130
      clear A130
      replace H := Option.bind_eq_some_iff.mp H
      obtain ⟨t291, A140, H⟩ := H
      replace H : (if t291 = true then ((reckonerref02_Is.f k t264 (([1] : List Int))).bind fun t295 => (if t295 = true then (some (t277 == 8)) else (none))) else (none)) = some r := H
      have A14 := Aside0.mk A140
      clear A140
      by_cases c15 : t291 = true
      ·subst c15
       have H1 : ((reckonerref02_Is.f k t264 (([1] : List Int))).bind fun t295 => (if t295 = true then (some (t277 == 8)) else (none))) = some r := by rw [if_pos rfl] at H; exact H
       clear H
       have H := H1
       clear H1
       obtain ⟨y292, hy292⟩ : ∃ y_ : List Int, y_ = (([1] : List Int)) := ⟨_, rfl⟩
       replace H : ((reckonerref02_Is.f k t264 y292).bind fun t295 => (if t295 = true then (some (t277 == 8)) else (none))) = some r := by first | (rw [hy292]; with_reducible exact H) | (have H2_ := (Option.bind_some _ _).symm.trans H; rw [hy292]; with_reducible exact H2_) | (have H2_ := (Option.bind_some _ _).symm.trans H; with_reducible exact H2_) | with_reducible exact H | (rw [hy292]; exact H) | exact H
       have Ny292 := Aside0.mk hy292
       clear hy292
       replace H := Option.bind_eq_some_iff.mp H
       obtain ⟨t295, A160, H⟩ := H
       replace H : (if t295 = true then (some (t277 == 8)) else (none)) = some r := H
       have A16 := Aside0.mk A160
       clear A160
       by_cases c17 : t295 = true
       ·subst c17
        have H1 : (some (t277 == 8)) = some r := by rw [if_pos rfl] at H; exact H
        clear H
        have H := H1
        clear H1
        obtain rfl := Option.some.inj H
        go_enter Try.func15, Try.ntmps15
        try simp only [List.append]
        go_wp2_with (first | ((with_reducible refine gate_dst (N := 11) rfl ?_); (try (refine gate_guard (by rfl) ?_; dsimp only)); refine Kd.R_lit (Kd.int .u64) _ 33 ?hg (N := 11) ?hd (xs := ([10] : List Int)) (inner := [.int .u64 10]) (ok := fun _ => True) (okp := fun _ => True) ?hr ?hp (fun _ hk => hk) trivial (Below.refl _ _) (Nat.le_refl _) (by simp) ?_; (case hd => rfl); (case hg => rfl); (case hr => first | (go_simp; done) | (go_simp; rfl)); (case hp => exact (Reps.one (show Kd.M (Kd.int .u64) _ _ _ 10 [.int .u64 10] from rfl) (Reps.none _ _))); intro v244 w18 ho19 hb hg_ hnew_; clear hg_ hnew_; (first | rw [← Ny243.out] at ho19 | (simp only [Int.reduceToNat] at ho19; rw [← Ny243.out] at ho19)); have n0_ := Aside0.mk (Kd.R_lower ho19 (below_size (by repeat (first | (with_reducible first | exact HB.out | apply below_alloc | apply pw_below_drewN | apply below_drew1) | exact HB.out)))); have n1_ := Aside0.mk (below_step (by repeat (first | (with_reducible first | exact HB.out | apply below_alloc | apply pw_below_drewN | apply below_drew1) | exact HB.out)) hb); clear HB; have HO245 := n0_; have HB := n1_; clear n0_ n1_; clear hb ho19; obtain ⟨Ao20, co20, eo20⟩ := Kd.R_slice HO245.out; subst eo20) | ((with_reducible refine gate_callee (f := 11) rfl ?_); refine goesL_ (some 12) rfl rfl Try.func11 (by kernel_rfl) rfl #[.slice Ao20 y243.length co20, .int .i64 20] rfl (by (try simp only [List.map_toArray, List.map_cons, List.map_nil]); first | done | rfl | (simp only [List.length_drop, List.length_take]; rfl)) ?_; (with_reducible refine (nat_Pow.calls _ _ y243 20 t246 t247 _ ?side1 ?side2 A1.out).mono ?_); (case side1 => repeat (first | exact (Kd.R_reads' HO245.out).2.2 | (with_reducible refine Kd.C_alloc ?_ _) | (with_reducible refine Kd.C_drewN ?_ _) | (with_reducible refine Kd.C_drew ?_))); (case side2 => exact (Kd.R_reads' HO245.out).2.1); rintro e w21 ⟨v248, rfl, ho0, hb⟩; refine ⟨_, rfl, ?_⟩; have n0_ := Aside0.mk (Kd.R_elder' (by (with_reducible repeat (first | apply Kd.R_alloc | apply Kd.R_drewN | apply Kd.R_drew)); exact HO245.out) (Kd.R_base ho0) hb); have n1_ := Aside0.mk (Kd.R_lower (Kd.R_new' ho0 (Kd.R_lt (by (with_reducible repeat (first | apply Kd.R_alloc | apply Kd.R_drewN | apply Kd.R_drew)); exact HO245.out))) (below_size (by repeat (first | (with_reducible first | exact HB.out | apply below_alloc | apply pw_below_drewN | apply below_drew1) | exact HB.out)))); have n2_ := Aside0.mk (below_step (by repeat (first | (with_reducible first | exact HB.out | apply below_alloc | apply pw_below_drewN | apply below_drew1) | exact HB.out)) hb); clear HO245; clear HB; have HO245 := n0_; have HO249 := n1_; have HB := n2_; clear n0_ n1_ n2_; (try clear hb); (try clear hb2); (try clear hk); (try clear hi); (try clear ho0)) | ((with_reducible refine gate_dst (N := 16) rfl ?_); (try (refine gate_guard (by rfl) ?_; dsimp only)); refine Kd.R_lit (Kd.int .u64) _ 33 ?hg (N := 16) ?hd (xs := ([18446744073709551615] : List Int)) (inner := [.int .u64 18446744073709551615]) (ok := fun _ => True) (okp := fun _ => True) ?hr ?hp (fun _ hk => hk) trivial (Below.refl _ _) (Nat.le_refl _) (by simp) ?_; (case hd => rfl); (case hg => rfl); (case hr => first | (go_simp; done) | (go_simp; rfl)); (case hp => exact (Reps.one (show Kd.M (Kd.int .u64) _ _ _ 18446744073709551615 [.int .u64 18446744073709551615] from rfl) (Reps.none _ _))); intro v251 w22 ho23 hb hg_ hnew_; clear hg_ hnew_; (first | rw [← Ny250.out] at ho23 | (simp only [Int.reduceToNat] at ho23; rw [← Ny250.out] at ho23)); have n0_ := Aside0.mk (Kd.R_elder' (by (with_reducible repeat (first | apply Kd.R_alloc | apply Kd.R_drewN | apply Kd.R_drew)); exact HO245.out) (Kd.R_base ho23) hb); have n1_ := Aside0.mk (Kd.R_elder' (by (with_reducible repeat (first | apply Kd.R_alloc | apply Kd.R_drewN | apply Kd.R_drew)); exact HO249.out) (Kd.R_base ho23) hb); have n2_ := Aside0.mk (Kd.R_lower (Kd.R_new' (Kd.R_new' ho23 (Kd.R_lt (by (with_reducible repeat (first | apply Kd.R_alloc | apply Kd.R_drewN | apply Kd.R_drew)); exact HO245.out))) (Kd.R_lt (by (with_reducible repeat (first | apply Kd.R_alloc | apply Kd.R_drewN | apply Kd.R_drew)); exact HO249.out))) (below_size (by repeat (first | (with_reducible first | exact HB.out | apply below_alloc | apply pw_below_drewN | apply below_drew1) | exact HB.out)))); have n3_ := Aside0.mk (below_step (by repeat (first | (with_reducible first | exact HB.out | apply below_alloc | apply pw_below_drewN | apply below_drew1) | exact HB.out)) hb); clear HO245; clear HO249; clear HB; have HO245 := n0_; have HO249 := n1_; have HO252 := n2_; have HB := n3_; clear n0_ n1_ n2_ n3_; clear hb ho23; obtain ⟨Ao24, co24, eo24⟩ := Kd.R_slice HO252.out; subst eo24) | ((with_reducible refine gate_callee (f := 22) rfl ?_); refine goesL_ (some 17) rfl rfl Try.func22 (by kernel_rfl) rfl #[.slice Ao24 y250.length co24] rfl (by (try simp only [List.map_toArray, List.map_cons, List.map_nil]); first | done | rfl | (simp only [List.length_drop, List.length_take]; rfl)) ?_; (with_reducible refine (nat_Square.calls _ _ y250 t253 t254 _ ?side1 ?side2 A2.out).mono ?_); (case side1 => repeat (first | exact (Kd.R_reads' HO252.out).2.2 | (with_reducible refine Kd.C_alloc ?_ _) | (with_reducible refine Kd.C_drewN ?_ _) | (with_reducible refine Kd.C_drew ?_))); (case side2 => exact (Kd.R_reads' HO252.out).2.1); rintro e w25 ⟨v255, rfl, ho0, hb⟩; refine ⟨_, rfl, ?_⟩; have n0_ := Aside0.mk (Kd.R_elder' (by (with_reducible repeat (first | apply Kd.R_alloc | apply Kd.R_drewN | apply Kd.R_drew)); exact HO245.out) (Kd.R_base ho0) hb); have n1_ := Aside0.mk (Kd.R_elder' (by (with_reducible repeat (first | apply Kd.R_alloc | apply Kd.R_drewN | apply Kd.R_drew)); exact HO249.out) (Kd.R_base ho0) hb); have n2_ := Aside0.mk (Kd.R_elder' (by (with_reducible repeat (first | apply Kd.R_alloc | apply Kd.R_drewN | apply Kd.R_drew)); exact HO252.out) (Kd.R_base ho0) hb); have n3_ := Aside0.mk (Kd.R_lower (Kd.R_new' (Kd.R_new' (Kd.R_new' ho0 (Kd.R_lt (by (with_reducible repeat (first | apply Kd.R_alloc | apply Kd.R_drewN | apply Kd.R_drew)); exact HO245.out))) (Kd.R_lt (by (with_reducible repeat (first | apply Kd.R_alloc | apply Kd.R_drewN | apply Kd.R_drew)); exact HO249.out))) (Kd.R_lt (by (with_reducible repeat (first | apply Kd.R_alloc | apply Kd.R_drewN | apply Kd.R_drew)); exact HO252.out))) (below_size (by repeat (first | (with_reducible first | exact HB.out | apply below_alloc | apply pw_below_drewN | apply below_drew1) | exact HB.out)))); have n4_ := Aside0.mk (below_step (by repeat (first | (with_reducible first | exact HB.out | apply below_alloc | apply pw_below_drewN | apply below_drew1) | exact HB.out)) hb); clear HO245; clear HO249; clear HO252; clear HB; have HO245 := n0_; have HO249 := n1_; have HO252 := n2_; have HO256 := n3_; have HB := n4_; clear n0_ n1_ n2_ n3_ n4_; (try clear hb); (try clear hb2); (try clear hk); (try clear hi); (try clear ho0)) | ((with_reducible refine gate_dst (N := 21) rfl ?_); (try (refine gate_guard (by rfl) ?_; dsimp only)); refine Kd.R_lit (Kd.int .u64) _ 33 ?hg (N := 21) ?hd (xs := ([7766279631452241920, 5] : List Int)) (inner := [.int .u64 7766279631452241920, .int .u64 5]) (ok := fun _ => True) (okp := fun _ => True) ?hr ?hp (fun _ hk => hk) trivial (Below.refl _ _) (Nat.le_refl _) (by simp) ?_; (case hd => rfl); (case hg => rfl); (case hr => first | (go_simp; done) | (go_simp; rfl)); (case hp => exact (Reps.one (show Kd.M (Kd.int .u64) _ _ _ 7766279631452241920 [.int .u64 7766279631452241920] from rfl) (Reps.one (show Kd.M (Kd.int .u64) _ _ _ 5 [.int .u64 5] from rfl) (Reps.none _ _)))); intro v258 w26 ho27 hb hg_ hnew_; clear hg_ hnew_; (first | rw [← Ny257.out] at ho27 | (simp only [Int.reduceToNat] at ho27; rw [← Ny257.out] at ho27)); have n0_ := Aside0.mk (Kd.R_elder' (by (with_reducible repeat (first | apply Kd.R_alloc | apply Kd.R_drewN | apply Kd.R_drew)); exact HO245.out) (Kd.R_base ho27) hb); have n1_ := Aside0.mk (Kd.R_elder' (by (with_reducible repeat (first | apply Kd.R_alloc | apply Kd.R_drewN | apply Kd.R_drew)); exact HO249.out) (Kd.R_base ho27) hb); have n2_ := Aside0.mk (Kd.R_elder' (by (with_reducible repeat (first | apply Kd.R_alloc | apply Kd.R_drewN | apply Kd.R_drew)); exact HO252.out) (Kd.R_base ho27) hb); have n3_ := Aside0.mk (Kd.R_elder' (by (with_reducible repeat (first | apply Kd.R_alloc | apply Kd.R_drewN | apply Kd.R_drew)); exact HO256.out) (Kd.R_base ho27) hb); have n4_ := Aside0.mk (Kd.R_lower (Kd.R_new' (Kd.R_new' (Kd.R_new' (Kd.R_new' ho27 (Kd.R_lt (by (with_reducible repeat (first | apply Kd.R_alloc | apply Kd.R_drewN | apply Kd.R_drew)); exact HO245.out))) (Kd.R_lt (by (with_reducible repeat (first | apply Kd.R_alloc | apply Kd.R_drewN | apply Kd.R_drew)); exact HO249.out))) (Kd.R_lt (by (with_reducible repeat (first | apply Kd.R_alloc | apply Kd.R_drewN | apply Kd.R_drew)); exact HO252.out))) (Kd.R_lt (by (with_reducible repeat (first | apply Kd.R_alloc | apply Kd.R_drewN | apply Kd.R_drew)); exact HO256.out))) (below_size (by repeat (first | (with_reducible first | exact HB.out | apply below_alloc | apply pw_below_drewN | apply below_drew1) | exact HB.out)))); have n5_ := Aside0.mk (below_step (by repeat (first | (with_reducible first | exact HB.out | apply below_alloc | apply pw_below_drewN | apply below_drew1) | exact HB.out)) hb); clear HO245; clear HO249; clear HO252; clear HO256; clear HB; have HO245 := n0_; have HO249 := n1_; have HO252 := n2_; have HO256 := n3_; have HO259 := n4_; have HB := n5_; clear n0_ n1_ n2_ n3_ n4_ n5_; clear hb ho27) | ((with_reducible refine gate_dst (N := 22) rfl ?_); (try (refine gate_guard (by rfl) ?_; dsimp only)); refine Kd.R_lit (Kd.int .u64) _ 33 ?hg (N := 22) ?hd (xs := ([3] : List Int)) (inner := [.int .u64 3]) (ok := fun _ => True) (okp := fun _ => True) ?hr ?hp (fun _ hk => hk) trivial (Below.refl _ _) (Nat.le_refl _) (by simp) ?_; (case hd => rfl); (case hg => rfl); (case hr => first | (go_simp; done) | (go_simp; rfl)); (case hp => exact (Reps.one (show Kd.M (Kd.int .u64) _ _ _ 3 [.int .u64 3] from rfl) (Reps.none _ _))); intro v261 w28 ho29 hb hg_ hnew_; clear hg_ hnew_; (first | rw [← Ny260.out] at ho29 | (simp only [Int.reduceToNat] at ho29; rw [← Ny260.out] at ho29)); have n0_ := Aside0.mk (Kd.R_elder' (by (with_reducible repeat (first | apply Kd.R_alloc | apply Kd.R_drewN | apply Kd.R_drew)); exact HO245.out) (Kd.R_base ho29) hb); have n1_ := Aside0.mk (Kd.R_elder' (by (with_reducible repeat (first | apply Kd.R_alloc | apply Kd.R_drewN | apply Kd.R_drew)); exact HO249.out) (Kd.R_base ho29) hb); have n2_ := Aside0.mk (Kd.R_elder' (by (with_reducible repeat (first | apply Kd.R_alloc | apply Kd.R_drewN | apply Kd.R_drew)); exact HO252.out) (Kd.R_base ho29) hb); have n3_ := Aside0.mk (Kd.R_elder' (by (with_reducible repeat (first | apply Kd.R_alloc | apply Kd.R_drewN | apply Kd.R_drew)); exact HO256.out) (Kd.R_base ho29) hb); have n4_ := Aside0.mk (Kd.R_elder' (by (with_reducible repeat (first | apply Kd.R_alloc | apply Kd.R_drewN | apply Kd.R_drew)); exact HO259.out) (Kd.R_base ho29) hb); have n5_ := Aside0.mk (Kd.R_lower (Kd.R_new' (Kd.R_new' (Kd.R_new' (Kd.R_new' (Kd.R_new' ho29 (Kd.R_lt (by (with_reducible repeat (first | apply Kd.R_alloc | apply Kd.R_drewN | apply Kd.R_drew)); exact HO245.out))) (Kd.R_lt (by (with_reducible repeat (first | apply Kd.R_alloc | apply Kd.R_drewN | apply Kd.R_drew)); exact HO249.out))) (Kd.R_lt (by (with_reducible repeat (first | apply Kd.R_alloc | apply Kd.R_drewN | apply Kd.R_drew)); exact HO252.out))) (Kd.R_lt (by (with_reducible repeat (first | apply Kd.R_alloc | apply Kd.R_drewN | apply Kd.R_drew)); exact HO256.out))) (Kd.R_lt (by (with_reducible repeat (first | apply Kd.R_alloc | apply Kd.R_drewN | apply Kd.R_drew)); exact HO259.out))) (below_size (by repeat (first | (with_reducible first | exact HB.out | apply below_alloc | apply pw_below_drewN | apply below_drew1) | exact HB.out)))); have n6_ := Aside0.mk (below_step (by repeat (first | (with_reducible first | exact HB.out | apply below_alloc | apply pw_below_drewN | apply below_drew1) | exact HB.out)) hb); clear HO245; clear HO249; clear HO252; clear HO256; clear HO259; clear HB; have HO245 := n0_; have HO249 := n1_; have HO252 := n2_; have HO256 := n3_; have HO259 := n4_; have HO262 := n5_; have HB := n6_; clear n0_ n1_ n2_ n3_ n4_ n5_ n6_; clear hb ho29; obtain ⟨Ao30, co30, eo30⟩ := Kd.R_slice HO259.out; subst eo30; obtain ⟨Ao31, co31, eo31⟩ := Kd.R_slice HO262.out; subst eo31) | ((with_reducible refine gate_callee (f := 16) rfl ?_); refine goesL_ (some 23) rfl rfl Try.func16 (by kernel_rfl) rfl #[.slice Ao30 y257.length co30, .slice Ao31 y260.length co31] rfl (by (try simp only [List.map_toArray, List.map_cons, List.map_nil]); first | done | rfl | (simp only [List.length_drop, List.length_take]; rfl)) ?_; (with_reducible refine (nat_DivMod.calls _ _ y257 _ _ y260 t263 t264 t265 _ ?side1 ?side2 ?side3 ?side4 A3.out).mono ?_); (case side1 => repeat (first | exact (Kd.R_reads' HO259.out).2.2 | (with_reducible refine Kd.C_alloc ?_ _) | (with_reducible refine Kd.C_drewN ?_ _) | (with_reducible refine Kd.C_drew ?_))); (case side2 => exact (Kd.R_reads' HO259.out).2.1); (case side3 => repeat (first | exact (Kd.R_reads' HO262.out).2.2 | (with_reducible refine Kd.C_alloc ?_ _) | (with_reducible refine Kd.C_drewN ?_ _) | (with_reducible refine Kd.C_drew ?_))); (case side4 => exact (Kd.R_reads' HO262.out).2.1); rintro e w32 ⟨v266, v268, rfl, ho0, ho1, hb⟩; refine ⟨_, rfl, ?_⟩; have n0_ := Aside0.mk (Kd.R_mono (Kd.R_told (Kd.R_told (Kd.R_old (by (with_reducible repeat (first | apply Kd.R_alloc | apply Kd.R_drewN | apply Kd.R_drew)); exact HO245.out) hb) (Kd.R_base ho0)) (Kd.R_base ho1)) (fun _ h_ => h_.1)); have n1_ := Aside0.mk (Kd.R_mono (Kd.R_told (Kd.R_told (Kd.R_old (by (with_reducible repeat (first | apply Kd.R_alloc | apply Kd.R_drewN | apply Kd.R_drew)); exact HO249.out) hb) (Kd.R_base ho0)) (Kd.R_base ho1)) (fun _ h_ => h_.1)); have n2_ := Aside0.mk (Kd.R_mono (Kd.R_told (Kd.R_told (Kd.R_old (by (with_reducible repeat (first | apply Kd.R_alloc | apply Kd.R_drewN | apply Kd.R_drew)); exact HO252.out) hb) (Kd.R_base ho0)) (Kd.R_base ho1)) (fun _ h_ => h_.1)); have n3_ := Aside0.mk (Kd.R_mono (Kd.R_told (Kd.R_told (Kd.R_old (by (with_reducible repeat (first | apply Kd.R_alloc | apply Kd.R_drewN | apply Kd.R_drew)); exact HO256.out) hb) (Kd.R_base ho0)) (Kd.R_base ho1)) (fun _ h_ => h_.1)); have n4_ := Aside0.mk (Kd.R_mono (Kd.R_told (Kd.R_told (Kd.R_old (by (with_reducible repeat (first | apply Kd.R_alloc | apply Kd.R_drewN | apply Kd.R_drew)); exact HO259.out) hb) (Kd.R_base ho0)) (Kd.R_base ho1)) (fun _ h_ => h_.1)); have n5_ := Aside0.mk (Kd.R_mono (Kd.R_told (Kd.R_told (Kd.R_old (by (with_reducible repeat (first | apply Kd.R_alloc | apply Kd.R_drewN | apply Kd.R_drew)); exact HO262.out) hb) (Kd.R_base ho0)) (Kd.R_base ho1)) (fun _ h_ => h_.1)); have n6_ := Aside0.mk (Kd.R_lower (Kd.R_new' (Kd.R_new' (Kd.R_new' (Kd.R_new' (Kd.R_new' (Kd.R_new' ho0 (Kd.R_lt (by (with_reducible repeat (first | apply Kd.R_alloc | apply Kd.R_drewN | apply Kd.R_drew)); exact HO245.out))) (Kd.R_lt (by (with_reducible repeat (first | apply Kd.R_alloc | apply Kd.R_drewN | apply Kd.R_drew)); exact HO249.out))) (Kd.R_lt (by (with_reducible repeat (first | apply Kd.R_alloc | apply Kd.R_drewN | apply Kd.R_drew)); exact HO252.out))) (Kd.R_lt (by (with_reducible repeat (first | apply Kd.R_alloc | apply Kd.R_drewN | apply Kd.R_drew)); exact HO256.out))) (Kd.R_lt (by (with_reducible repeat (first | apply Kd.R_alloc | apply Kd.R_drewN | apply Kd.R_drew)); exact HO259.out))) (Kd.R_lt (by (with_reducible repeat (first | apply Kd.R_alloc | apply Kd.R_drewN | apply Kd.R_drew)); exact HO262.out))) (below_size (by repeat (first | (with_reducible first | exact HB.out | apply below_alloc | apply pw_below_drewN | apply below_drew1) | exact HB.out)))); have n7_ := Aside0.mk (Kd.R_lower (Kd.R_new' (Kd.R_new' (Kd.R_new' (Kd.R_new' (Kd.R_new' (Kd.R_new' ho1 (Kd.R_lt (by (with_reducible repeat (first | apply Kd.R_alloc | apply Kd.R_drewN | apply Kd.R_drew)); exact HO245.out))) (Kd.R_lt (by (with_reducible repeat (first | apply Kd.R_alloc | apply Kd.R_drewN | apply Kd.R_drew)); exact HO249.out))) (Kd.R_lt (by (with_reducible repeat (first | apply Kd.R_alloc | apply Kd.R_drewN | apply Kd.R_drew)); exact HO252.out))) (Kd.R_lt (by (with_reducible repeat (first | apply Kd.R_alloc | apply Kd.R_drewN | apply Kd.R_drew)); exact HO256.out))) (Kd.R_lt (by (with_reducible repeat (first | apply Kd.R_alloc | apply Kd.R_drewN | apply Kd.R_drew)); exact HO259.out))) (Kd.R_lt (by (with_reducible repeat (first | apply Kd.R_alloc | apply Kd.R_drewN | apply Kd.R_drew)); exact HO262.out))) (below_size (by repeat (first | (with_reducible first | exact HB.out | apply below_alloc | apply pw_below_drewN | apply below_drew1) | exact HB.out)))); have n8_ := Aside0.mk (below_step (by repeat (first | (with_reducible first | exact HB.out | apply below_alloc | apply pw_below_drewN | apply below_drew1) | exact HB.out)) hb); clear HO245; clear HO249; clear HO252; clear HO256; clear HO259; clear HO262; clear HB; have HO245 := n0_; have HO249 := n1_; have HO252 := n2_; have HO256 := n3_; have HO259 := n4_; have HO262 := n5_; have HO267 := n6_; have HO269 := n7_; have HB := n8_; clear n0_ n1_ n2_ n3_ n4_ n5_ n6_ n7_ n8_; (try clear hb); (try clear hb2); (try clear hk); (try clear hi); (try clear ho0); (try clear ho1)) | ((with_reducible refine gate_dst (N := 28) rfl ?_); (try (refine gate_guard (by rfl) ?_; dsimp only)); refine Kd.R_lit (Kd.int .u64) _ 33 ?hg (N := 28) ?hd (xs := ([1] : List Int)) (inner := [.int .u64 1]) (ok := fun _ => True) (okp := fun _ => True) ?hr ?hp (fun _ hk => hk) trivial (Below.refl _ _) (Nat.le_refl _) (by simp) ?_; (case hd => rfl); (case hg => rfl); (case hr => first | (go_simp; done) | (go_simp; rfl)); (case hp => exact (Reps.one (show Kd.M (Kd.int .u64) _ _ _ 1 [.int .u64 1] from rfl) (Reps.none _ _))); intro v271 w33 ho34 hb hg_ hnew_; clear hg_ hnew_; (first | rw [← Ny270.out] at ho34 | (simp only [Int.reduceToNat] at ho34; rw [← Ny270.out] at ho34)); have n0_ := Aside0.mk (Kd.R_elder' (by (with_reducible repeat (first | apply Kd.R_alloc | apply Kd.R_drewN | apply Kd.R_drew)); exact HO245.out) (Kd.R_base ho34) hb); have n1_ := Aside0.mk (Kd.R_elder' (by (with_reducible repeat (first | apply Kd.R_alloc | apply Kd.R_drewN | apply Kd.R_drew)); exact HO249.out) (Kd.R_base ho34) hb); have n2_ := Aside0.mk (Kd.R_elder' (by (with_reducible repeat (first | apply Kd.R_alloc | apply Kd.R_drewN | apply Kd.R_drew)); exact HO252.out) (Kd.R_base ho34) hb); have n3_ := Aside0.mk (Kd.R_elder' (by (with_reducible repeat (first | apply Kd.R_alloc | apply Kd.R_drewN | apply Kd.R_drew)); exact HO256.out) (Kd.R_base ho34) hb); have n4_ := Aside0.mk (Kd.R_elder' (by (with_reducible repeat (first | apply Kd.R_alloc | apply Kd.R_drewN | apply Kd.R_drew)); exact HO259.out) (Kd.R_base ho34) hb); have n5_ := Aside0.mk (Kd.R_elder' (by (with_reducible repeat (first | apply Kd.R_alloc | apply Kd.R_drewN | apply Kd.R_drew)); exact HO262.out) (Kd.R_base ho34) hb); have n6_ := Aside0.mk (Kd.R_elder' (by (with_reducible repeat (first | apply Kd.R_alloc | apply Kd.R_drewN | apply Kd.R_drew)); exact HO267.out) (Kd.R_base ho34) hb); have n7_ := Aside0.mk (Kd.R_elder' (by (with_reducible repeat (first | apply Kd.R_alloc | apply Kd.R_drewN | apply Kd.R_drew)); exact HO269.out) (Kd.R_base ho34) hb); have n8_ := Aside0.mk (Kd.R_lower (Kd.R_new' (Kd.R_new' (Kd.R_new' (Kd.R_new' (Kd.R_new' (Kd.R_new' (Kd.R_new' (Kd.R_new' ho34 (Kd.R_lt (by (with_reducible repeat (first | apply Kd.R_alloc | apply Kd.R_drewN | apply Kd.R_drew)); exact HO245.out))) (Kd.R_lt (by (with_reducible repeat (first | apply Kd.R_alloc | apply Kd.R_drewN | apply Kd.R_drew)); exact HO249.out))) (Kd.R_lt (by (with_reducible repeat (first | apply Kd.R_alloc | apply Kd.R_drewN | apply Kd.R_drew)); exact HO252.out))) (Kd.R_lt (by (with_reducible repeat (first | apply Kd.R_alloc | apply Kd.R_drewN | apply Kd.R_drew)); exact HO256.out))) (Kd.R_lt (by (with_reducible repeat (first | apply Kd.R_alloc | apply Kd.R_drewN | apply Kd.R_drew)); exact HO259.out))) (Kd.R_lt (by (with_reducible repeat (first | apply Kd.R_alloc | apply Kd.R_drewN | apply Kd.R_drew)); exact HO262.out))) (Kd.R_lt (by (with_reducible repeat (first | apply Kd.R_alloc | apply Kd.R_drewN | apply Kd.R_drew)); exact HO267.out))) (Kd.R_lt (by (with_reducible repeat (first | apply Kd.R_alloc | apply Kd.R_drewN | apply Kd.R_drew)); exact HO269.out))) (below_size (by repeat (first | (with_reducible first | exact HB.out | apply below_alloc | apply pw_below_drewN | apply below_drew1) | exact HB.out)))); have n9_ := Aside0.mk (below_step (by repeat (first | (with_reducible first | exact HB.out | apply below_alloc | apply pw_below_drewN | apply below_drew1) | exact HB.out)) hb); clear HO245; clear HO249; clear HO252; clear HO256; clear HO259; clear HO262; clear HO267; clear HO269; clear HB; have HO245 := n0_; have HO249 := n1_; have HO252 := n2_; have HO256 := n3_; have HO259 := n4_; have HO262 := n5_; have HO267 := n6_; have HO269 := n7_; have HO272 := n8_; have HB := n9_; clear n0_ n1_ n2_ n3_ n4_ n5_ n6_ n7_ n8_ n9_; clear hb ho34) | ((with_reducible refine gate_dst (N := 29) rfl ?_); (try (refine gate_guard (by rfl) ?_; dsimp only)); refine Kd.R_lit (Kd.int .u64) _ 33 ?hg (N := 29) ?hd (xs := ([2] : List Int)) (inner := [.int .u64 2]) (ok := fun _ => True) (okp := fun _ => True) ?hr ?hp (fun _ hk => hk) trivial (Below.refl _ _) (Nat.le_refl _) (by simp) ?_; (case hd => rfl); (case hg => rfl); (case hr => first | (go_simp; done) | (go_simp; rfl)); (case hp => exact (Reps.one (show Kd.M (Kd.int .u64) _ _ _ 2 [.int .u64 2] from rfl) (Reps.none _ _))); intro v274 w35 ho36 hb hg_ hnew_; clear hg_ hnew_; (first | rw [← Ny273.out] at ho36 | (simp only [Int.reduceToNat] at ho36; rw [← Ny273.out] at ho36)); have n0_ := Aside0.mk (Kd.R_elder' (by (with_reducible repeat (first | apply Kd.R_alloc | apply Kd.R_drewN | apply Kd.R_drew)); exact HO245.out) (Kd.R_base ho36) hb); have n1_ := Aside0.mk (Kd.R_elder' (by (with_reducible repeat (first | apply Kd.R_alloc | apply Kd.R_drewN | apply Kd.R_drew)); exact HO249.out) (Kd.R_base ho36) hb); have n2_ := Aside0.mk (Kd.R_elder' (by (with_reducible repeat (first | apply Kd.R_alloc | apply Kd.R_drewN | apply Kd.R_drew)); exact HO252.out) (Kd.R_base ho36) hb); have n3_ := Aside0.mk (Kd.R_elder' (by (with_reducible repeat (first | apply Kd.R_alloc | apply Kd.R_drewN | apply Kd.R_drew)); exact HO256.out) (Kd.R_base ho36) hb); have n4_ := Aside0.mk (Kd.R_elder' (by (with_reducible repeat (first | apply Kd.R_alloc | apply Kd.R_drewN | apply Kd.R_drew)); exact HO259.out) (Kd.R_base ho36) hb); have n5_ := Aside0.mk (Kd.R_elder' (by (with_reducible repeat (first | apply Kd.R_alloc | apply Kd.R_drewN | apply Kd.R_drew)); exact HO262.out) (Kd.R_base ho36) hb); have n6_ := Aside0.mk (Kd.R_elder' (by (with_reducible repeat (first | apply Kd.R_alloc | apply Kd.R_drewN | apply Kd.R_drew)); exact HO267.out) (Kd.R_base ho36) hb); have n7_ := Aside0.mk (Kd.R_elder' (by (with_reducible repeat (first | apply Kd.R_alloc | apply Kd.R_drewN | apply Kd.R_drew)); exact HO269.out) (Kd.R_base ho36) hb); have n8_ := Aside0.mk (Kd.R_elder' (by (with_reducible repeat (first | apply Kd.R_alloc | apply Kd.R_drewN | apply Kd.R_drew)); exact HO272.out) (Kd.R_base ho36) hb); have n9_ := Aside0.mk (Kd.R_lower (Kd.R_new' (Kd.R_new' (Kd.R_new' (Kd.R_new' (Kd.R_new' (Kd.R_new' (Kd.R_new' (Kd.R_new' (Kd.R_new' ho36 (Kd.R_lt (by (with_reducible repeat (first | apply Kd.R_alloc | apply Kd.R_drewN | apply Kd.R_drew)); exact HO245.out))) (Kd.R_lt (by (with_reducible repeat (first | apply Kd.R_alloc | apply Kd.R_drewN | apply Kd.R_drew)); exact HO249.out))) (Kd.R_lt (by (with_reducible repeat (first | apply Kd.R_alloc | apply Kd.R_drewN | apply Kd.R_drew)); exact HO252.out))) (Kd.R_lt (by (with_reducible repeat (first | apply Kd.R_alloc | apply Kd.R_drewN | apply Kd.R_drew)); exact HO256.out))) (Kd.R_lt (by (with_reducible repeat (first | apply Kd.R_alloc | apply Kd.R_drewN | apply Kd.R_drew)); exact HO259.out))) (Kd.R_lt (by (with_reducible repeat (first | apply Kd.R_alloc | apply Kd.R_drewN | apply Kd.R_drew)); exact HO262.out))) (Kd.R_lt (by (with_reducible repeat (first | apply Kd.R_alloc | apply Kd.R_drewN | apply Kd.R_drew)); exact HO267.out))) (Kd.R_lt (by (with_reducible repeat (first | apply Kd.R_alloc | apply Kd.R_drewN | apply Kd.R_drew)); exact HO269.out))) (Kd.R_lt (by (with_reducible repeat (first | apply Kd.R_alloc | apply Kd.R_drewN | apply Kd.R_drew)); exact HO272.out))) (below_size (by repeat (first | (with_reducible first | exact HB.out | apply below_alloc | apply pw_below_drewN | apply below_drew1) | exact HB.out)))); have n10_ := Aside0.mk (below_step (by repeat (first | (with_reducible first | exact HB.out | apply below_alloc | apply pw_below_drewN | apply below_drew1) | exact HB.out)) hb); clear HO245; clear HO249; clear HO252; clear HO256; clear HO259; clear HO262; clear HO267; clear HO269; clear HO272; clear HB; have HO245 := n0_; have HO249 := n1_; have HO252 := n2_; have HO256 := n3_; have HO259 := n4_; have HO262 := n5_; have HO267 := n6_; have HO269 := n7_; have HO272 := n8_; have HO275 := n9_; have HB := n10_; clear n0_ n1_ n2_ n3_ n4_ n5_ n6_ n7_ n8_ n9_ n10_; clear hb ho36; obtain ⟨Ao37, co37, eo37⟩ := Kd.R_slice HO272.out; subst eo37; obtain ⟨Ao38, co38, eo38⟩ := Kd.R_slice HO275.out; subst eo38) | ((with_reducible refine gate_callee (f := 25) rfl ?_); refine goesL_ (some 30) rfl rfl Try.func25 (by kernel_rfl) rfl #[.slice Ao37 y270.length co37, .slice Ao38 y273.length co38] rfl (by (try simp only [List.map_toArray, List.map_cons, List.map_nil]); first | done | rfl | (simp only [List.length_drop, List.length_take]; rfl)) ?_; (with_reducible refine (nat_Sub.calls _ _ y270 _ _ y273 t276 t277 _ ?side1 ?side2 ?side3 ?side4 A4.out).mono ?_); (case side1 => repeat (first | exact (Kd.R_reads' HO272.out).2.2 | (with_reducible refine Kd.C_alloc ?_ _) | (with_reducible refine Kd.C_drewN ?_ _) | (with_reducible refine Kd.C_drew ?_))); (case side2 => exact (Kd.R_reads' HO272.out).2.1); (case side3 => repeat (first | exact (Kd.R_reads' HO275.out).2.2 | (with_reducible refine Kd.C_alloc ?_ _) | (with_reducible refine Kd.C_drewN ?_ _) | (with_reducible refine Kd.C_drew ?_))); (case side4 => exact (Kd.R_reads' HO275.out).2.1); rintro e w39 ⟨v278, rfl, ho0, hb⟩; refine ⟨_, rfl, ?_⟩; have n0_ := Aside0.mk (Kd.R_elder' (by (with_reducible repeat (first | apply Kd.R_alloc | apply Kd.R_drewN | apply Kd.R_drew)); exact HO245.out) (Kd.R_base ho0) hb); have n1_ := Aside0.mk (Kd.R_elder' (by (with_reducible repeat (first | apply Kd.R_alloc | apply Kd.R_drewN | apply Kd.R_drew)); exact HO249.out) (Kd.R_base ho0) hb); have n2_ := Aside0.mk (Kd.R_elder' (by (with_reducible repeat (first | apply Kd.R_alloc | apply Kd.R_drewN | apply Kd.R_drew)); exact HO252.out) (Kd.R_base ho0) hb); have n3_ := Aside0.mk (Kd.R_elder' (by (with_reducible repeat (first | apply Kd.R_alloc | apply Kd.R_drewN | apply Kd.R_drew)); exact HO256.out) (Kd.R_base ho0) hb); have n4_ := Aside0.mk (Kd.R_elder' (by (with_reducible repeat (first | apply Kd.R_alloc | apply Kd.R_drewN | apply Kd.R_drew)); exact HO259.out) (Kd.R_base ho0) hb); have n5_ := Aside0.mk (Kd.R_elder' (by (with_reducible repeat (first | apply Kd.R_alloc | apply Kd.R_drewN | apply Kd.R_drew)); exact HO262.out) (Kd.R_base ho0) hb); have n6_ := Aside0.mk (Kd.R_elder' (by (with_reducible repeat (first | apply Kd.R_alloc | apply Kd.R_drewN | apply Kd.R_drew)); exact HO267.out) (Kd.R_base ho0) hb); have n7_ := Aside0.mk (Kd.R_elder' (by (with_reducible repeat (first | apply Kd.R_alloc | apply Kd.R_drewN | apply Kd.R_drew)); exact HO269.out) (Kd.R_base ho0) hb); have n8_ := Aside0.mk (Kd.R_elder' (by (with_reducible repeat (first | apply Kd.R_alloc | apply Kd.R_drewN | apply Kd.R_drew)); exact HO272.out) (Kd.R_base ho0) hb); have n9_ := Aside0.mk (Kd.R_elder' (by (with_reducible repeat (first | apply Kd.R_alloc | apply Kd.R_drewN | apply Kd.R_drew)); exact HO275.out) (Kd.R_base ho0) hb); have n10_ := Aside0.mk (Kd.R_lower (Kd.R_new' (Kd.R_new' (Kd.R_new' (Kd.R_new' (Kd.R_new' (Kd.R_new' (Kd.R_new' (Kd.R_new' (Kd.R_new' (Kd.R_new' ho0 (Kd.R_lt (by (with_reducible repeat (first | apply Kd.R_alloc | apply Kd.R_drewN | apply Kd.R_drew)); exact HO245.out))) (Kd.R_lt (by (with_reducible repeat (first | apply Kd.R_alloc | apply Kd.R_drewN | apply Kd.R_drew)); exact HO249.out))) (Kd.R_lt (by (with_reducible repeat (first | apply Kd.R_alloc | apply Kd.R_drewN | apply Kd.R_drew)); exact HO252.out))) (Kd.R_lt (by (with_reducible repeat (first | apply Kd.R_alloc | apply Kd.R_drewN | apply Kd.R_drew)); exact HO256.out))) (Kd.R_lt (by (with_reducible repeat (first | apply Kd.R_alloc | apply Kd.R_drewN | apply Kd.R_drew)); exact HO259.out))) (Kd.R_lt (by (with_reducible repeat (first | apply Kd.R_alloc | apply Kd.R_drewN | apply Kd.R_drew)); exact HO262.out))) (Kd.R_lt (by (with_reducible repeat (first | apply Kd.R_alloc | apply Kd.R_drewN | apply Kd.R_drew)); exact HO267.out))) (Kd.R_lt (by (with_reducible repeat (first | apply Kd.R_alloc | apply Kd.R_drewN | apply Kd.R_drew)); exact HO269.out))) (Kd.R_lt (by (with_reducible repeat (first | apply Kd.R_alloc | apply Kd.R_drewN | apply Kd.R_drew)); exact HO272.out))) (Kd.R_lt (by (with_reducible repeat (first | apply Kd.R_alloc | apply Kd.R_drewN | apply Kd.R_drew)); exact HO275.out))) (below_size (by repeat (first | (with_reducible first | exact HB.out | apply below_alloc | apply pw_below_drewN | apply below_drew1) | exact HB.out)))); have n11_ := Aside0.mk (below_step (by repeat (first | (with_reducible first | exact HB.out | apply below_alloc | apply pw_below_drewN | apply below_drew1) | exact HB.out)) hb); clear HO245; clear HO249; clear HO252; clear HO256; clear HO259; clear HO262; clear HO267; clear HO269; clear HO272; clear HO275; clear HB; have HO245 := n0_; have HO249 := n1_; have HO252 := n2_; have HO256 := n3_; have HO259 := n4_; have HO262 := n5_; have HO267 := n6_; have HO269 := n7_; have HO272 := n8_; have HO275 := n9_; have HO279 := n10_; have HB := n11_; clear n0_ n1_ n2_ n3_ n4_ n5_ n6_ n7_ n8_ n9_ n10_ n11_; (try clear hb); (try clear hb2); (try clear hk); (try clear hi); (try clear ho0)) | (go_at_call 51; (with_reducible refine (reckonerref02_Parse.calls k (⟨#[49, 48, 48, 48, 48, 48, 48, 48, 48, 48, 48, 48, 48, 48, 48, 48, 48, 48, 48, 48, 48]⟩ : ByteArray) t280 _ A6.out).mono ?_); rintro e w40 ⟨v281, rfl, ho0, hb⟩; have n0_ := Aside0.mk (Kd.R_elder' (by (with_reducible repeat (first | apply Kd.R_alloc | apply Kd.R_drewN | apply Kd.R_drew)); exact HO245.out) (Kd.R_base ho0) hb); have n1_ := Aside0.mk (Kd.R_elder' (by (with_reducible repeat (first | apply Kd.R_alloc | apply Kd.R_drewN | apply Kd.R_drew)); exact HO249.out) (Kd.R_base ho0) hb); have n2_ := Aside0.mk (Kd.R_elder' (by (with_reducible repeat (first | apply Kd.R_alloc | apply Kd.R_drewN | apply Kd.R_drew)); exact HO252.out) (Kd.R_base ho0) hb); have n3_ := Aside0.mk (Kd.R_elder' (by (with_reducible repeat (first | apply Kd.R_alloc | apply Kd.R_drewN | apply Kd.R_drew)); exact HO256.out) (Kd.R_base ho0) hb); have n4_ := Aside0.mk (Kd.R_elder' (by (with_reducible repeat (first | apply Kd.R_alloc | apply Kd.R_drewN | apply Kd.R_drew)); exact HO259.out) (Kd.R_base ho0) hb); have n5_ := Aside0.mk (Kd.R_elder' (by (with_reducible repeat (first | apply Kd.R_alloc | apply Kd.R_drewN | apply Kd.R_drew)); exact HO262.out) (Kd.R_base ho0) hb); have n6_ := Aside0.mk (Kd.R_elder' (by (with_reducible repeat (first | apply Kd.R_alloc | apply Kd.R_drewN | apply Kd.R_drew)); exact HO267.out) (Kd.R_base ho0) hb); have n7_ := Aside0.mk (Kd.R_elder' (by (with_reducible repeat (first | apply Kd.R_alloc | apply Kd.R_drewN | apply Kd.R_drew)); exact HO269.out) (Kd.R_base ho0) hb); have n8_ := Aside0.mk (Kd.R_elder' (by (with_reducible repeat (first | apply Kd.R_alloc | apply Kd.R_drewN | apply Kd.R_drew)); exact HO272.out) (Kd.R_base ho0) hb); have n9_ := Aside0.mk (Kd.R_elder' (by (with_reducible repeat (first | apply Kd.R_alloc | apply Kd.R_drewN | apply Kd.R_drew)); exact HO275.out) (Kd.R_base ho0) hb); have n10_ := Aside0.mk (Kd.R_elder' (by (with_reducible repeat (first | apply Kd.R_alloc | apply Kd.R_drewN | apply Kd.R_drew)); exact HO279.out) (Kd.R_base ho0) hb); have n11_ := Aside0.mk (Kd.R_lower (Kd.R_new' (Kd.R_new' (Kd.R_new' (Kd.R_new' (Kd.R_new' (Kd.R_new' (Kd.R_new' (Kd.R_new' (Kd.R_new' (Kd.R_new' (Kd.R_new' ho0 (Kd.R_lt (by (with_reducible repeat (first | apply Kd.R_alloc | apply Kd.R_drewN | apply Kd.R_drew)); exact HO245.out))) (Kd.R_lt (by (with_reducible repeat (first | apply Kd.R_alloc | apply Kd.R_drewN | apply Kd.R_drew)); exact HO249.out))) (Kd.R_lt (by (with_reducible repeat (first | apply Kd.R_alloc | apply Kd.R_drewN | apply Kd.R_drew)); exact HO252.out))) (Kd.R_lt (by (with_reducible repeat (first | apply Kd.R_alloc | apply Kd.R_drewN | apply Kd.R_drew)); exact HO256.out))) (Kd.R_lt (by (with_reducible repeat (first | apply Kd.R_alloc | apply Kd.R_drewN | apply Kd.R_drew)); exact HO259.out))) (Kd.R_lt (by (with_reducible repeat (first | apply Kd.R_alloc | apply Kd.R_drewN | apply Kd.R_drew)); exact HO262.out))) (Kd.R_lt (by (with_reducible repeat (first | apply Kd.R_alloc | apply Kd.R_drewN | apply Kd.R_drew)); exact HO267.out))) (Kd.R_lt (by (with_reducible repeat (first | apply Kd.R_alloc | apply Kd.R_drewN | apply Kd.R_drew)); exact HO269.out))) (Kd.R_lt (by (with_reducible repeat (first | apply Kd.R_alloc | apply Kd.R_drewN | apply Kd.R_drew)); exact HO272.out))) (Kd.R_lt (by (with_reducible repeat (first | apply Kd.R_alloc | apply Kd.R_drewN | apply Kd.R_drew)); exact HO275.out))) (Kd.R_lt (by (with_reducible repeat (first | apply Kd.R_alloc | apply Kd.R_drewN | apply Kd.R_drew)); exact HO279.out))) (below_size (by repeat (first | (with_reducible first | exact HB.out | apply below_alloc | apply pw_below_drewN | apply below_drew1) | exact HB.out)))); have n12_ := Aside0.mk (below_step (by repeat (first | (with_reducible first | exact HB.out | apply below_alloc | apply pw_below_drewN | apply below_drew1) | exact HB.out)) hb); clear HO245; clear HO249; clear HO252; clear HO256; clear HO259; clear HO262; clear HO267; clear HO269; clear HO272; clear HO275; clear HO279; clear HB; have HO245 := n0_; have HO249 := n1_; have HO252 := n2_; have HO256 := n3_; have HO259 := n4_; have HO262 := n5_; have HO267 := n6_; have HO269 := n7_; have HO272 := n8_; have HO275 := n9_; have HO279 := n10_; have HO282 := n11_; have HB := n12_; clear n0_ n1_ n2_ n3_ n4_ n5_ n6_ n7_ n8_ n9_ n10_ n11_ n12_; (try clear hb); (try clear hb2); (try clear hk); (try clear hi); (try clear ho0); obtain ⟨Ao41, co41, eo41⟩ := Kd.R_slice HO249.out; subst eo41; obtain ⟨Ao42, co42, eo42⟩ := Kd.R_slice HO282.out; subst eo42) | (go_at_call 13; (with_reducible refine (reckonerref02_Is.calls k _ _ t246 _ _ t280 true _ ?side1 ?side2 ?side3 ?side4 A7.out).mono ?_); (case side1 => repeat (first | exact (Kd.R_reads' HO249.out).2.2 | (with_reducible refine Kd.C_alloc ?_ _) | (with_reducible refine Kd.C_drewN ?_ _) | (with_reducible refine Kd.C_drew ?_))); (case side2 => exact (Kd.R_reads' HO249.out).2.1); (case side3 => repeat (first | exact (Kd.R_reads' HO282.out).2.2 | (with_reducible refine Kd.C_alloc ?_ _) | (with_reducible refine Kd.C_drewN ?_ _) | (with_reducible refine Kd.C_drew ?_))); (case side4 => exact (Kd.R_reads' HO282.out).2.1); rintro e w43 ⟨rfl, hb⟩; have n0_ := Aside0.mk (Kd.R_below (by (with_reducible repeat (first | apply Kd.R_alloc | apply Kd.R_drewN | apply Kd.R_drew)); exact HO245.out) hb); have n1_ := Aside0.mk (Kd.R_below (by (with_reducible repeat (first | apply Kd.R_alloc | apply Kd.R_drewN | apply Kd.R_drew)); exact HO249.out) hb); have n2_ := Aside0.mk (Kd.R_below (by (with_reducible repeat (first | apply Kd.R_alloc | apply Kd.R_drewN | apply Kd.R_drew)); exact HO252.out) hb); have n3_ := Aside0.mk (Kd.R_below (by (with_reducible repeat (first | apply Kd.R_alloc | apply Kd.R_drewN | apply Kd.R_drew)); exact HO256.out) hb); have n4_ := Aside0.mk (Kd.R_below (by (with_reducible repeat (first | apply Kd.R_alloc | apply Kd.R_drewN | apply Kd.R_drew)); exact HO259.out) hb); have n5_ := Aside0.mk (Kd.R_below (by (with_reducible repeat (first | apply Kd.R_alloc | apply Kd.R_drewN | apply Kd.R_drew)); exact HO262.out) hb); have n6_ := Aside0.mk (Kd.R_below (by (with_reducible repeat (first | apply Kd.R_alloc | apply Kd.R_drewN | apply Kd.R_drew)); exact HO267.out) hb); have n7_ := Aside0.mk (Kd.R_below (by (with_reducible repeat (first | apply Kd.R_alloc | apply Kd.R_drewN | apply Kd.R_drew)); exact HO269.out) hb); have n8_ := Aside0.mk (Kd.R_below (by (with_reducible repeat (first | apply Kd.R_alloc | apply Kd.R_drewN | apply Kd.R_drew)); exact HO272.out) hb); have n9_ := Aside0.mk (Kd.R_below (by (with_reducible repeat (first | apply Kd.R_alloc | apply Kd.R_drewN | apply Kd.R_drew)); exact HO275.out) hb); have n10_ := Aside0.mk (Kd.R_below (by (with_reducible repeat (first | apply Kd.R_alloc | apply Kd.R_drewN | apply Kd.R_drew)); exact HO279.out) hb); have n11_ := Aside0.mk (Kd.R_below (by (with_reducible repeat (first | apply Kd.R_alloc | apply Kd.R_drewN | apply Kd.R_drew)); exact HO282.out) hb); have n12_ := Aside0.mk (below_step (by repeat (first | (with_reducible first | exact HB.out | apply below_alloc | apply pw_below_drewN | apply below_drew1) | exact HB.out)) hb); clear HO245; clear HO249; clear HO252; clear HO256; clear HO259; clear HO262; clear HO267; clear HO269; clear HO272; clear HO275; clear HO279; clear HO282; clear HB; have HO245 := n0_; have HO249 := n1_; have HO252 := n2_; have HO256 := n3_; have HO259 := n4_; have HO262 := n5_; have HO267 := n6_; have HO269 := n7_; have HO272 := n8_; have HO275 := n9_; have HO279 := n10_; have HO282 := n11_; have HB := n12_; clear n0_ n1_ n2_ n3_ n4_ n5_ n6_ n7_ n8_ n9_ n10_ n11_ n12_; (try clear hb); (try clear hb2); (try clear hk); (try clear hi)) | ((with_reducible refine gate_dst (N := 46) rfl ?_); (try (refine gate_guard (by rfl) ?_; dsimp only)); refine Kd.R_lit (Kd.int .u64) _ 33 ?hg (N := 46) ?hd (xs := ([1, 18446744073709551614] : List Int)) (inner := [.int .u64 1, .int .u64 18446744073709551614]) (ok := fun _ => True) (okp := fun _ => True) ?hr ?hp (fun _ hk => hk) trivial (Below.refl _ _) (Nat.le_refl _) (by simp) ?_; (case hd => rfl); (case hg => rfl); (case hr => first | (go_simp; done) | (go_simp; rfl)); (case hp => exact (Reps.one (show Kd.M (Kd.int .u64) _ _ _ 1 [.int .u64 1] from rfl) (Reps.one (show Kd.M (Kd.int .u64) _ _ _ 18446744073709551614 [.int .u64 18446744073709551614] from rfl) (Reps.none _ _)))); intro v285 w44 ho45 hb hg_ hnew_; clear hg_ hnew_; (first | rw [← Ny284.out] at ho45 | (simp only [Int.reduceToNat] at ho45; rw [← Ny284.out] at ho45)); have n0_ := Aside0.mk (Kd.R_elder' (by (with_reducible repeat (first | apply Kd.R_alloc | apply Kd.R_drewN | apply Kd.R_drew)); exact HO245.out) (Kd.R_base ho45) hb); have n1_ := Aside0.mk (Kd.R_elder' (by (with_reducible repeat (first | apply Kd.R_alloc | apply Kd.R_drewN | apply Kd.R_drew)); exact HO249.out) (Kd.R_base ho45) hb); have n2_ := Aside0.mk (Kd.R_elder' (by (with_reducible repeat (first | apply Kd.R_alloc | apply Kd.R_drewN | apply Kd.R_drew)); exact HO252.out) (Kd.R_base ho45) hb); have n3_ := Aside0.mk (Kd.R_elder' (by (with_reducible repeat (first | apply Kd.R_alloc | apply Kd.R_drewN | apply Kd.R_drew)); exact HO256.out) (Kd.R_base ho45) hb); have n4_ := Aside0.mk (Kd.R_elder' (by (with_reducible repeat (first | apply Kd.R_alloc | apply Kd.R_drewN | apply Kd.R_drew)); exact HO259.out) (Kd.R_base ho45) hb); have n5_ := Aside0.mk (Kd.R_elder' (by (with_reducible repeat (first | apply Kd.R_alloc | apply Kd.R_drewN | apply Kd.R_drew)); exact HO262.out) (Kd.R_base ho45) hb); have n6_ := Aside0.mk (Kd.R_elder' (by (with_reducible repeat (first | apply Kd.R_alloc | apply Kd.R_drewN | apply Kd.R_drew)); exact HO267.out) (Kd.R_base ho45) hb); have n7_ := Aside0.mk (Kd.R_elder' (by (with_reducible repeat (first | apply Kd.R_alloc | apply Kd.R_drewN | apply Kd.R_drew)); exact HO269.out) (Kd.R_base ho45) hb); have n8_ := Aside0.mk (Kd.R_elder' (by (with_reducible repeat (first | apply Kd.R_alloc | apply Kd.R_drewN | apply Kd.R_drew)); exact HO272.out) (Kd.R_base ho45) hb); have n9_ := Aside0.mk (Kd.R_elder' (by (with_reducible repeat (first | apply Kd.R_alloc | apply Kd.R_drewN | apply Kd.R_drew)); exact HO275.out) (Kd.R_base ho45) hb); have n10_ := Aside0.mk (Kd.R_elder' (by (with_reducible repeat (first | apply Kd.R_alloc | apply Kd.R_drewN | apply Kd.R_drew)); exact HO279.out) (Kd.R_base ho45) hb); have n11_ := Aside0.mk (Kd.R_elder' (by (with_reducible repeat (first | apply Kd.R_alloc | apply Kd.R_drewN | apply Kd.R_drew)); exact HO282.out) (Kd.R_base ho45) hb); have n12_ := Aside0.mk (Kd.R_lower (Kd.R_new' (Kd.R_new' (Kd.R_new' (Kd.R_new' (Kd.R_new' (Kd.R_new' (Kd.R_new' (Kd.R_new' (Kd.R_new' (Kd.R_new' (Kd.R_new' (Kd.R_new' ho45 (Kd.R_lt (by (with_reducible repeat (first | apply Kd.R_alloc | apply Kd.R_drewN | apply Kd.R_drew)); exact HO245.out))) (Kd.R_lt (by (with_reducible repeat (first | apply Kd.R_alloc | apply Kd.R_drewN | apply Kd.R_drew)); exact HO249.out))) (Kd.R_lt (by (with_reducible repeat (first | apply Kd.R_alloc | apply Kd.R_drewN | apply Kd.R_drew)); exact HO252.out))) (Kd.R_lt (by (with_reducible repeat (first | apply Kd.R_alloc | apply Kd.R_drewN | apply Kd.R_drew)); exact HO256.out))) (Kd.R_lt (by (with_reducible repeat (first | apply Kd.R_alloc | apply Kd.R_drewN | apply Kd.R_drew)); exact HO259.out))) (Kd.R_lt (by (with_reducible repeat (first | apply Kd.R_alloc | apply Kd.R_drewN | apply Kd.R_drew)); exact HO262.out))) (Kd.R_lt (by (with_reducible repeat (first | apply Kd.R_alloc | apply Kd.R_drewN | apply Kd.R_drew)); exact HO267.out))) (Kd.R_lt (by (with_reducible repeat (first | apply Kd.R_alloc | apply Kd.R_drewN | apply Kd.R_drew)); exact HO269.out))) (Kd.R_lt (by (with_reducible repeat (first | apply Kd.R_alloc | apply Kd.R_drewN | apply Kd.R_drew)); exact HO272.out))) (Kd.R_lt (by (with_reducible repeat (first | apply Kd.R_alloc | apply Kd.R_drewN | apply Kd.R_drew)); exact HO275.out))) (Kd.R_lt (by (with_reducible repeat (first | apply Kd.R_alloc | apply Kd.R_drewN | apply Kd.R_drew)); exact HO279.out))) (Kd.R_lt (by (with_reducible repeat (first | apply Kd.R_alloc | apply Kd.R_drewN | apply Kd.R_drew)); exact HO282.out))) (below_size (by repeat (first | (with_reducible first | exact HB.out | apply below_alloc | apply pw_below_drewN | apply below_drew1) | exact HB.out)))); have n13_ := Aside0.mk (below_step (by repeat (first | (with_reducible first | exact HB.out | apply below_alloc | apply pw_below_drewN | apply below_drew1) | exact HB.out)) hb); clear HO245; clear HO249; clear HO252; clear HO256; clear HO259; clear HO262; clear HO267; clear HO269; clear HO272; clear HO275; clear HO279; clear HO282; clear HB; have HO245 := n0_; have HO249 := n1_; have HO252 := n2_; have HO256 := n3_; have HO259 := n4_; have HO262 := n5_; have HO267 := n6_; have HO269 := n7_; have HO272 := n8_; have HO275 := n9_; have HO279 := n10_; have HO282 := n11_; have HO286 := n12_; have HB := n13_; clear n0_ n1_ n2_ n3_ n4_ n5_ n6_ n7_ n8_ n9_ n10_ n11_ n12_ n13_; clear hb ho45; obtain ⟨Ao46, co46, eo46⟩ := Kd.R_slice HO256.out; subst eo46; obtain ⟨Ao47, co47, eo47⟩ := Kd.R_slice HO286.out; subst eo47) | (go_at_call 13; (with_reducible refine (reckonerref02_Is.calls k _ _ t253 _ _ y284 true _ ?side1 ?side2 ?side3 ?side4 A10.out).mono ?_); (case side1 => repeat (first | exact (Kd.R_reads' HO256.out).2.2 | (with_reducible refine Kd.C_alloc ?_ _) | (with_reducible refine Kd.C_drewN ?_ _) | (with_reducible refine Kd.C_drew ?_))); (case side2 => exact (Kd.R_reads' HO256.out).2.1); (case side3 => repeat (first | exact (Kd.R_reads' HO286.out).2.2 | (with_reducible refine Kd.C_alloc ?_ _) | (with_reducible refine Kd.C_drewN ?_ _) | (with_reducible refine Kd.C_drew ?_))); (case side4 => exact (Kd.R_reads' HO286.out).2.1); rintro e w48 ⟨rfl, hb⟩; have n0_ := Aside0.mk (Kd.R_below (by (with_reducible repeat (first | apply Kd.R_alloc | apply Kd.R_drewN | apply Kd.R_drew)); exact HO245.out) hb); have n1_ := Aside0.mk (Kd.R_below (by (with_reducible repeat (first | apply Kd.R_alloc | apply Kd.R_drewN | apply Kd.R_drew)); exact HO249.out) hb); have n2_ := Aside0.mk (Kd.R_below (by (with_reducible repeat (first | apply Kd.R_alloc | apply Kd.R_drewN | apply Kd.R_drew)); exact HO252.out) hb); have n3_ := Aside0.mk (Kd.R_below (by (with_reducible repeat (first | apply Kd.R_alloc | apply Kd.R_drewN | apply Kd.R_drew)); exact HO256.out) hb); have n4_ := Aside0.mk (Kd.R_below (by (with_reducible repeat (first | apply Kd.R_alloc | apply Kd.R_drewN | apply Kd.R_drew)); exact HO259.out) hb); have n5_ := Aside0.mk (Kd.R_below (by (with_reducible repeat (first | apply Kd.R_alloc | apply Kd.R_drewN | apply Kd.R_drew)); exact HO262.out) hb); have n6_ := Aside0.mk (Kd.R_below (by (with_reducible repeat (first | apply Kd.R_alloc | apply Kd.R_drewN | apply Kd.R_drew)); exact HO267.out) hb); have n7_ := Aside0.mk (Kd.R_below (by (with_reducible repeat (first | apply Kd.R_alloc | apply Kd.R_drewN | apply Kd.R_drew)); exact HO269.out) hb); have n8_ := Aside0.mk (Kd.R_below (by (with_reducible repeat (first | apply Kd.R_alloc | apply Kd.R_drewN | apply Kd.R_drew)); exact HO272.out) hb); have n9_ := Aside0.mk (Kd.R_below (by (with_reducible repeat (first | apply Kd.R_alloc | apply Kd.R_drewN | apply Kd.R_drew)); exact HO275.out) hb); have n10_ := Aside0.mk (Kd.R_below (by (with_reducible repeat (first | apply Kd.R_alloc | apply Kd.R_drewN | apply Kd.R_drew)); exact HO279.out) hb); have n11_ := Aside0.mk (Kd.R_below (by (with_reducible repeat (first | apply Kd.R_alloc | apply Kd.R_drewN | apply Kd.R_drew)); exact HO282.out) hb); have n12_ := Aside0.mk (Kd.R_below (by (with_reducible repeat (first | apply Kd.R_alloc | apply Kd.R_drewN | apply Kd.R_drew)); exact HO286.out) hb); have n13_ := Aside0.mk (below_step (by repeat (first | (with_reducible first | exact HB.out | apply below_alloc | apply pw_below_drewN | apply below_drew1) | exact HB.out)) hb); clear HO245; clear HO249; clear HO252; clear HO256; clear HO259; clear HO262; clear HO267; clear HO269; clear HO272; clear HO275; clear HO279; clear HO282; clear HO286; clear HB; have HO245 := n0_; have HO249 := n1_; have HO252 := n2_; have HO256 := n3_; have HO259 := n4_; have HO262 := n5_; have HO267 := n6_; have HO269 := n7_; have HO272 := n8_; have HO275 := n9_; have HO279 := n10_; have HO282 := n11_; have HO286 := n12_; have HB := n13_; clear n0_ n1_ n2_ n3_ n4_ n5_ n6_ n7_ n8_ n9_ n10_ n11_ n12_ n13_; (try clear hb); (try clear hb2); (try clear hk); (try clear hi)) | (go_at_call 51; (with_reducible refine (reckonerref02_Parse.calls k (⟨#[51, 51, 51, 51, 51, 51, 51, 51, 51, 51, 51, 51, 51, 51, 51, 51, 51, 51, 51, 51]⟩ : ByteArray) t288 _ A13.out).mono ?_); rintro e w49 ⟨v289, rfl, ho0, hb⟩; have n0_ := Aside0.mk (Kd.R_elder' (by (with_reducible repeat (first | apply Kd.R_alloc | apply Kd.R_drewN | apply Kd.R_drew)); exact HO245.out) (Kd.R_base ho0) hb); have n1_ := Aside0.mk (Kd.R_elder' (by (with_reducible repeat (first | apply Kd.R_alloc | apply Kd.R_drewN | apply Kd.R_drew)); exact HO249.out) (Kd.R_base ho0) hb); have n2_ := Aside0.mk (Kd.R_elder' (by (with_reducible repeat (first | apply Kd.R_alloc | apply Kd.R_drewN | apply Kd.R_drew)); exact HO252.out) (Kd.R_base ho0) hb); have n3_ := Aside0.mk (Kd.R_elder' (by (with_reducible repeat (first | apply Kd.R_alloc | apply Kd.R_drewN | apply Kd.R_drew)); exact HO256.out) (Kd.R_base ho0) hb); have n4_ := Aside0.mk (Kd.R_elder' (by (with_reducible repeat (first | apply Kd.R_alloc | apply Kd.R_drewN | apply Kd.R_drew)); exact HO259.out) (Kd.R_base ho0) hb); have n5_ := Aside0.mk (Kd.R_elder' (by (with_reducible repeat (first | apply Kd.R_alloc | apply Kd.R_drewN | apply Kd.R_drew)); exact HO262.out) (Kd.R_base ho0) hb); have n6_ := Aside0.mk (Kd.R_elder' (by (with_reducible repeat (first | apply Kd.R_alloc | apply Kd.R_drewN | apply Kd.R_drew)); exact HO267.out) (Kd.R_base ho0) hb); have n7_ := Aside0.mk (Kd.R_elder' (by (with_reducible repeat (first | apply Kd.R_alloc | apply Kd.R_drewN | apply Kd.R_drew)); exact HO269.out) (Kd.R_base ho0) hb); have n8_ := Aside0.mk (Kd.R_elder' (by (with_reducible repeat (first | apply Kd.R_alloc | apply Kd.R_drewN | apply Kd.R_drew)); exact HO272.out) (Kd.R_base ho0) hb); have n9_ := Aside0.mk (Kd.R_elder' (by (with_reducible repeat (first | apply Kd.R_alloc | apply Kd.R_drewN | apply Kd.R_drew)); exact HO275.out) (Kd.R_base ho0) hb); have n10_ := Aside0.mk (Kd.R_elder' (by (with_reducible repeat (first | apply Kd.R_alloc | apply Kd.R_drewN | apply Kd.R_drew)); exact HO279.out) (Kd.R_base ho0) hb); have n11_ := Aside0.mk (Kd.R_elder' (by (with_reducible repeat (first | apply Kd.R_alloc | apply Kd.R_drewN | apply Kd.R_drew)); exact HO282.out) (Kd.R_base ho0) hb); have n12_ := Aside0.mk (Kd.R_elder' (by (with_reducible repeat (first | apply Kd.R_alloc | apply Kd.R_drewN | apply Kd.R_drew)); exact HO286.out) (Kd.R_base ho0) hb); have n13_ := Aside0.mk (Kd.R_lower (Kd.R_new' (Kd.R_new' (Kd.R_new' (Kd.R_new' (Kd.R_new' (Kd.R_new' (Kd.R_new' (Kd.R_new' (Kd.R_new' (Kd.R_new' (Kd.R_new' (Kd.R_new' (Kd.R_new' ho0 (Kd.R_lt (by (with_reducible repeat (first | apply Kd.R_alloc | apply Kd.R_drewN | apply Kd.R_drew)); exact HO245.out))) (Kd.R_lt (by (with_reducible repeat (first | apply Kd.R_alloc | apply Kd.R_drewN | apply Kd.R_drew)); exact HO249.out))) (Kd.R_lt (by (with_reducible repeat (first | apply Kd.R_alloc | apply Kd.R_drewN | apply Kd.R_drew)); exact HO252.out))) (Kd.R_lt (by (with_reducible repeat (first | apply Kd.R_alloc | apply Kd.R_drewN | apply Kd.R_drew)); exact HO256.out))) (Kd.R_lt (by (with_reducible repeat (first | apply Kd.R_alloc | apply Kd.R_drewN | apply Kd.R_drew)); exact HO259.out))) (Kd.R_lt (by (with_reducible repeat (first | apply Kd.R_alloc | apply Kd.R_drewN | apply Kd.R_drew)); exact HO262.out))) (Kd.R_lt (by (with_reducible repeat (first | apply Kd.R_alloc | apply Kd.R_drewN | apply Kd.R_drew)); exact HO267.out))) (Kd.R_lt (by (with_reducible repeat (first | apply Kd.R_alloc | apply Kd.R_drewN | apply Kd.R_drew)); exact HO269.out))) (Kd.R_lt (by (with_reducible repeat (first | apply Kd.R_alloc | apply Kd.R_drewN | apply Kd.R_drew)); exact HO272.out))) (Kd.R_lt (by (with_reducible repeat (first | apply Kd.R_alloc | apply Kd.R_drewN | apply Kd.R_drew)); exact HO275.out))) (Kd.R_lt (by (with_reducible repeat (first | apply Kd.R_alloc | apply Kd.R_drewN | apply Kd.R_drew)); exact HO279.out))) (Kd.R_lt (by (with_reducible repeat (first | apply Kd.R_alloc | apply Kd.R_drewN | apply Kd.R_drew)); exact HO282.out))) (Kd.R_lt (by (with_reducible repeat (first | apply Kd.R_alloc | apply Kd.R_drewN | apply Kd.R_drew)); exact HO286.out))) (below_size (by repeat (first | (with_reducible first | exact HB.out | apply below_alloc | apply pw_below_drewN | apply below_drew1) | exact HB.out)))); have n14_ := Aside0.mk (below_step (by repeat (first | (with_reducible first | exact HB.out | apply below_alloc | apply pw_below_drewN | apply below_drew1) | exact HB.out)) hb); clear HO245; clear HO249; clear HO252; clear HO256; clear HO259; clear HO262; clear HO267; clear HO269; clear HO272; clear HO275; clear HO279; clear HO282; clear HO286; clear HB; have HO245 := n0_; have HO249 := n1_; have HO252 := n2_; have HO256 := n3_; have HO259 := n4_; have HO262 := n5_; have HO267 := n6_; have HO269 := n7_; have HO272 := n8_; have HO275 := n9_; have HO279 := n10_; have HO282 := n11_; have HO286 := n12_; have HO290 := n13_; have HB := n14_; clear n0_ n1_ n2_ n3_ n4_ n5_ n6_ n7_ n8_ n9_ n10_ n11_ n12_ n13_ n14_; (try clear hb); (try clear hb2); (try clear hk); (try clear hi); (try clear ho0); obtain ⟨Ao50, co50, eo50⟩ := Kd.R_slice HO267.out; subst eo50; obtain ⟨Ao51, co51, eo51⟩ := Kd.R_slice HO290.out; subst eo51) | (go_at_call 13; (with_reducible refine (reckonerref02_Is.calls k _ _ t263 _ _ t288 true _ ?side1 ?side2 ?side3 ?side4 A14.out).mono ?_); (case side1 => repeat (first | exact (Kd.R_reads' HO267.out).2.2 | (with_reducible refine Kd.C_alloc ?_ _) | (with_reducible refine Kd.C_drewN ?_ _) | (with_reducible refine Kd.C_drew ?_))); (case side2 => exact (Kd.R_reads' HO267.out).2.1); (case side3 => repeat (first | exact (Kd.R_reads' HO290.out).2.2 | (with_reducible refine Kd.C_alloc ?_ _) | (with_reducible refine Kd.C_drewN ?_ _) | (with_reducible refine Kd.C_drew ?_))); (case side4 => exact (Kd.R_reads' HO290.out).2.1); rintro e w52 ⟨rfl, hb⟩; have n0_ := Aside0.mk (Kd.R_below (by (with_reducible repeat (first | apply Kd.R_alloc | apply Kd.R_drewN | apply Kd.R_drew)); exact HO245.out) hb); have n1_ := Aside0.mk (Kd.R_below (by (with_reducible repeat (first | apply Kd.R_alloc | apply Kd.R_drewN | apply Kd.R_drew)); exact HO249.out) hb); have n2_ := Aside0.mk (Kd.R_below (by (with_reducible repeat (first | apply Kd.R_alloc | apply Kd.R_drewN | apply Kd.R_drew)); exact HO252.out) hb); have n3_ := Aside0.mk (Kd.R_below (by (with_reducible repeat (first | apply Kd.R_alloc | apply Kd.R_drewN | apply Kd.R_drew)); exact HO256.out) hb); have n4_ := Aside0.mk (Kd.R_below (by (with_reducible repeat (first | apply Kd.R_alloc | apply Kd.R_drewN | apply Kd.R_drew)); exact HO259.out) hb); have n5_ := Aside0.mk (Kd.R_below (by (with_reducible repeat (first | apply Kd.R_alloc | apply Kd.R_drewN | apply Kd.R_drew)); exact HO262.out) hb); have n6_ := Aside0.mk (Kd.R_below (by (with_reducible repeat (first | apply Kd.R_alloc | apply Kd.R_drewN | apply Kd.R_drew)); exact HO267.out) hb); have n7_ := Aside0.mk (Kd.R_below (by (with_reducible repeat (first | apply Kd.R_alloc | apply Kd.R_drewN | apply Kd.R_drew)); exact HO269.out) hb); have n8_ := Aside0.mk (Kd.R_below (by (with_reducible repeat (first | apply Kd.R_alloc | apply Kd.R_drewN | apply Kd.R_drew)); exact HO272.out) hb); have n9_ := Aside0.mk (Kd.R_below (by (with_reducible repeat (first | apply Kd.R_alloc | apply Kd.R_drewN | apply Kd.R_drew)); exact HO275.out) hb); have n10_ := Aside0.mk (Kd.R_below (by (with_reducible repeat (first | apply Kd.R_alloc | apply Kd.R_drewN | apply Kd.R_drew)); exact HO279.out) hb); have n11_ := Aside0.mk (Kd.R_below (by (with_reducible repeat (first | apply Kd.R_alloc | apply Kd.R_drewN | apply Kd.R_drew)); exact HO282.out) hb); have n12_ := Aside0.mk (Kd.R_below (by (with_reducible repeat (first | apply Kd.R_alloc | apply Kd.R_drewN | apply Kd.R_drew)); exact HO286.out) hb); have n13_ := Aside0.mk (Kd.R_below (by (with_reducible repeat (first | apply Kd.R_alloc | apply Kd.R_drewN | apply Kd.R_drew)); exact HO290.out) hb); have n14_ := Aside0.mk (below_step (by repeat (first | (with_reducible first | exact HB.out | apply below_alloc | apply pw_below_drewN | apply below_drew1) | exact HB.out)) hb); clear HO245; clear HO249; clear HO252; clear HO256; clear HO259; clear HO262; clear HO267; clear HO269; clear HO272; clear HO275; clear HO279; clear HO282; clear HO286; clear HO290; clear HB; have HO245 := n0_; have HO249 := n1_; have HO252 := n2_; have HO256 := n3_; have HO259 := n4_; have HO262 := n5_; have HO267 := n6_; have HO269 := n7_; have HO272 := n8_; have HO275 := n9_; have HO279 := n10_; have HO282 := n11_; have HO286 := n12_; have HO290 := n13_; have HB := n14_; clear n0_ n1_ n2_ n3_ n4_ n5_ n6_ n7_ n8_ n9_ n10_ n11_ n12_ n13_ n14_; (try clear hb); (try clear hb2); (try clear hk); (try clear hi)) | ((with_reducible refine gate_dst (N := 60) rfl ?_); (try (refine gate_guard (by rfl) ?_; dsimp only)); refine Kd.R_lit (Kd.int .u64) _ 33 ?hg (N := 60) ?hd (xs := ([1] : List Int)) (inner := [.int .u64 1]) (ok := fun _ => True) (okp := fun _ => True) ?hr ?hp (fun _ hk => hk) trivial (Below.refl _ _) (Nat.le_refl _) (by simp) ?_; (case hd => rfl); (case hg => rfl); (case hr => first | (go_simp; done) | (go_simp; rfl)); (case hp => exact (Reps.one (show Kd.M (Kd.int .u64) _ _ _ 1 [.int .u64 1] from rfl) (Reps.none _ _))); intro v293 w53 ho54 hb hg_ hnew_; clear hg_ hnew_; (first | rw [← Ny292.out] at ho54 | (simp only [Int.reduceToNat] at ho54; rw [← Ny292.out] at ho54)); have n0_ := Aside0.mk (Kd.R_elder' (by (with_reducible repeat (first | apply Kd.R_alloc | apply Kd.R_drewN | apply Kd.R_drew)); exact HO245.out) (Kd.R_base ho54) hb); have n1_ := Aside0.mk (Kd.R_elder' (by (with_reducible repeat (first | apply Kd.R_alloc | apply Kd.R_drewN | apply Kd.R_drew)); exact HO249.out) (Kd.R_base ho54) hb); have n2_ := Aside0.mk (Kd.R_elder' (by (with_reducible repeat (first | apply Kd.R_alloc | apply Kd.R_drewN | apply Kd.R_drew)); exact HO252.out) (Kd.R_base ho54) hb); have n3_ := Aside0.mk (Kd.R_elder' (by (with_reducible repeat (first | apply Kd.R_alloc | apply Kd.R_drewN | apply Kd.R_drew)); exact HO256.out) (Kd.R_base ho54) hb); have n4_ := Aside0.mk (Kd.R_elder' (by (with_reducible repeat (first | apply Kd.R_alloc | apply Kd.R_drewN | apply Kd.R_drew)); exact HO259.out) (Kd.R_base ho54) hb); have n5_ := Aside0.mk (Kd.R_elder' (by (with_reducible repeat (first | apply Kd.R_alloc | apply Kd.R_drewN | apply Kd.R_drew)); exact HO262.out) (Kd.R_base ho54) hb); have n6_ := Aside0.mk (Kd.R_elder' (by (with_reducible repeat (first | apply Kd.R_alloc | apply Kd.R_drewN | apply Kd.R_drew)); exact HO267.out) (Kd.R_base ho54) hb); have n7_ := Aside0.mk (Kd.R_elder' (by (with_reducible repeat (first | apply Kd.R_alloc | apply Kd.R_drewN | apply Kd.R_drew)); exact HO269.out) (Kd.R_base ho54) hb); have n8_ := Aside0.mk (Kd.R_elder' (by (with_reducible repeat (first | apply Kd.R_alloc | apply Kd.R_drewN | apply Kd.R_drew)); exact HO272.out) (Kd.R_base ho54) hb); have n9_ := Aside0.mk (Kd.R_elder' (by (with_reducible repeat (first | apply Kd.R_alloc | apply Kd.R_drewN | apply Kd.R_drew)); exact HO275.out) (Kd.R_base ho54) hb); have n10_ := Aside0.mk (Kd.R_elder' (by (with_reducible repeat (first | apply Kd.R_alloc | apply Kd.R_drewN | apply Kd.R_drew)); exact HO279.out) (Kd.R_base ho54) hb); have n11_ := Aside0.mk (Kd.R_elder' (by (with_reducible repeat (first | apply Kd.R_alloc | apply Kd.R_drewN | apply Kd.R_drew)); exact HO282.out) (Kd.R_base ho54) hb); have n12_ := Aside0.mk (Kd.R_elder' (by (with_reducible repeat (first | apply Kd.R_alloc | apply Kd.R_drewN | apply Kd.R_drew)); exact HO286.out) (Kd.R_base ho54) hb); have n13_ := Aside0.mk (Kd.R_elder' (by (with_reducible repeat (first | apply Kd.R_alloc | apply Kd.R_drewN | apply Kd.R_drew)); exact HO290.out) (Kd.R_base ho54) hb); have n14_ := Aside0.mk (Kd.R_lower (Kd.R_new' (Kd.R_new' (Kd.R_new' (Kd.R_new' (Kd.R_new' (Kd.R_new' (Kd.R_new' (Kd.R_new' (Kd.R_new' (Kd.R_new' (Kd.R_new' (Kd.R_new' (Kd.R_new' (Kd.R_new' ho54 (Kd.R_lt (by (with_reducible repeat (first | apply Kd.R_alloc | apply Kd.R_drewN | apply Kd.R_drew)); exact HO245.out))) (Kd.R_lt (by (with_reducible repeat (first | apply Kd.R_alloc | apply Kd.R_drewN | apply Kd.R_drew)); exact HO249.out))) (Kd.R_lt (by (with_reducible repeat (first | apply Kd.R_alloc | apply Kd.R_drewN | apply Kd.R_drew)); exact HO252.out))) (Kd.R_lt (by (with_reducible repeat (first | apply Kd.R_alloc | apply Kd.R_drewN | apply Kd.R_drew)); exact HO256.out))) (Kd.R_lt (by (with_reducible repeat (first | apply Kd.R_alloc | apply Kd.R_drewN | apply Kd.R_drew)); exact HO259.out))) (Kd.R_lt (by (with_reducible repeat (first | apply Kd.R_alloc | apply Kd.R_drewN | apply Kd.R_drew)); exact HO262.out))) (Kd.R_lt (by (with_reducible repeat (first | apply Kd.R_alloc | apply Kd.R_drewN | apply Kd.R_drew)); exact HO267.out))) (Kd.R_lt (by (with_reducible repeat (first | apply Kd.R_alloc | apply Kd.R_drewN | apply Kd.R_drew)); exact HO269.out))) (Kd.R_lt (by (with_reducible repeat (first | apply Kd.R_alloc | apply Kd.R_drewN | apply Kd.R_drew)); exact HO272.out))) (Kd.R_lt (by (with_reducible repeat (first | apply Kd.R_alloc | apply Kd.R_drewN | apply Kd.R_drew)); exact HO275.out))) (Kd.R_lt (by (with_reducible repeat (first | apply Kd.R_alloc | apply Kd.R_drewN | apply Kd.R_drew)); exact HO279.out))) (Kd.R_lt (by (with_reducible repeat (first | apply Kd.R_alloc | apply Kd.R_drewN | apply Kd.R_drew)); exact HO282.out))) (Kd.R_lt (by (with_reducible repeat (first | apply Kd.R_alloc | apply Kd.R_drewN | apply Kd.R_drew)); exact HO286.out))) (Kd.R_lt (by (with_reducible repeat (first | apply Kd.R_alloc | apply Kd.R_drewN | apply Kd.R_drew)); exact HO290.out))) (below_size (by repeat (first | (with_reducible first | exact HB.out | apply below_alloc | apply pw_below_drewN | apply below_drew1) | exact HB.out)))); have n15_ := Aside0.mk (below_step (by repeat (first | (with_reducible first | exact HB.out | apply below_alloc | apply pw_below_drewN | apply below_drew1) | exact HB.out)) hb); clear HO245; clear HO249; clear HO252; clear HO256; clear HO259; clear HO262; clear HO267; clear HO269; clear HO272; clear HO275; clear HO279; clear HO282; clear HO286; clear HO290; clear HB; have HO245 := n0_; have HO249 := n1_; have HO252 := n2_; have HO256 := n3_; have HO259 := n4_; have HO262 := n5_; have HO267 := n6_; have HO269 := n7_; have HO272 := n8_; have HO275 := n9_; have HO279 := n10_; have HO282 := n11_; have HO286 := n12_; have HO290 := n13_; have HO294 := n14_; have HB := n15_; clear n0_ n1_ n2_ n3_ n4_ n5_ n6_ n7_ n8_ n9_ n10_ n11_ n12_ n13_ n14_ n15_; clear hb ho54; obtain ⟨Ao55, co55, eo55⟩ := Kd.R_slice HO269.out; subst eo55; obtain ⟨Ao56, co56, eo56⟩ := Kd.R_slice HO294.out; subst eo56) | (go_at_call 13; (with_reducible refine (reckonerref02_Is.calls k _ _ t264 _ _ y292 true _ ?side1 ?side2 ?side3 ?side4 A16.out).mono ?_); (case side1 => repeat (first | exact (Kd.R_reads' HO269.out).2.2 | (with_reducible refine Kd.C_alloc ?_ _) | (with_reducible refine Kd.C_drewN ?_ _) | (with_reducible refine Kd.C_drew ?_))); (case side2 => exact (Kd.R_reads' HO269.out).2.1); (case side3 => repeat (first | exact (Kd.R_reads' HO294.out).2.2 | (with_reducible refine Kd.C_alloc ?_ _) | (with_reducible refine Kd.C_drewN ?_ _) | (with_reducible refine Kd.C_drew ?_))); (case side4 => exact (Kd.R_reads' HO294.out).2.1); rintro e w57 ⟨rfl, hb⟩; have n0_ := Aside0.mk (Kd.R_below (by (with_reducible repeat (first | apply Kd.R_alloc | apply Kd.R_drewN | apply Kd.R_drew)); exact HO245.out) hb); have n1_ := Aside0.mk (Kd.R_below (by (with_reducible repeat (first | apply Kd.R_alloc | apply Kd.R_drewN | apply Kd.R_drew)); exact HO249.out) hb); have n2_ := Aside0.mk (Kd.R_below (by (with_reducible repeat (first | apply Kd.R_alloc | apply Kd.R_drewN | apply Kd.R_drew)); exact HO252.out) hb); have n3_ := Aside0.mk (Kd.R_below (by (with_reducible repeat (first | apply Kd.R_alloc | apply Kd.R_drewN | apply Kd.R_drew)); exact HO256.out) hb); have n4_ := Aside0.mk (Kd.R_below (by (with_reducible repeat (first | apply Kd.R_alloc | apply Kd.R_drewN | apply Kd.R_drew)); exact HO259.out) hb); have n5_ := Aside0.mk (Kd.R_below (by (with_reducible repeat (first | apply Kd.R_alloc | apply Kd.R_drewN | apply Kd.R_drew)); exact HO262.out) hb); have n6_ := Aside0.mk (Kd.R_below (by (with_reducible repeat (first | apply Kd.R_alloc | apply Kd.R_drewN | apply Kd.R_drew)); exact HO267.out) hb); have n7_ := Aside0.mk (Kd.R_below (by (with_reducible repeat (first | apply Kd.R_alloc | apply Kd.R_drewN | apply Kd.R_drew)); exact HO269.out) hb); have n8_ := Aside0.mk (Kd.R_below (by (with_reducible repeat (first | apply Kd.R_alloc | apply Kd.R_drewN | apply Kd.R_drew)); exact HO272.out) hb); have n9_ := Aside0.mk (Kd.R_below (by (with_reducible repeat (first | apply Kd.R_alloc | apply Kd.R_drewN | apply Kd.R_drew)); exact HO275.out) hb); have n10_ := Aside0.mk (Kd.R_below (by (with_reducible repeat (first | apply Kd.R_alloc | apply Kd.R_drewN | apply Kd.R_drew)); exact HO279.out) hb); have n11_ := Aside0.mk (Kd.R_below (by (with_reducible repeat (first | apply Kd.R_alloc | apply Kd.R_drewN | apply Kd.R_drew)); exact HO282.out) hb); have n12_ := Aside0.mk (Kd.R_below (by (with_reducible repeat (first | apply Kd.R_alloc | apply Kd.R_drewN | apply Kd.R_drew)); exact HO286.out) hb); have n13_ := Aside0.mk (Kd.R_below (by (with_reducible repeat (first | apply Kd.R_alloc | apply Kd.R_drewN | apply Kd.R_drew)); exact HO290.out) hb); have n14_ := Aside0.mk (Kd.R_below (by (with_reducible repeat (first | apply Kd.R_alloc | apply Kd.R_drewN | apply Kd.R_drew)); exact HO294.out) hb); have n15_ := Aside0.mk (below_step (by repeat (first | (with_reducible first | exact HB.out | apply below_alloc | apply pw_below_drewN | apply below_drew1) | exact HB.out)) hb); clear HO245; clear HO249; clear HO252; clear HO256; clear HO259; clear HO262; clear HO267; clear HO269; clear HO272; clear HO275; clear HO279; clear HO282; clear HO286; clear HO290; clear HO294; clear HB; have HO245 := n0_; have HO249 := n1_; have HO252 := n2_; have HO256 := n3_; have HO259 := n4_; have HO262 := n5_; have HO267 := n6_; have HO269 := n7_; have HO272 := n8_; have HO275 := n9_; have HO279 := n10_; have HO282 := n11_; have HO286 := n12_; have HO290 := n13_; have HO294 := n14_; have HB := n15_; clear n0_ n1_ n2_ n3_ n4_ n5_ n6_ n7_ n8_ n9_ n10_ n11_ n12_ n13_ n14_ n15_; (try clear hb); (try clear hb2); (try clear hk); (try clear hi)))
        go_ret
        exact ⟨by first | rfl | (simp [errW_none, errW_some] <;> rfl) | (simp [*, errW_none, errW_some] <;> rfl), by repeat (first | (with_reducible first | exact HB.out | apply below_alloc | apply pw_below_drewN | apply below_drew1) | exact HB.out)⟩
       ·replace c17 := Bool.eq_false_iff.mpr c17
        subst c17
        have H1 : (none) = some r := by rw [if_neg (show ¬ (false = true) by decide)] at H; exact H
        clear H
        have H := H1
        clear H1
        exact absurd H (by simp)
      ·replace c15 := Bool.eq_false_iff.mpr c15
       subst c15
       have H1 : (none) = some r := by rw [if_neg (show ¬ (false = true) by decide)] at H; exact H
       clear H
       have H := H1
       clear H1
       exact absurd H (by simp)
     ·rw [if_neg c12] at H
      exact absurd H (by simp)
    ·replace c11 := Bool.eq_false_iff.mpr c11
     subst c11
     have H1 : (none) = some r := by rw [if_neg (show ¬ (false = true) by decide)] at H; exact H
     clear H
     have H := H1
     clear H1
     exact absurd H (by simp)
   ·rw [if_neg c9] at H
    exact absurd H (by simp)
  ·replace c8 := Bool.eq_false_iff.mpr c8
   subst c8
   have H1 : (none) = some r := by rw [if_neg (show ¬ (false = true) by decide)] at H; exact H
   clear H
   have H := H1
   clear H1
   exact absurd H (by simp)
 ·rw [if_neg c5] at H
  exact absurd H (by simp)
/-! ### reckonerlaw02_NatPowers: function 3 -/
-- OURS: function 17 (nat_DivWord)

end Go.Proofs.Ytkkkbalefnileaa.T
-- PRINTED by print.py (a twelfth state) out of the translation. Not trusted: Lean checks it.
namespace Go.Proofs.Ytkkkbalefnileaa.T
open Go.RowKit Go.Proofs.YtkkkbalefnileaaW.PrintWords Go.Proofs.YtkkkbalefnileaaW.PrintLast Go.Proofs.YtkkkbalefnileaaW.PrintMore
attribute [local go_sem] max2_int min2_int max_two min_two max_three min_three max_four min_four   -- for this text's walks alone
open Ytkkkbalefnileaa.Ex
set_option linter.unusedVariables false
set_option linter.unusedSimpArgs false

/-! ### reckonerlaw02_NatRing: function 9 -/
mutual
def reckonerlaw02_NatRing.j0 : Nat → List Int → List Int → List Int → Bool → Option (Bool)
  | 0, _, _, _, _ => none
  | k + 1, x7, x8, x9, x115 => if x115 = true then (none) else ((nat_Add.f x7 (([1] : List Int))).bind fun bt709 => ((nat_Square.f bt709.1).bind fun bt713 => ((nat_Square.f x7).bind fun bt717 => ((nat_Left.f x7 1).bind fun bt721 => ((nat_Sum.f (([bt717.1, bt721.1, (([1] : List Int))] : List (List Int)))).bind fun bt731 => (if bt709.2 = 0 then (if bt713.2 = 0 then (if bt717.2 = 0 then (if bt721.2 = 0 then (if bt731.2 = 0 then ((nat_Cmp.f bt713.1 bt731.1).bind fun t735 => (reckonerlaw02_NatRing.j1 k x7 x8 x9 (t735 != 0))) else (reckonerlaw02_NatRing.j1 k x7 x8 x9 true)) else (reckonerlaw02_NatRing.j1 k x7 x8 x9 true)) else (reckonerlaw02_NatRing.j1 k x7 x8 x9 true)) else (reckonerlaw02_NatRing.j1 k x7 x8 x9 true)) else (reckonerlaw02_NatRing.j1 k x7 x8 x9 true)))))))
def reckonerlaw02_NatRing.j1 : Nat → List Int → List Int → List Int → Bool → Option (Bool)
  | 0, _, _, _, _ => none
  | k + 1, x7, x8, x9, x168 => if x168 = true then (none) else ((nat_Sum.f (([x8, x9, (([1] : List Int))] : List (List Int)))).bind fun bt742 => ((nat_Mul.f x7 bt742.1).bind fun bt746 => ((nat_Add.f bt746.1 x8).bind fun bt750 => ((nat_DivMod.f bt750.1 bt742.1).bind fun bt754 => (if bt742.2 = 0 then (if bt746.2 = 0 then (if bt750.2 = 0 then (if bt754.2.2 = 0 then ((nat_Cmp.f bt754.1 x7).bind fun t761 => (if t761 = 0 then ((nat_Cmp.f bt754.2.1 x8).bind fun t762 => (if t762 = 0 then ((reckonerlaw02_awake.f k).bind fun t763 => (some t763)) else (none))) else (none))) else (none)) else (none)) else (none)) else (none))))))
end
def reckonerlaw02_NatRing.f (k : Nat) (l0 : List Int) (l1 : List Int) (l2 : List Int) : Option (Bool) := (reckonerlaw02_few.f l0 12).bind fun t671 => ((reckonerlaw02_few.f l1 12).bind fun t674 => ((reckonerlaw02_few.f l2 12).bind fun t677 => ((nat_Add.f t671 t674).bind fun bt680 => ((nat_Add.f t674 t671).bind fun bt684 => ((nat_Mul.f bt680.1 t677).bind fun bt688 => ((nat_Mul.f t671 t677).bind fun bt692 => ((nat_Mul.f t677 t674).bind fun bt696 => ((nat_Add.f bt692.1 bt696.1).bind fun bt700 => (if bt680.2 = 0 then (if bt684.2 = 0 then (if bt688.2 = 0 then (if bt692.2 = 0 then (if bt696.2 = 0 then (if bt700.2 = 0 then ((nat_Cmp.f bt680.1 bt684.1).bind fun t704 => (if t704 = 0 then ((nat_Cmp.f bt688.1 bt700.1).bind fun t705 => (reckonerlaw02_NatRing.j0 k t671 t674 t677 (t705 != 0))) else (reckonerlaw02_NatRing.j0 k t671 t674 t677 true))) else (reckonerlaw02_NatRing.j0 k t671 t674 t677 true)) else (reckonerlaw02_NatRing.j0 k t671 t674 t677 true)) else (reckonerlaw02_NatRing.j0 k t671 t674 t677 true)) else (reckonerlaw02_NatRing.j0 k t671 t674 t677 true)) else (reckonerlaw02_NatRing.j0 k t671 t674 t677 true)) else (reckonerlaw02_NatRing.j0 k t671 t674 t677 true))))))))))
set_option maxHeartbeats 8000000 in
set_option maxRecDepth 100000 in
theorem reckonerlaw02_NatRing.calls (k : Nat) (A0 : Option Addr) (c0 : Nat) (l0 : List Int) (A1 : Option Addr) (c1 : Nat) (l1 : List Int) (A2 : Option Addr) (c2 : Nat) (l2 : List Int) (r : Bool) (w : World) (hr0 : Kd.C (Kd.int .u64) w A0 l0.length l0) (hc0 : l0.length ≤ c0) (hr1 : Kd.C (Kd.int .u64) w A1 l1.length l1) (hc1 : l1.length ≤ c1) (hr2 : Kd.C (Kd.int .u64) w A2 l2.length l2) (hc2 : l2.length ≤ c2) (h : reckonerlaw02_NatRing.f k l0 l1 l2 = some r) :
  Calls Try.prog 9 #[.slice A0 l0.length c0, .slice A1 l1.length c1, .slice A2 l2.length c2] w fun e w' => e = .returned (.bool r) ∧ Below w.heap.size w w' := by
 have HR0 := Aside0.mk hr0
 have HC0 := Aside0.mk hc0
 clear hr0 hc0
 have HR1 := Aside0.mk hr1
 have HC1 := Aside0.mk hc1
 clear hr1 hc1
 have HR2 := Aside0.mk hr2
 have HC2 := Aside0.mk hc2
 clear hr2 hc2
 have HB := Aside0.mk (Below.refl w.heap.size w)
 have H : ((reckonerlaw02_few.f l0 12).bind fun t671 => ((reckonerlaw02_few.f l1 12).bind fun t674 => ((reckonerlaw02_few.f l2 12).bind fun t677 => ((nat_Add.f t671 t674).bind fun bt680 => ((nat_Add.f t674 t671).bind fun bt684 => ((nat_Mul.f bt680.1 t677).bind fun bt688 => ((nat_Mul.f t671 t677).bind fun bt692 => ((nat_Mul.f t677 t674).bind fun bt696 => ((nat_Add.f bt692.1 bt696.1).bind fun bt700 => (if bt680.2 = 0 then (if bt684.2 = 0 then (if bt688.2 = 0 then (if bt692.2 = 0 then (if bt696.2 = 0 then (if bt700.2 = 0 then ((nat_Cmp.f bt680.1 bt684.1).bind fun t704 => (if t704 = 0 then ((nat_Cmp.f bt688.1 bt700.1).bind fun t705 => (reckonerlaw02_NatRing.j0 k t671 t674 t677 (t705 != 0))) else (reckonerlaw02_NatRing.j0 k t671 t674 t677 true))) else (reckonerlaw02_NatRing.j0 k t671 t674 t677 true)) else (reckonerlaw02_NatRing.j0 k t671 t674 t677 true)) else (reckonerlaw02_NatRing.j0 k t671 t674 t677 true)) else (reckonerlaw02_NatRing.j0 k t671 t674 t677 true)) else (reckonerlaw02_NatRing.j0 k t671 t674 t677 true)) else (reckonerlaw02_NatRing.j0 k t671 t674 t677 true))))))))))) = some r := h
 clear h
 replace H := Option.bind_eq_some_iff.mp H
 obtain ⟨t671, A40, H⟩ := H
 replace H : ((reckonerlaw02_few.f l1 12).bind fun t674 => ((reckonerlaw02_few.f l2 12).bind fun t677 => ((nat_Add.f t671 t674).bind fun bt680 => ((nat_Add.f t674 t671).bind fun bt684 => ((nat_Mul.f bt680.1 t677).bind fun bt688 => ((nat_Mul.f t671 t677).bind fun bt692 => ((nat_Mul.f t677 t674).bind fun bt696 => ((nat_Add.f bt692.1 bt696.1).bind fun bt700 => (if bt680.2 = 0 then (if bt684.2 = 0 then (if bt688.2 = 0 then (if bt692.2 = 0 then (if bt696.2 = 0 then (if bt700.2 = 0 then ((nat_Cmp.f bt680.1 bt684.1).bind fun t704 => (if t704 = 0 then ((nat_Cmp.f bt688.1 bt700.1).bind fun t705 => (reckonerlaw02_NatRing.j0 k t671 t674 t677 (t705 != 0))) else (reckonerlaw02_NatRing.j0 k t671 t674 t677 true))) else (reckonerlaw02_NatRing.j0 k t671 t674 t677 true)) else (reckonerlaw02_NatRing.j0 k t671 t674 t677 true)) else (reckonerlaw02_NatRing.j0 k t671 t674 t677 true)) else (reckonerlaw02_NatRing.j0 k t671 t674 t677 true)) else (reckonerlaw02_NatRing.j0 k t671 t674 t677 true)) else (reckonerlaw02_NatRing.j0 k t671 t674 t677 true)))))))))) = some r := H
 have A4 := Aside0.mk A40
 clear A40
 replace H := Option.bind_eq_some_iff.mp H
 obtain ⟨t674, A50, H⟩ := H
 replace H : ((reckonerlaw02_few.f l2 12).bind fun t677 => ((nat_Add.f t671 t674).bind fun bt680 => ((nat_Add.f t674 t671).bind fun bt684 => ((nat_Mul.f bt680.1 t677).bind fun bt688 => ((nat_Mul.f t671 t677).bind fun bt692 => ((nat_Mul.f t677 t674).bind fun bt696 => ((nat_Add.f bt692.1 bt696.1).bind fun bt700 => (if bt680.2 = 0 then (if bt684.2 = 0 then (if bt688.2 = 0 then (if bt692.2 = 0 then (if bt696.2 = 0 then (if bt700.2 = 0 then ((nat_Cmp.f bt680.1 bt684.1).bind fun t704 => (if t704 = 0 then ((nat_Cmp.f bt688.1 bt700.1).bind fun t705 => (reckonerlaw02_NatRing.j0 k t671 t674 t677 (t705 != 0))) else (reckonerlaw02_NatRing.j0 k t671 t674 t677 true))) else (reckonerlaw02_NatRing.j0 k t671 t674 t677 true)) else (reckonerlaw02_NatRing.j0 k t671 t674 t677 true)) else (reckonerlaw02_NatRing.j0 k t671 t674 t677 true)) else (reckonerlaw02_NatRing.j0 k t671 t674 t677 true)) else (reckonerlaw02_NatRing.j0 k t671 t674 t677 true)) else (reckonerlaw02_NatRing.j0 k t671 t674 t677 true))))))))) = some r := H
 have A5 := Aside0.mk A50
 clear A50
 replace H := Option.bind_eq_some_iff.mp H
 obtain ⟨t677, A60, H⟩ := H
 replace H : ((nat_Add.f t671 t674).bind fun bt680 => ((nat_Add.f t674 t671).bind fun bt684 => ((nat_Mul.f bt680.1 t677).bind fun bt688 => ((nat_Mul.f t671 t677).bind fun bt692 => ((nat_Mul.f t677 t674).bind fun bt696 => ((nat_Add.f bt692.1 bt696.1).bind fun bt700 => (if bt680.2 = 0 then (if bt684.2 = 0 then (if bt688.2 = 0 then (if bt692.2 = 0 then (if bt696.2 = 0 then (if bt700.2 = 0 then ((nat_Cmp.f bt680.1 bt684.1).bind fun t704 => (if t704 = 0 then ((nat_Cmp.f bt688.1 bt700.1).bind fun t705 => (reckonerlaw02_NatRing.j0 k t671 t674 t677 (t705 != 0))) else (reckonerlaw02_NatRing.j0 k t671 t674 t677 true))) else (reckonerlaw02_NatRing.j0 k t671 t674 t677 true)) else (reckonerlaw02_NatRing.j0 k t671 t674 t677 true)) else (reckonerlaw02_NatRing.j0 k t671 t674 t677 true)) else (reckonerlaw02_NatRing.j0 k t671 t674 t677 true)) else (reckonerlaw02_NatRing.j0 k t671 t674 t677 true)) else (reckonerlaw02_NatRing.j0 k t671 t674 t677 true)))))))) = some r := H
 have A6 := Aside0.mk A60
 clear A60
 replace H := Option.bind_eq_some_iff.mp H
 obtain ⟨⟨t680, t681⟩, A70, H⟩ := H
 replace H : ((nat_Add.f t674 t671).bind fun bt684 => ((nat_Mul.f t680 t677).bind fun bt688 => ((nat_Mul.f t671 t677).bind fun bt692 => ((nat_Mul.f t677 t674).bind fun bt696 => ((nat_Add.f bt692.1 bt696.1).bind fun bt700 => (if t681 = 0 then (if bt684.2 = 0 then (if bt688.2 = 0 then (if bt692.2 = 0 then (if bt696.2 = 0 then (if bt700.2 = 0 then ((nat_Cmp.f t680 bt684.1).bind fun t704 => (if t704 = 0 then ((nat_Cmp.f bt688.1 bt700.1).bind fun t705 => (reckonerlaw02_NatRing.j0 k t671 t674 t677 (t705 != 0))) else (reckonerlaw02_NatRing.j0 k t671 t674 t677 true))) else (reckonerlaw02_NatRing.j0 k t671 t674 t677 true)) else (reckonerlaw02_NatRing.j0 k t671 t674 t677 true)) else (reckonerlaw02_NatRing.j0 k t671 t674 t677 true)) else (reckonerlaw02_NatRing.j0 k t671 t674 t677 true)) else (reckonerlaw02_NatRing.j0 k t671 t674 t677 true)) else (reckonerlaw02_NatRing.j0 k t671 t674 t677 true))))))) = some r := H
 have A7 := Aside0.mk A70
 clear A70
 replace H := Option.bind_eq_some_iff.mp H
 obtain ⟨⟨t684, t685⟩, A80, H⟩ := H
 replace H : ((nat_Mul.f t680 t677).bind fun bt688 => ((nat_Mul.f t671 t677).bind fun bt692 => ((nat_Mul.f t677 t674).bind fun bt696 => ((nat_Add.f bt692.1 bt696.1).bind fun bt700 => (if t681 = 0 then (if t685 = 0 then (if bt688.2 = 0 then (if bt692.2 = 0 then (if bt696.2 = 0 then (if bt700.2 = 0 then ((nat_Cmp.f t680 t684).bind fun t704 => (if t704 = 0 then ((nat_Cmp.f bt688.1 bt700.1).bind fun t705 => (reckonerlaw02_NatRing.j0 k t671 t674 t677 (t705 != 0))) else (reckonerlaw02_NatRing.j0 k t671 t674 t677 true))) else (reckonerlaw02_NatRing.j0 k t671 t674 t677 true)) else (reckonerlaw02_NatRing.j0 k t671 t674 t677 true)) else (reckonerlaw02_NatRing.j0 k t671 t674 t677 true)) else (reckonerlaw02_NatRing.j0 k t671 t674 t677 true)) else (reckonerlaw02_NatRing.j0 k t671 t674 t677 true)) else (reckonerlaw02_NatRing.j0 k t671 t674 t677 true)))))) = some r := H
 have A8 := Aside0.mk A80
 clear A80
 replace H := Option.bind_eq_some_iff.mp H
 obtain ⟨⟨t688, t689⟩, A90, H⟩ := H
 replace H : ((nat_Mul.f t671 t677).bind fun bt692 => ((nat_Mul.f t677 t674).bind fun bt696 => ((nat_Add.f bt692.1 bt696.1).bind fun bt700 => (if t681 = 0 then (if t685 = 0 then (if t689 = 0 then (if bt692.2 = 0 then (if bt696.2 = 0 then (if bt700.2 = 0 then ((nat_Cmp.f t680 t684).bind fun t704 => (if t704 = 0 then ((nat_Cmp.f t688 bt700.1).bind fun t705 => (reckonerlaw02_NatRing.j0 k t671 t674 t677 (t705 != 0))) else (reckonerlaw02_NatRing.j0 k t671 t674 t677 true))) else (reckonerlaw02_NatRing.j0 k t671 t674 t677 true)) else (reckonerlaw02_NatRing.j0 k t671 t674 t677 true)) else (reckonerlaw02_NatRing.j0 k t671 t674 t677 true)) else (reckonerlaw02_NatRing.j0 k t671 t674 t677 true)) else (reckonerlaw02_NatRing.j0 k t671 t674 t677 true)) else (reckonerlaw02_NatRing.j0 k t671 t674 t677 true))))) = some r := H
 have A9 := Aside0.mk A90
 clear A90
 replace H := Option.bind_eq_some_iff.mp H
 obtain ⟨⟨t692, t693⟩, A100, H⟩ := H
 replace H : ((nat_Mul.f t677 t674).bind fun bt696 => ((nat_Add.f t692 bt696.1).bind fun bt700 => (if t681 = 0 then (if t685 = 0 then (if t689 = 0 then (if t693 = 0 then (if bt696.2 = 0 then (if bt700.2 = 0 then ((nat_Cmp.f t680 t684).bind fun t704 => (if t704 = 0 then ((nat_Cmp.f t688 bt700.1).bind fun t705 => (reckonerlaw02_NatRing.j0 k t671 t674 t677 (t705 != 0))) else (reckonerlaw02_NatRing.j0 k t671 t674 t677 true))) else (reckonerlaw02_NatRing.j0 k t671 t674 t677 true)) else (reckonerlaw02_NatRing.j0 k t671 t674 t677 true)) else (reckonerlaw02_NatRing.j0 k t671 t674 t677 true)) else (reckonerlaw02_NatRing.j0 k t671 t674 t677 true)) else (reckonerlaw02_NatRing.j0 k t671 t674 t677 true)) else (reckonerlaw02_NatRing.j0 k t671 t674 t677 true)))) = some r := H
 have A10 := Aside0.mk A100
 clear A100
 replace H := Option.bind_eq_some_iff.mp H
 obtain ⟨⟨t696, t697⟩, A110, H⟩ := H
 replace H : ((nat_Add.f t692 t696).bind fun bt700 => (if t681 = 0 then (if t685 = 0 then (if t689 = 0 then (if t693 = 0 then (if t697 = 0 then (if bt700.2 = 0 then ((nat_Cmp.f t680 t684).bind fun t704 => (if t704 = 0 then ((nat_Cmp.f t688 bt700.1).bind fun t705 => (reckonerlaw02_NatRing.j0 k t671 t674 t677 (t705 != 0))) else (reckonerlaw02_NatRing.j0 k t671 t674 t677 true))) else (reckonerlaw02_NatRing.j0 k t671 t674 t677 true)) else (reckonerlaw02_NatRing.j0 k t671 t674 t677 true)) else (reckonerlaw02_NatRing.j0 k t671 t674 t677 true)) else (reckonerlaw02_NatRing.j0 k t671 t674 t677 true)) else (reckonerlaw02_NatRing.j0 k t671 t674 t677 true)) else (reckonerlaw02_NatRing.j0 k t671 t674 t677 true))) = some r := H
 have A11 := Aside0.mk A110
 clear A110
 replace H := Option.bind_eq_some_iff.mp H
 obtain ⟨⟨t700, t701⟩, A120, H⟩ := H
 replace H : (if t681 = 0 then (if t685 = 0 then (if t689 = 0 then (if t693 = 0 then (if t697 = 0 then (if t701 = 0 then ((nat_Cmp.f t680 t684).bind fun t704 => (if t704 = 0 then ((nat_Cmp.f t688 t700).bind fun t705 => (reckonerlaw02_NatRing.j0 k t671 t674 t677 (t705 != 0))) else (reckonerlaw02_NatRing.j0 k t671 t674 t677 true))) else (reckonerlaw02_NatRing.j0 k t671 t674 t677 true)) else (reckonerlaw02_NatRing.j0 k t671 t674 t677 true)) else (reckonerlaw02_NatRing.j0 k t671 t674 t677 true)) else (reckonerlaw02_NatRing.j0 k t671 t674 t677 true)) else (reckonerlaw02_NatRing.j0 k t671 t674 t677 true)) else (reckonerlaw02_NatRing.j0 k t671 t674 t677 true)) = some r := H
 have A12 := Aside0.mk A120
 clear A120
 have HC13 := Aside0.mk H
 clear H
 go_enter Try.func9, Try.ntmps9
 try simp only [List.append]
 go_upto_region 8 with (first | ((with_reducible refine gate_callee (f := 10) rfl ?_); refine goesL_ (some 41) rfl rfl Try.func10 (by kernel_rfl) rfl #[.slice A0 l0.length c0, .int .i64 12] rfl (by (try simp only [List.map_toArray, List.map_cons, List.map_nil]); first | done | rfl | (simp only [List.length_drop, List.length_take]; rfl)) ?_; (with_reducible refine (reckonerlaw02_few.calls _ _ l0 12 t671 _ ?side1 ?side2 A4.out).mono ?_); (case side1 => repeat (first | exact HR0.out | (with_reducible refine Kd.C_alloc ?_ _) | (with_reducible refine Kd.C_drewN ?_ _) | (with_reducible refine Kd.C_drew ?_))); (case side2 => exact HC0.out); rintro e w14 ⟨v672, rfl, ho0, hb⟩; refine ⟨_, rfl, ?_⟩; have n0_ := Aside0.mk (Kd.R_lower ho0 (below_size (by repeat (first | (with_reducible first | exact HB.out | apply below_alloc | apply pw_below_drewN | apply below_drew1) | exact HB.out)))); have n1_ := Aside0.mk (below_step (by repeat (first | (with_reducible first | exact HB.out | apply below_alloc | apply pw_below_drewN | apply below_drew1) | exact HB.out)) hb); clear HB; have HO673 := n0_; have HB := n1_; clear n0_ n1_; (try clear hb); (try clear hb2); (try clear hk); (try clear hi); (try clear ho0)) | ((with_reducible refine gate_callee (f := 10) rfl ?_); refine goesL_ (some 43) rfl rfl Try.func10 (by kernel_rfl) rfl #[.slice A1 l1.length c1, .int .i64 12] rfl (by (try simp only [List.map_toArray, List.map_cons, List.map_nil]); first | done | rfl | (simp only [List.length_drop, List.length_take]; rfl)) ?_; (with_reducible refine (reckonerlaw02_few.calls _ _ l1 12 t674 _ ?side1 ?side2 A5.out).mono ?_); (case side1 => repeat (first | exact (Kd.C_below HR1.out HB.out) | (with_reducible refine Kd.C_alloc ?_ _) | (with_reducible refine Kd.C_drewN ?_ _) | (with_reducible refine Kd.C_drew ?_))); (case side2 => exact HC1.out); rintro e w15 ⟨v675, rfl, ho0, hb⟩; refine ⟨_, rfl, ?_⟩; have n0_ := Aside0.mk (Kd.R_elder' (by (with_reducible repeat (first | apply Kd.R_alloc | apply Kd.R_drewN | apply Kd.R_drew)); exact HO673.out) (Kd.R_base ho0) hb); have n1_ := Aside0.mk (Kd.R_lower (Kd.R_new' ho0 (Kd.R_lt (by (with_reducible repeat (first | apply Kd.R_alloc | apply Kd.R_drewN | apply Kd.R_drew)); exact HO673.out))) (below_size (by repeat (first | (with_reducible first | exact HB.out | apply below_alloc | apply pw_below_drewN | apply below_drew1) | exact HB.out)))); have n2_ := Aside0.mk (below_step (by repeat (first | (with_reducible first | exact HB.out | apply below_alloc | apply pw_below_drewN | apply below_drew1) | exact HB.out)) hb); clear HO673; clear HB; have HO673 := n0_; have HO676 := n1_; have HB := n2_; clear n0_ n1_ n2_; (try clear hb); (try clear hb2); (try clear hk); (try clear hi); (try clear ho0)) | ((with_reducible refine gate_callee (f := 10) rfl ?_); refine goesL_ (some 45) rfl rfl Try.func10 (by kernel_rfl) rfl #[.slice A2 l2.length c2, .int .i64 12] rfl (by (try simp only [List.map_toArray, List.map_cons, List.map_nil]); first | done | rfl | (simp only [List.length_drop, List.length_take]; rfl)) ?_; (with_reducible refine (reckonerlaw02_few.calls _ _ l2 12 t677 _ ?side1 ?side2 A6.out).mono ?_); (case side1 => repeat (first | exact (Kd.C_below HR2.out HB.out) | (with_reducible refine Kd.C_alloc ?_ _) | (with_reducible refine Kd.C_drewN ?_ _) | (with_reducible refine Kd.C_drew ?_))); (case side2 => exact HC2.out); rintro e w16 ⟨v678, rfl, ho0, hb⟩; refine ⟨_, rfl, ?_⟩; have n0_ := Aside0.mk (Kd.R_elder' (by (with_reducible repeat (first | apply Kd.R_alloc | apply Kd.R_drewN | apply Kd.R_drew)); exact HO673.out) (Kd.R_base ho0) hb); have n1_ := Aside0.mk (Kd.R_elder' (by (with_reducible repeat (first | apply Kd.R_alloc | apply Kd.R_drewN | apply Kd.R_drew)); exact HO676.out) (Kd.R_base ho0) hb); have n2_ := Aside0.mk (Kd.R_lower (Kd.R_new' (Kd.R_new' ho0 (Kd.R_lt (by (with_reducible repeat (first | apply Kd.R_alloc | apply Kd.R_drewN | apply Kd.R_drew)); exact HO673.out))) (Kd.R_lt (by (with_reducible repeat (first | apply Kd.R_alloc | apply Kd.R_drewN | apply Kd.R_drew)); exact HO676.out))) (below_size (by repeat (first | (with_reducible first | exact HB.out | apply below_alloc | apply pw_below_drewN | apply below_drew1) | exact HB.out)))); have n3_ := Aside0.mk (below_step (by repeat (first | (with_reducible first | exact HB.out | apply below_alloc | apply pw_below_drewN | apply below_drew1) | exact HB.out)) hb); clear HO673; clear HO676; clear HB; have HO673 := n0_; have HO676 := n1_; have HO679 := n2_; have HB := n3_; clear n0_ n1_ n2_ n3_; (try clear hb); (try clear hb2); (try clear hk); (try clear hi); (try clear ho0); obtain ⟨Ao17, co17, eo17⟩ := Kd.R_slice HO673.out; subst eo17; obtain ⟨Ao18, co18, eo18⟩ := Kd.R_slice HO676.out; subst eo18) | ((with_reducible refine gate_callee (f := 24) rfl ?_); refine goesL_ (some 49) rfl rfl Try.func24 (by kernel_rfl) rfl #[.slice Ao17 t671.length co17, .slice Ao18 t674.length co18] rfl (by (try simp only [List.map_toArray, List.map_cons, List.map_nil]); first | done | rfl | (simp only [List.length_drop, List.length_take]; rfl)) ?_; (with_reducible refine (nat_Add.calls _ _ t671 _ _ t674 t680 t681 _ ?side1 ?side2 ?side3 ?side4 A7.out).mono ?_); (case side1 => repeat (first | exact (Kd.R_reads' HO673.out).2.2 | (with_reducible refine Kd.C_alloc ?_ _) | (with_reducible refine Kd.C_drewN ?_ _) | (with_reducible refine Kd.C_drew ?_))); (case side2 => exact (Kd.R_reads' HO673.out).2.1); (case side3 => repeat (first | exact (Kd.R_reads' HO676.out).2.2 | (with_reducible refine Kd.C_alloc ?_ _) | (with_reducible refine Kd.C_drewN ?_ _) | (with_reducible refine Kd.C_drew ?_))); (case side4 => exact (Kd.R_reads' HO676.out).2.1); rintro e w19 ⟨v682, rfl, ho0, hb⟩; refine ⟨_, rfl, ?_⟩; have n0_ := Aside0.mk (Kd.R_elder' (by (with_reducible repeat (first | apply Kd.R_alloc | apply Kd.R_drewN | apply Kd.R_drew)); exact HO673.out) (Kd.R_base ho0) hb); have n1_ := Aside0.mk (Kd.R_elder' (by (with_reducible repeat (first | apply Kd.R_alloc | apply Kd.R_drewN | apply Kd.R_drew)); exact HO676.out) (Kd.R_base ho0) hb); have n2_ := Aside0.mk (Kd.R_elder' (by (with_reducible repeat (first | apply Kd.R_alloc | apply Kd.R_drewN | apply Kd.R_drew)); exact HO679.out) (Kd.R_base ho0) hb); have n3_ := Aside0.mk (Kd.R_lower (Kd.R_new' (Kd.R_new' (Kd.R_new' ho0 (Kd.R_lt (by (with_reducible repeat (first | apply Kd.R_alloc | apply Kd.R_drewN | apply Kd.R_drew)); exact HO673.out))) (Kd.R_lt (by (with_reducible repeat (first | apply Kd.R_alloc | apply Kd.R_drewN | apply Kd.R_drew)); exact HO676.out))) (Kd.R_lt (by (with_reducible repeat (first | apply Kd.R_alloc | apply Kd.R_drewN | apply Kd.R_drew)); exact HO679.out))) (below_size (by repeat (first | (with_reducible first | exact HB.out | apply below_alloc | apply pw_below_drewN | apply below_drew1) | exact HB.out)))); have n4_ := Aside0.mk (below_step (by repeat (first | (with_reducible first | exact HB.out | apply below_alloc | apply pw_below_drewN | apply below_drew1) | exact HB.out)) hb); clear HO673; clear HO676; clear HO679; clear HB; have HO673 := n0_; have HO676 := n1_; have HO679 := n2_; have HO683 := n3_; have HB := n4_; clear n0_ n1_ n2_ n3_ n4_; (try clear hb); (try clear hb2); (try clear hk); (try clear hi); (try clear ho0)) | ((with_reducible refine gate_callee (f := 24) rfl ?_); refine goesL_ (some 55) rfl rfl Try.func24 (by kernel_rfl) rfl #[.slice Ao18 t674.length co18, .slice Ao17 t671.length co17] rfl (by (try simp only [List.map_toArray, List.map_cons, List.map_nil]); first | done | rfl | (simp only [List.length_drop, List.length_take]; rfl)) ?_; (with_reducible refine (nat_Add.calls _ _ t674 _ _ t671 t684 t685 _ ?side1 ?side2 ?side3 ?side4 A8.out).mono ?_); (case side1 => repeat (first | exact (Kd.R_reads' HO676.out).2.2 | (with_reducible refine Kd.C_alloc ?_ _) | (with_reducible refine Kd.C_drewN ?_ _) | (with_reducible refine Kd.C_drew ?_))); (case side2 => exact (Kd.R_reads' HO676.out).2.1); (case side3 => repeat (first | exact (Kd.R_reads' HO673.out).2.2 | (with_reducible refine Kd.C_alloc ?_ _) | (with_reducible refine Kd.C_drewN ?_ _) | (with_reducible refine Kd.C_drew ?_))); (case side4 => exact (Kd.R_reads' HO673.out).2.1); rintro e w20 ⟨v686, rfl, ho0, hb⟩; refine ⟨_, rfl, ?_⟩; have n0_ := Aside0.mk (Kd.R_elder' (by (with_reducible repeat (first | apply Kd.R_alloc | apply Kd.R_drewN | apply Kd.R_drew)); exact HO673.out) (Kd.R_base ho0) hb); have n1_ := Aside0.mk (Kd.R_elder' (by (with_reducible repeat (first | apply Kd.R_alloc | apply Kd.R_drewN | apply Kd.R_drew)); exact HO676.out) (Kd.R_base ho0) hb); have n2_ := Aside0.mk (Kd.R_elder' (by (with_reducible repeat (first | apply Kd.R_alloc | apply Kd.R_drewN | apply Kd.R_drew)); exact HO679.out) (Kd.R_base ho0) hb); have n3_ := Aside0.mk (Kd.R_elder' (by (with_reducible repeat (first | apply Kd.R_alloc | apply Kd.R_drewN | apply Kd.R_drew)); exact HO683.out) (Kd.R_base ho0) hb); have n4_ := Aside0.mk (Kd.R_lower (Kd.R_new' (Kd.R_new' (Kd.R_new' (Kd.R_new' ho0 (Kd.R_lt (by (with_reducible repeat (first | apply Kd.R_alloc | apply Kd.R_drewN | apply Kd.R_drew)); exact HO673.out))) (Kd.R_lt (by (with_reducible repeat (first | apply Kd.R_alloc | apply Kd.R_drewN | apply Kd.R_drew)); exact HO676.out))) (Kd.R_lt (by (with_reducible repeat (first | apply Kd.R_alloc | apply Kd.R_drewN | apply Kd.R_drew)); exact HO679.out))) (Kd.R_lt (by (with_reducible repeat (first | apply Kd.R_alloc | apply Kd.R_drewN | apply Kd.R_drew)); exact HO683.out))) (below_size (by repeat (first | (with_reducible first | exact HB.out | apply below_alloc | apply pw_below_drewN | apply below_drew1) | exact HB.out)))); have n5_ := Aside0.mk (below_step (by repeat (first | (with_reducible first | exact HB.out | apply below_alloc | apply pw_below_drewN | apply below_drew1) | exact HB.out)) hb); clear HO673; clear HO676; clear HO679; clear HO683; clear HB; have HO673 := n0_; have HO676 := n1_; have HO679 := n2_; have HO683 := n3_; have HO687 := n4_; have HB := n5_; clear n0_ n1_ n2_ n3_ n4_ n5_; (try clear hb); (try clear hb2); (try clear hk); (try clear hi); (try clear ho0); obtain ⟨Ao21, co21, eo21⟩ := Kd.R_slice HO683.out; subst eo21; obtain ⟨Ao22, co22, eo22⟩ := Kd.R_slice HO679.out; subst eo22) | ((with_reducible refine gate_callee (f := 21) rfl ?_); refine goesL_ (some 61) rfl rfl Try.func21 (by kernel_rfl) rfl #[.slice Ao21 t680.length co21, .slice Ao22 t677.length co22] rfl (by (try simp only [List.map_toArray, List.map_cons, List.map_nil]); first | done | rfl | (simp only [List.length_drop, List.length_take]; rfl)) ?_; (with_reducible refine (nat_Mul.calls _ _ t680 _ _ t677 t688 t689 _ ?side1 ?side2 ?side3 ?side4 A9.out).mono ?_); (case side1 => repeat (first | exact (Kd.R_reads' HO683.out).2.2 | (with_reducible refine Kd.C_alloc ?_ _) | (with_reducible refine Kd.C_drewN ?_ _) | (with_reducible refine Kd.C_drew ?_))); (case side2 => exact (Kd.R_reads' HO683.out).2.1); (case side3 => repeat (first | exact (Kd.R_reads' HO679.out).2.2 | (with_reducible refine Kd.C_alloc ?_ _) | (with_reducible refine Kd.C_drewN ?_ _) | (with_reducible refine Kd.C_drew ?_))); (case side4 => exact (Kd.R_reads' HO679.out).2.1); rintro e w23 ⟨v690, rfl, ho0, hb⟩; refine ⟨_, rfl, ?_⟩; have n0_ := Aside0.mk (Kd.R_elder' (by (with_reducible repeat (first | apply Kd.R_alloc | apply Kd.R_drewN | apply Kd.R_drew)); exact HO673.out) (Kd.R_base ho0) hb); have n1_ := Aside0.mk (Kd.R_elder' (by (with_reducible repeat (first | apply Kd.R_alloc | apply Kd.R_drewN | apply Kd.R_drew)); exact HO676.out) (Kd.R_base ho0) hb); have n2_ := Aside0.mk (Kd.R_elder' (by (with_reducible repeat (first | apply Kd.R_alloc | apply Kd.R_drewN | apply Kd.R_drew)); exact HO679.out) (Kd.R_base ho0) hb); have n3_ := Aside0.mk (Kd.R_elder' (by (with_reducible repeat (first | apply Kd.R_alloc | apply Kd.R_drewN | apply Kd.R_drew)); exact HO683.out) (Kd.R_base ho0) hb); have n4_ := Aside0.mk (Kd.R_elder' (by (with_reducible repeat (first | apply Kd.R_alloc | apply Kd.R_drewN | apply Kd.R_drew)); exact HO687.out) (Kd.R_base ho0) hb); have n5_ := Aside0.mk (Kd.R_lower (Kd.R_new' (Kd.R_new' (Kd.R_new' (Kd.R_new' (Kd.R_new' ho0 (Kd.R_lt (by (with_reducible repeat (first | apply Kd.R_alloc | apply Kd.R_drewN | apply Kd.R_drew)); exact HO673.out))) (Kd.R_lt (by (with_reducible repeat (first | apply Kd.R_alloc | apply Kd.R_drewN | apply Kd.R_drew)); exact HO676.out))) (Kd.R_lt (by (with_reducible repeat (first | apply Kd.R_alloc | apply Kd.R_drewN | apply Kd.R_drew)); exact HO679.out))) (Kd.R_lt (by (with_reducible repeat (first | apply Kd.R_alloc | apply Kd.R_drewN | apply Kd.R_drew)); exact HO683.out))) (Kd.R_lt (by (with_reducible repeat (first | apply Kd.R_alloc | apply Kd.R_drewN | apply Kd.R_drew)); exact HO687.out))) (below_size (by repeat (first | (with_reducible first | exact HB.out | apply below_alloc | apply pw_below_drewN | apply below_drew1) | exact HB.out)))); have n6_ := Aside0.mk (below_step (by repeat (first | (with_reducible first | exact HB.out | apply below_alloc | apply pw_below_drewN | apply below_drew1) | exact HB.out)) hb); clear HO673; clear HO676; clear HO679; clear HO683; clear HO687; clear HB; have HO673 := n0_; have HO676 := n1_; have HO679 := n2_; have HO683 := n3_; have HO687 := n4_; have HO691 := n5_; have HB := n6_; clear n0_ n1_ n2_ n3_ n4_ n5_ n6_; (try clear hb); (try clear hb2); (try clear hk); (try clear hi); (try clear ho0)) | ((with_reducible refine gate_callee (f := 21) rfl ?_); refine goesL_ (some 67) rfl rfl Try.func21 (by kernel_rfl) rfl #[.slice Ao17 t671.length co17, .slice Ao22 t677.length co22] rfl (by (try simp only [List.map_toArray, List.map_cons, List.map_nil]); first | done | rfl | (simp only [List.length_drop, List.length_take]; rfl)) ?_; (with_reducible refine (nat_Mul.calls _ _ t671 _ _ t677 t692 t693 _ ?side1 ?side2 ?side3 ?side4 A10.out).mono ?_); (case side1 => repeat (first | exact (Kd.R_reads' HO673.out).2.2 | (with_reducible refine Kd.C_alloc ?_ _) | (with_reducible refine Kd.C_drewN ?_ _) | (with_reducible refine Kd.C_drew ?_))); (case side2 => exact (Kd.R_reads' HO673.out).2.1); (case side3 => repeat (first | exact (Kd.R_reads' HO679.out).2.2 | (with_reducible refine Kd.C_alloc ?_ _) | (with_reducible refine Kd.C_drewN ?_ _) | (with_reducible refine Kd.C_drew ?_))); (case side4 => exact (Kd.R_reads' HO679.out).2.1); rintro e w24 ⟨v694, rfl, ho0, hb⟩; refine ⟨_, rfl, ?_⟩; have n0_ := Aside0.mk (Kd.R_elder' (by (with_reducible repeat (first | apply Kd.R_alloc | apply Kd.R_drewN | apply Kd.R_drew)); exact HO673.out) (Kd.R_base ho0) hb); have n1_ := Aside0.mk (Kd.R_elder' (by (with_reducible repeat (first | apply Kd.R_alloc | apply Kd.R_drewN | apply Kd.R_drew)); exact HO676.out) (Kd.R_base ho0) hb); have n2_ := Aside0.mk (Kd.R_elder' (by (with_reducible repeat (first | apply Kd.R_alloc | apply Kd.R_drewN | apply Kd.R_drew)); exact HO679.out) (Kd.R_base ho0) hb); have n3_ := Aside0.mk (Kd.R_elder' (by (with_reducible repeat (first | apply Kd.R_alloc | apply Kd.R_drewN | apply Kd.R_drew)); exact HO683.out) (Kd.R_base ho0) hb); have n4_ := Aside0.mk (Kd.R_elder' (by (with_reducible repeat (first | apply Kd.R_alloc | apply Kd.R_drewN | apply Kd.R_drew)); exact HO687.out) (Kd.R_base ho0) hb); have n5_ := Aside0.mk (Kd.R_elder' (by (with_reducible repeat (first | apply Kd.R_alloc | apply Kd.R_drewN | apply Kd.R_drew)); exact HO691.out) (Kd.R_base ho0) hb); have n6_ := Aside0.mk (Kd.R_lower (Kd.R_new' (Kd.R_new' (Kd.R_new' (Kd.R_new' (Kd.R_new' (Kd.R_new' ho0 (Kd.R_lt (by (with_reducible repeat (first | apply Kd.R_alloc | apply Kd.R_drewN | apply Kd.R_drew)); exact HO673.out))) (Kd.R_lt (by (with_reducible repeat (first | apply Kd.R_alloc | apply Kd.R_drewN | apply Kd.R_drew)); exact HO676.out))) (Kd.R_lt (by (with_reducible repeat (first | apply Kd.R_alloc | apply Kd.R_drewN | apply Kd.R_drew)); exact HO679.out))) (Kd.R_lt (by (with_reducible repeat (first | apply Kd.R_alloc | apply Kd.R_drewN | apply Kd.R_drew)); exact HO683.out))) (Kd.R_lt (by (with_reducible repeat (first | apply Kd.R_alloc | apply Kd.R_drewN | apply Kd.R_drew)); exact HO687.out))) (Kd.R_lt (by (with_reducible repeat (first | apply Kd.R_alloc | apply Kd.R_drewN | apply Kd.R_drew)); exact HO691.out))) (below_size (by repeat (first | (with_reducible first | exact HB.out | apply below_alloc | apply pw_below_drewN | apply below_drew1) | exact HB.out)))); have n7_ := Aside0.mk (below_step (by repeat (first | (with_reducible first | exact HB.out | apply below_alloc | apply pw_below_drewN | apply below_drew1) | exact HB.out)) hb); clear HO673; clear HO676; clear HO679; clear HO683; clear HO687; clear HO691; clear HB; have HO673 := n0_; have HO676 := n1_; have HO679 := n2_; have HO683 := n3_; have HO687 := n4_; have HO691 := n5_; have HO695 := n6_; have HB := n7_; clear n0_ n1_ n2_ n3_ n4_ n5_ n6_ n7_; (try clear hb); (try clear hb2); (try clear hk); (try clear hi); (try clear ho0)) | ((with_reducible refine gate_callee (f := 21) rfl ?_); refine goesL_ (some 73) rfl rfl Try.func21 (by kernel_rfl) rfl #[.slice Ao22 t677.length co22, .slice Ao18 t674.length co18] rfl (by (try simp only [List.map_toArray, List.map_cons, List.map_nil]); first | done | rfl | (simp only [List.length_drop, List.length_take]; rfl)) ?_; (with_reducible refine (nat_Mul.calls _ _ t677 _ _ t674 t696 t697 _ ?side1 ?side2 ?side3 ?side4 A11.out).mono ?_); (case side1 => repeat (first | exact (Kd.R_reads' HO679.out).2.2 | (with_reducible refine Kd.C_alloc ?_ _) | (with_reducible refine Kd.C_drewN ?_ _) | (with_reducible refine Kd.C_drew ?_))); (case side2 => exact (Kd.R_reads' HO679.out).2.1); (case side3 => repeat (first | exact (Kd.R_reads' HO676.out).2.2 | (with_reducible refine Kd.C_alloc ?_ _) | (with_reducible refine Kd.C_drewN ?_ _) | (with_reducible refine Kd.C_drew ?_))); (case side4 => exact (Kd.R_reads' HO676.out).2.1); rintro e w25 ⟨v698, rfl, ho0, hb⟩; refine ⟨_, rfl, ?_⟩; have n0_ := Aside0.mk (Kd.R_elder' (by (with_reducible repeat (first | apply Kd.R_alloc | apply Kd.R_drewN | apply Kd.R_drew)); exact HO673.out) (Kd.R_base ho0) hb); have n1_ := Aside0.mk (Kd.R_elder' (by (with_reducible repeat (first | apply Kd.R_alloc | apply Kd.R_drewN | apply Kd.R_drew)); exact HO676.out) (Kd.R_base ho0) hb); have n2_ := Aside0.mk (Kd.R_elder' (by (with_reducible repeat (first | apply Kd.R_alloc | apply Kd.R_drewN | apply Kd.R_drew)); exact HO679.out) (Kd.R_base ho0) hb); have n3_ := Aside0.mk (Kd.R_elder' (by (with_reducible repeat (first | apply Kd.R_alloc | apply Kd.R_drewN | apply Kd.R_drew)); exact HO683.out) (Kd.R_base ho0) hb); have n4_ := Aside0.mk (Kd.R_elder' (by (with_reducible repeat (first | apply Kd.R_alloc | apply Kd.R_drewN | apply Kd.R_drew)); exact HO687.out) (Kd.R_base ho0) hb); have n5_ := Aside0.mk (Kd.R_elder' (by (with_reducible repeat (first | apply Kd.R_alloc | apply Kd.R_drewN | apply Kd.R_drew)); exact HO691.out) (Kd.R_base ho0) hb); have n6_ := Aside0.mk (Kd.R_elder' (by (with_reducible repeat (first | apply Kd.R_alloc | apply Kd.R_drewN | apply Kd.R_drew)); exact HO695.out) (Kd.R_base ho0) hb); have n7_ := Aside0.mk (Kd.R_lower (Kd.R_new' (Kd.R_new' (Kd.R_new' (Kd.R_new' (Kd.R_new' (Kd.R_new' (Kd.R_new' ho0 (Kd.R_lt (by (with_reducible repeat (first | apply Kd.R_alloc | apply Kd.R_drewN | apply Kd.R_drew)); exact HO673.out))) (Kd.R_lt (by (with_reducible repeat (first | apply Kd.R_alloc | apply Kd.R_drewN | apply Kd.R_drew)); exact HO676.out))) (Kd.R_lt (by (with_reducible repeat (first | apply Kd.R_alloc | apply Kd.R_drewN | apply Kd.R_drew)); exact HO679.out))) (Kd.R_lt (by (with_reducible repeat (first | apply Kd.R_alloc | apply Kd.R_drewN | apply Kd.R_drew)); exact HO683.out))) (Kd.R_lt (by (with_reducible repeat (first | apply Kd.R_alloc | apply Kd.R_drewN | apply Kd.R_drew)); exact HO687.out))) (Kd.R_lt (by (with_reducible repeat (first | apply Kd.R_alloc | apply Kd.R_drewN | apply Kd.R_drew)); exact HO691.out))) (Kd.R_lt (by (with_reducible repeat (first | apply Kd.R_alloc | apply Kd.R_drewN | apply Kd.R_drew)); exact HO695.out))) (below_size (by repeat (first | (with_reducible first | exact HB.out | apply below_alloc | apply pw_below_drewN | apply below_drew1) | exact HB.out)))); have n8_ := Aside0.mk (below_step (by repeat (first | (with_reducible first | exact HB.out | apply below_alloc | apply pw_below_drewN | apply below_drew1) | exact HB.out)) hb); clear HO673; clear HO676; clear HO679; clear HO683; clear HO687; clear HO691; clear HO695; clear HB; have HO673 := n0_; have HO676 := n1_; have HO679 := n2_; have HO683 := n3_; have HO687 := n4_; have HO691 := n5_; have HO695 := n6_; have HO699 := n7_; have HB := n8_; clear n0_ n1_ n2_ n3_ n4_ n5_ n6_ n7_ n8_; (try clear hb); (try clear hb2); (try clear hk); (try clear hi); (try clear ho0); obtain ⟨Ao26, co26, eo26⟩ := Kd.R_slice HO695.out; subst eo26; obtain ⟨Ao27, co27, eo27⟩ := Kd.R_slice HO699.out; subst eo27) | ((with_reducible refine gate_callee (f := 24) rfl ?_); refine goesL_ (some 79) rfl rfl Try.func24 (by kernel_rfl) rfl #[.slice Ao26 t692.length co26, .slice Ao27 t696.length co27] rfl (by (try simp only [List.map_toArray, List.map_cons, List.map_nil]); first | done | rfl | (simp only [List.length_drop, List.length_take]; rfl)) ?_; (with_reducible refine (nat_Add.calls _ _ t692 _ _ t696 t700 t701 _ ?side1 ?side2 ?side3 ?side4 A12.out).mono ?_); (case side1 => repeat (first | exact (Kd.R_reads' HO695.out).2.2 | (with_reducible refine Kd.C_alloc ?_ _) | (with_reducible refine Kd.C_drewN ?_ _) | (with_reducible refine Kd.C_drew ?_))); (case side2 => exact (Kd.R_reads' HO695.out).2.1); (case side3 => repeat (first | exact (Kd.R_reads' HO699.out).2.2 | (with_reducible refine Kd.C_alloc ?_ _) | (with_reducible refine Kd.C_drewN ?_ _) | (with_reducible refine Kd.C_drew ?_))); (case side4 => exact (Kd.R_reads' HO699.out).2.1); rintro e w28 ⟨v702, rfl, ho0, hb⟩; refine ⟨_, rfl, ?_⟩; have n0_ := Aside0.mk (Kd.R_elder' (by (with_reducible repeat (first | apply Kd.R_alloc | apply Kd.R_drewN | apply Kd.R_drew)); exact HO673.out) (Kd.R_base ho0) hb); have n1_ := Aside0.mk (Kd.R_elder' (by (with_reducible repeat (first | apply Kd.R_alloc | apply Kd.R_drewN | apply Kd.R_drew)); exact HO676.out) (Kd.R_base ho0) hb); have n2_ := Aside0.mk (Kd.R_elder' (by (with_reducible repeat (first | apply Kd.R_alloc | apply Kd.R_drewN | apply Kd.R_drew)); exact HO679.out) (Kd.R_base ho0) hb); have n3_ := Aside0.mk (Kd.R_elder' (by (with_reducible repeat (first | apply Kd.R_alloc | apply Kd.R_drewN | apply Kd.R_drew)); exact HO683.out) (Kd.R_base ho0) hb); have n4_ := Aside0.mk (Kd.R_elder' (by (with_reducible repeat (first | apply Kd.R_alloc | apply Kd.R_drewN | apply Kd.R_drew)); exact HO687.out) (Kd.R_base ho0) hb); have n5_ := Aside0.mk (Kd.R_elder' (by (with_reducible repeat (first | apply Kd.R_alloc | apply Kd.R_drewN | apply Kd.R_drew)); exact HO691.out) (Kd.R_base ho0) hb); have n6_ := Aside0.mk (Kd.R_elder' (by (with_reducible repeat (first | apply Kd.R_alloc | apply Kd.R_drewN | apply Kd.R_drew)); exact HO695.out) (Kd.R_base ho0) hb); have n7_ := Aside0.mk (Kd.R_elder' (by (with_reducible repeat (first | apply Kd.R_alloc | apply Kd.R_drewN | apply Kd.R_drew)); exact HO699.out) (Kd.R_base ho0) hb); have n8_ := Aside0.mk (Kd.R_lower (Kd.R_new' (Kd.R_new' (Kd.R_new' (Kd.R_new' (Kd.R_new' (Kd.R_new' (Kd.R_new' (Kd.R_new' ho0 (Kd.R_lt (by (with_reducible repeat (first | apply Kd.R_alloc | apply Kd.R_drewN | apply Kd.R_drew)); exact HO673.out))) (Kd.R_lt (by (with_reducible repeat (first | apply Kd.R_alloc | apply Kd.R_drewN | apply Kd.R_drew)); exact HO676.out))) (Kd.R_lt (by (with_reducible repeat (first | apply Kd.R_alloc | apply Kd.R_drewN | apply Kd.R_drew)); exact HO679.out))) (Kd.R_lt (by (with_reducible repeat (first | apply Kd.R_alloc | apply Kd.R_drewN | apply Kd.R_drew)); exact HO683.out))) (Kd.R_lt (by (with_reducible repeat (first | apply Kd.R_alloc | apply Kd.R_drewN | apply Kd.R_drew)); exact HO687.out))) (Kd.R_lt (by (with_reducible repeat (first | apply Kd.R_alloc | apply Kd.R_drewN | apply Kd.R_drew)); exact HO691.out))) (Kd.R_lt (by (with_reducible repeat (first | apply Kd.R_alloc | apply Kd.R_drewN | apply Kd.R_drew)); exact HO695.out))) (Kd.R_lt (by (with_reducible repeat (first | apply Kd.R_alloc | apply Kd.R_drewN | apply Kd.R_drew)); exact HO699.out))) (below_size (by repeat (first | (with_reducible first | exact HB.out | apply below_alloc | apply pw_below_drewN | apply below_drew1) | exact HB.out)))); have n9_ := Aside0.mk (below_step (by repeat (first | (with_reducible first | exact HB.out | apply below_alloc | apply pw_below_drewN | apply below_drew1) | exact HB.out)) hb); clear HO673; clear HO676; clear HO679; clear HO683; clear HO687; clear HO691; clear HO695; clear HO699; clear HB; have HO673 := n0_; have HO676 := n1_; have HO679 := n2_; have HO683 := n3_; have HO687 := n4_; have HO691 := n5_; have HO695 := n6_; have HO699 := n7_; have HO703 := n8_; have HB := n9_; clear n0_ n1_ n2_ n3_ n4_ n5_ n6_ n7_ n8_ n9_; (try clear hb); (try clear hb2); (try clear hk); (try clear hi); (try clear ho0)))
 (try simp only [Act.put, List.setIfInBounds_toArray, List.set_cons_zero, List.set_cons_succ])
 go_cut [115] (fun v115 wc => ∃ (kq : Nat) (x115_12 : Bool), v115 = .bool x115_12 ∧ Aside0 (reckonerlaw02_NatRing.j0 kq t671 t674 t677 x115_12 = some r) ∧ Aside0 (kq ≤ k) ∧ Aside0 (Kd.R (Kd.int .u64) 33 wc w.heap.size (fun k_ => some k_ ≠ ((.slice Ao18 t674.length co18) : Value).ownBlock ∧ some k_ ≠ ((.slice Ao22 t677.length co22) : Value).ownBlock) (.slice Ao17 t671.length co17) t671) ∧ Aside0 (Kd.R (Kd.int .u64) 33 wc w.heap.size (fun k_ => some k_ ≠ ((.slice Ao17 t671.length co17) : Value).ownBlock ∧ some k_ ≠ ((.slice Ao22 t677.length co22) : Value).ownBlock) (.slice Ao18 t674.length co18) t674) ∧ Aside0 (Kd.R (Kd.int .u64) 33 wc w.heap.size (fun k_ => some k_ ≠ ((.slice Ao17 t671.length co17) : Value).ownBlock ∧ some k_ ≠ ((.slice Ao18 t674.length co18) : Value).ownBlock) (.slice Ao22 t677.length co22) t677) ∧ Aside0 (Below w.heap.size w wc))
 case first => as_aux_lemma =>
  have H := HC13.out
  clear HC13
  by_cases c29 : t681 = 0
  ·rw [if_pos c29] at H
   have c29b0 : (t681 == 0) = true := beq_iff_eq.mpr c29
   have c29b1 : (t681 != 0) = false := bne_eq_false_iff_eq.mpr c29
   clear c29
   (first | rw [c29b0] | (simp only [i64_w, i32_w]; rw [c29b0]) | skip)
   by_cases c30 : t685 = 0
   ·rw [if_pos c30] at H
    have c30b0 : (t685 == 0) = true := beq_iff_eq.mpr c30
    have c30b1 : (t685 != 0) = false := bne_eq_false_iff_eq.mpr c30
    clear c30
    by_cases c31 : t689 = 0
    ·rw [if_pos c31] at H
     have c31b0 : (t689 == 0) = true := beq_iff_eq.mpr c31
     have c31b1 : (t689 != 0) = false := bne_eq_false_iff_eq.mpr c31
     clear c31
     by_cases c32 : t693 = 0
     ·rw [if_pos c32] at H
      have c32b0 : (t693 == 0) = true := beq_iff_eq.mpr c32
      have c32b1 : (t693 != 0) = false := bne_eq_false_iff_eq.mpr c32
      clear c32
      by_cases c33 : t697 = 0
      ·rw [if_pos c33] at H
       have c33b0 : (t697 == 0) = true := beq_iff_eq.mpr c33
       have c33b1 : (t697 != 0) = false := bne_eq_false_iff_eq.mpr c33
       clear c33
       by_cases c34 : t701 = 0
       ·rw [if_pos c34] at H
        have c34b0 : (t701 == 0) = true := beq_iff_eq.mpr c34
        have c34b1 : (t701 != 0) = false := bne_eq_false_iff_eq.mpr c34
        clear c34
        replace H := Option.bind_eq_some_iff.mp H
        obtain ⟨t704, A350, H⟩ := H
        replace H : (if t704 = 0 then ((nat_Cmp.f t688 t700).bind fun t705 => (reckonerlaw02_NatRing.j0 k t671 t674 t677 (t705 != 0))) else (reckonerlaw02_NatRing.j0 k t671 t674 t677 true)) = some r := H
        have A35 := Aside0.mk A350
        clear A350
        by_cases c36 : t704 = 0
        ·rw [if_pos c36] at H
         have c36b0 : (t704 == 0) = true := beq_iff_eq.mpr c36
         have c36b1 : (t704 != 0) = false := bne_eq_false_iff_eq.mpr c36
         clear c36
         replace H := Option.bind_eq_some_iff.mp H
         obtain ⟨t705, A370, H⟩ := H
         replace H : (reckonerlaw02_NatRing.j0 k t671 t674 t677 (t705 != 0)) = some r := H
         have A37 := Aside0.mk A370
         clear A370
         have H' := Aside0.mk H
         clear H
         obtain ⟨Ao38, co38, eo38⟩ := Kd.R_slice HO687.out
         subst eo38
         go_wp2_with (first | (go_at_call 39; (with_reducible refine (nat_Cmp.calls _ _ t680 _ _ t684 t704 _ ?side1 ?side2 ?side3 ?side4 A35.out).mono ?_); (case side1 => repeat (first | exact (Kd.R_reads' HO683.out).2.2 | (with_reducible refine Kd.C_alloc ?_ _) | (with_reducible refine Kd.C_drewN ?_ _) | (with_reducible refine Kd.C_drew ?_))); (case side2 => exact (Kd.R_reads' HO683.out).2.1); (case side3 => repeat (first | exact (Kd.R_reads' HO687.out).2.2 | (with_reducible refine Kd.C_alloc ?_ _) | (with_reducible refine Kd.C_drewN ?_ _) | (with_reducible refine Kd.C_drew ?_))); (case side4 => exact (Kd.R_reads' HO687.out).2.1); rintro e w' ⟨rfl, ⟨nd, rfl⟩⟩; obtain ⟨Ao39, co39, eo39⟩ := Kd.R_slice HO691.out; subst eo39; obtain ⟨Ao40, co40, eo40⟩ := Kd.R_slice HO703.out; subst eo40) | (go_at_call 39; (with_reducible refine (nat_Cmp.calls _ _ t688 _ _ t700 t705 _ ?side1 ?side2 ?side3 ?side4 A37.out).mono ?_); (case side1 => repeat (first | exact (Kd.R_reads' HO691.out).2.2 | (with_reducible refine Kd.C_alloc ?_ _) | (with_reducible refine Kd.C_drewN ?_ _) | (with_reducible refine Kd.C_drew ?_))); (case side2 => exact (Kd.R_reads' HO691.out).2.1); (case side3 => repeat (first | exact (Kd.R_reads' HO703.out).2.2 | (with_reducible refine Kd.C_alloc ?_ _) | (with_reducible refine Kd.C_drewN ?_ _) | (with_reducible refine Kd.C_drew ?_))); (case side4 => exact (Kd.R_reads' HO703.out).2.1); rintro e w' ⟨rfl, ⟨nd, rfl⟩⟩))
         go_meet
         case rel => exact ⟨_, ((t705 != 0)), (by first | rfl | (simp; done) | (simp [*]; done)), H', ⟨by first | omega | exact Nat.le_refl _⟩, ⟨by (with_reducible repeat (first | apply Kd.R_alloc | apply Kd.R_drewN | apply Kd.R_drew)); exact Kd.R_mono HO673.out (fun _ hk => ⟨hk.1.1.1.1.1.1.1.2, hk.1.1.1.1.1.1.2⟩)⟩, ⟨by (with_reducible repeat (first | apply Kd.R_alloc | apply Kd.R_drewN | apply Kd.R_drew)); exact Kd.R_mono HO676.out (fun _ hk => ⟨hk.1.1.1.1.1.1.1.2, hk.1.1.1.1.1.1.2⟩)⟩, ⟨by (with_reducible repeat (first | apply Kd.R_alloc | apply Kd.R_drewN | apply Kd.R_drew)); exact Kd.R_mono HO679.out (fun _ hk => ⟨hk.1.1.1.1.1.1.1.2, hk.1.1.1.1.1.1.2⟩)⟩, ⟨by repeat (first | (with_reducible first | exact HB.out | apply below_alloc | apply pw_below_drewN | apply below_drew1) | exact HB.out)⟩⟩
        ·rw [if_neg c36] at H
         have c36b0 : (t704 == 0) = false := beq_eq_false_iff_ne.mpr c36
         have c36b1 : (t704 != 0) = true := bne_iff_ne.mpr c36
         have H' := Aside0.mk H
         clear H
         obtain ⟨Ao41, co41, eo41⟩ := Kd.R_slice HO687.out
         subst eo41
         go_wp2_with (first | (go_at_call 39; (with_reducible refine (nat_Cmp.calls _ _ t680 _ _ t684 t704 _ ?side1 ?side2 ?side3 ?side4 A35.out).mono ?_); (case side1 => repeat (first | exact (Kd.R_reads' HO683.out).2.2 | (with_reducible refine Kd.C_alloc ?_ _) | (with_reducible refine Kd.C_drewN ?_ _) | (with_reducible refine Kd.C_drew ?_))); (case side2 => exact (Kd.R_reads' HO683.out).2.1); (case side3 => repeat (first | exact (Kd.R_reads' HO687.out).2.2 | (with_reducible refine Kd.C_alloc ?_ _) | (with_reducible refine Kd.C_drewN ?_ _) | (with_reducible refine Kd.C_drew ?_))); (case side4 => exact (Kd.R_reads' HO687.out).2.1); rintro e w' ⟨rfl, ⟨nd, rfl⟩⟩))
         go_meet
         case rel => exact ⟨_, (true), (by first | rfl | (simp; done) | (simp [*]; done)), H', ⟨by first | omega | exact Nat.le_refl _⟩, ⟨by (with_reducible repeat (first | apply Kd.R_alloc | apply Kd.R_drewN | apply Kd.R_drew)); exact Kd.R_mono HO673.out (fun _ hk => ⟨hk.1.1.1.1.1.1.1.2, hk.1.1.1.1.1.1.2⟩)⟩, ⟨by (with_reducible repeat (first | apply Kd.R_alloc | apply Kd.R_drewN | apply Kd.R_drew)); exact Kd.R_mono HO676.out (fun _ hk => ⟨hk.1.1.1.1.1.1.1.2, hk.1.1.1.1.1.1.2⟩)⟩, ⟨by (with_reducible repeat (first | apply Kd.R_alloc | apply Kd.R_drewN | apply Kd.R_drew)); exact Kd.R_mono HO679.out (fun _ hk => ⟨hk.1.1.1.1.1.1.1.2, hk.1.1.1.1.1.1.2⟩)⟩, ⟨by repeat (first | (with_reducible first | exact HB.out | apply below_alloc | apply pw_below_drewN | apply below_drew1) | exact HB.out)⟩⟩
       ·rw [if_neg c34] at H
        have c34b0 : (t701 == 0) = false := beq_eq_false_iff_ne.mpr c34
        have c34b1 : (t701 != 0) = true := bne_iff_ne.mpr c34
        have H' := Aside0.mk H
        clear H
        go_wp2
        go_meet
        case rel => exact ⟨_, (true), (by first | rfl | (simp; done) | (simp [*]; done)), H', ⟨by first | omega | exact Nat.le_refl _⟩, ⟨by (with_reducible repeat (first | apply Kd.R_alloc | apply Kd.R_drewN | apply Kd.R_drew)); exact Kd.R_mono HO673.out (fun _ hk => ⟨hk.1.1.1.1.1.1.1.2, hk.1.1.1.1.1.1.2⟩)⟩, ⟨by (with_reducible repeat (first | apply Kd.R_alloc | apply Kd.R_drewN | apply Kd.R_drew)); exact Kd.R_mono HO676.out (fun _ hk => ⟨hk.1.1.1.1.1.1.1.2, hk.1.1.1.1.1.1.2⟩)⟩, ⟨by (with_reducible repeat (first | apply Kd.R_alloc | apply Kd.R_drewN | apply Kd.R_drew)); exact Kd.R_mono HO679.out (fun _ hk => ⟨hk.1.1.1.1.1.1.1.2, hk.1.1.1.1.1.1.2⟩)⟩, ⟨by repeat (first | (with_reducible first | exact HB.out | apply below_alloc | apply pw_below_drewN | apply below_drew1) | exact HB.out)⟩⟩
      ·rw [if_neg c33] at H
       have c33b0 : (t697 == 0) = false := beq_eq_false_iff_ne.mpr c33
       have c33b1 : (t697 != 0) = true := bne_iff_ne.mpr c33
       have H' := Aside0.mk H
       clear H
       go_wp2
       go_meet
       case rel => exact ⟨_, (true), (by first | rfl | (simp; done) | (simp [*]; done)), H', ⟨by first | omega | exact Nat.le_refl _⟩, ⟨by (with_reducible repeat (first | apply Kd.R_alloc | apply Kd.R_drewN | apply Kd.R_drew)); exact Kd.R_mono HO673.out (fun _ hk => ⟨hk.1.1.1.1.1.1.1.2, hk.1.1.1.1.1.1.2⟩)⟩, ⟨by (with_reducible repeat (first | apply Kd.R_alloc | apply Kd.R_drewN | apply Kd.R_drew)); exact Kd.R_mono HO676.out (fun _ hk => ⟨hk.1.1.1.1.1.1.1.2, hk.1.1.1.1.1.1.2⟩)⟩, ⟨by (with_reducible repeat (first | apply Kd.R_alloc | apply Kd.R_drewN | apply Kd.R_drew)); exact Kd.R_mono HO679.out (fun _ hk => ⟨hk.1.1.1.1.1.1.1.2, hk.1.1.1.1.1.1.2⟩)⟩, ⟨by repeat (first | (with_reducible first | exact HB.out | apply below_alloc | apply pw_below_drewN | apply below_drew1) | exact HB.out)⟩⟩
     ·rw [if_neg c32] at H
      have c32b0 : (t693 == 0) = false := beq_eq_false_iff_ne.mpr c32
      have c32b1 : (t693 != 0) = true := bne_iff_ne.mpr c32
      have H' := Aside0.mk H
      clear H
      go_wp2
      go_meet
      case rel => exact ⟨_, (true), (by first | rfl | (simp; done) | (simp [*]; done)), H', ⟨by first | omega | exact Nat.le_refl _⟩, ⟨by (with_reducible repeat (first | apply Kd.R_alloc | apply Kd.R_drewN | apply Kd.R_drew)); exact Kd.R_mono HO673.out (fun _ hk => ⟨hk.1.1.1.1.1.1.1.2, hk.1.1.1.1.1.1.2⟩)⟩, ⟨by (with_reducible repeat (first | apply Kd.R_alloc | apply Kd.R_drewN | apply Kd.R_drew)); exact Kd.R_mono HO676.out (fun _ hk => ⟨hk.1.1.1.1.1.1.1.2, hk.1.1.1.1.1.1.2⟩)⟩, ⟨by (with_reducible repeat (first | apply Kd.R_alloc | apply Kd.R_drewN | apply Kd.R_drew)); exact Kd.R_mono HO679.out (fun _ hk => ⟨hk.1.1.1.1.1.1.1.2, hk.1.1.1.1.1.1.2⟩)⟩, ⟨by repeat (first | (with_reducible first | exact HB.out | apply below_alloc | apply pw_below_drewN | apply below_drew1) | exact HB.out)⟩⟩
    ·rw [if_neg c31] at H
     have c31b0 : (t689 == 0) = false := beq_eq_false_iff_ne.mpr c31
     have c31b1 : (t689 != 0) = true := bne_iff_ne.mpr c31
     have H' := Aside0.mk H
     clear H
     go_wp2
     go_meet
     case rel => exact ⟨_, (true), (by first | rfl | (simp; done) | (simp [*]; done)), H', ⟨by first | omega | exact Nat.le_refl _⟩, ⟨by (with_reducible repeat (first | apply Kd.R_alloc | apply Kd.R_drewN | apply Kd.R_drew)); exact Kd.R_mono HO673.out (fun _ hk => ⟨hk.1.1.1.1.1.1.1.2, hk.1.1.1.1.1.1.2⟩)⟩, ⟨by (with_reducible repeat (first | apply Kd.R_alloc | apply Kd.R_drewN | apply Kd.R_drew)); exact Kd.R_mono HO676.out (fun _ hk => ⟨hk.1.1.1.1.1.1.1.2, hk.1.1.1.1.1.1.2⟩)⟩, ⟨by (with_reducible repeat (first | apply Kd.R_alloc | apply Kd.R_drewN | apply Kd.R_drew)); exact Kd.R_mono HO679.out (fun _ hk => ⟨hk.1.1.1.1.1.1.1.2, hk.1.1.1.1.1.1.2⟩)⟩, ⟨by repeat (first | (with_reducible first | exact HB.out | apply below_alloc | apply pw_below_drewN | apply below_drew1) | exact HB.out)⟩⟩
   ·rw [if_neg c30] at H
    have c30b0 : (t685 == 0) = false := beq_eq_false_iff_ne.mpr c30
    have c30b1 : (t685 != 0) = true := bne_iff_ne.mpr c30
    have H' := Aside0.mk H
    clear H
    go_wp2
    go_meet
    case rel => exact ⟨_, (true), (by first | rfl | (simp; done) | (simp [*]; done)), H', ⟨by first | omega | exact Nat.le_refl _⟩, ⟨by (with_reducible repeat (first | apply Kd.R_alloc | apply Kd.R_drewN | apply Kd.R_drew)); exact Kd.R_mono HO673.out (fun _ hk => ⟨hk.1.1.1.1.1.1.1.2, hk.1.1.1.1.1.1.2⟩)⟩, ⟨by (with_reducible repeat (first | apply Kd.R_alloc | apply Kd.R_drewN | apply Kd.R_drew)); exact Kd.R_mono HO676.out (fun _ hk => ⟨hk.1.1.1.1.1.1.1.2, hk.1.1.1.1.1.1.2⟩)⟩, ⟨by (with_reducible repeat (first | apply Kd.R_alloc | apply Kd.R_drewN | apply Kd.R_drew)); exact Kd.R_mono HO679.out (fun _ hk => ⟨hk.1.1.1.1.1.1.1.2, hk.1.1.1.1.1.1.2⟩)⟩, ⟨by repeat (first | (with_reducible first | exact HB.out | apply below_alloc | apply pw_below_drewN | apply below_drew1) | exact HB.out)⟩⟩
  ·rw [if_neg c29] at H
   have c29b0 : (t681 == 0) = false := beq_eq_false_iff_ne.mpr c29
   have c29b1 : (t681 != 0) = true := bne_iff_ne.mpr c29
   (first | rw [c29b0] | (simp only [i64_w, i32_w]; rw [c29b0]) | skip)
   have H' := Aside0.mk H
   clear H
   go_wp2
   go_meet
   case rel => exact ⟨_, (true), (by first | rfl | (simp; done) | (simp [*]; done)), H', ⟨by first | omega | exact Nat.le_refl _⟩, ⟨by (with_reducible repeat (first | apply Kd.R_alloc | apply Kd.R_drewN | apply Kd.R_drew)); exact Kd.R_mono HO673.out (fun _ hk => ⟨hk.1.1.1.1.1.1.1.2, hk.1.1.1.1.1.1.2⟩)⟩, ⟨by (with_reducible repeat (first | apply Kd.R_alloc | apply Kd.R_drewN | apply Kd.R_drew)); exact Kd.R_mono HO676.out (fun _ hk => ⟨hk.1.1.1.1.1.1.1.2, hk.1.1.1.1.1.1.2⟩)⟩, ⟨by (with_reducible repeat (first | apply Kd.R_alloc | apply Kd.R_drewN | apply Kd.R_drew)); exact Kd.R_mono HO679.out (fun _ hk => ⟨hk.1.1.1.1.1.1.1.2, hk.1.1.1.1.1.1.2⟩)⟩, ⟨by repeat (first | (with_reducible first | exact HB.out | apply below_alloc | apply pw_below_drewN | apply below_drew1) | exact HB.out)⟩⟩
 case rest => as_aux_lemma =>
  clear HC13
  try clear c1
  try clear c2
  try clear p2
  try clear c3
  try clear c9
  try clear c10
  try clear c21
  try clear c24
  try clear c29
  try clear c29b0
  try clear c29b1
  try clear c30
  try clear c30b0
  try clear c30b1
  try clear c31
  try clear c31b0
  try clear c31b1
  try clear c32
  try clear c32b0
  try clear c32b1
  try clear c33
  try clear c33b0
  try clear c33b1
  try clear c34
  try clear c34b0
  try clear c34b1
  try clear c36
  try clear c36b0
  try clear c36b1
  obtain ⟨kq, x115_12, rfl, HA, HJ12, HO_7, HO_8, HO_9, HB⟩ := hcut
  cases kq with
  | zero => exact absurd HA.out (by simp [reckonerlaw02_NatRing.j0])
  | succ kj12 =>
   have H := HA.out
   clear HA
   simp only [reckonerlaw02_NatRing.j0] at H
   by_cases c42 : x115_12 = true
   ·subst c42
    have H1 : (none) = some r := by rw [if_pos rfl] at H; exact H
    clear H
    have H := H1
    clear H1
    exact absurd H (by simp)
   ·replace c42 := Bool.eq_false_iff.mpr c42
    subst c42
    have H1 : ((nat_Add.f t671 (([1] : List Int))).bind fun bt709 => ((nat_Square.f bt709.1).bind fun bt713 => ((nat_Square.f t671).bind fun bt717 => ((nat_Left.f t671 1).bind fun bt721 => ((nat_Sum.f (([bt717.1, bt721.1, (([1] : List Int))] : List (List Int)))).bind fun bt731 => (if bt709.2 = 0 then (if bt713.2 = 0 then (if bt717.2 = 0 then (if bt721.2 = 0 then (if bt731.2 = 0 then ((nat_Cmp.f bt713.1 bt731.1).bind fun t735 => (reckonerlaw02_NatRing.j1 kj12 t671 t674 t677 (t735 != 0))) else (reckonerlaw02_NatRing.j1 kj12 t671 t674 t677 true)) else (reckonerlaw02_NatRing.j1 kj12 t671 t674 t677 true)) else (reckonerlaw02_NatRing.j1 kj12 t671 t674 t677 true)) else (reckonerlaw02_NatRing.j1 kj12 t671 t674 t677 true)) else (reckonerlaw02_NatRing.j1 kj12 t671 t674 t677 true))))))) = some r := by rw [if_neg (show ¬ (false = true) by decide)] at H; exact H
    clear H
    have H := H1
    clear H1
    obtain ⟨y706, hy706⟩ : ∃ y_ : List Int, y_ = (([1] : List Int)) := ⟨_, rfl⟩
    replace H : ((nat_Add.f t671 y706).bind fun bt709 => ((nat_Square.f bt709.1).bind fun bt713 => ((nat_Square.f t671).bind fun bt717 => ((nat_Left.f t671 1).bind fun bt721 => ((nat_Sum.f (([bt717.1, bt721.1, (([1] : List Int))] : List (List Int)))).bind fun bt731 => (if bt709.2 = 0 then (if bt713.2 = 0 then (if bt717.2 = 0 then (if bt721.2 = 0 then (if bt731.2 = 0 then ((nat_Cmp.f bt713.1 bt731.1).bind fun t735 => (reckonerlaw02_NatRing.j1 kj12 t671 t674 t677 (t735 != 0))) else (reckonerlaw02_NatRing.j1 kj12 t671 t674 t677 true)) else (reckonerlaw02_NatRing.j1 kj12 t671 t674 t677 true)) else (reckonerlaw02_NatRing.j1 kj12 t671 t674 t677 true)) else (reckonerlaw02_NatRing.j1 kj12 t671 t674 t677 true)) else (reckonerlaw02_NatRing.j1 kj12 t671 t674 t677 true))))))) = some r := by first | (rw [hy706]; with_reducible exact H) | (have H2_ := (Option.bind_some _ _).symm.trans H; rw [hy706]; with_reducible exact H2_) | (have H2_ := (Option.bind_some _ _).symm.trans H; with_reducible exact H2_) | with_reducible exact H | (rw [hy706]; exact H) | exact H
    have Ny706 := Aside0.mk hy706
    clear hy706
    replace H := Option.bind_eq_some_iff.mp H
    obtain ⟨⟨t709, t710⟩, A430, H⟩ := H
    replace H : ((nat_Square.f t709).bind fun bt713 => ((nat_Square.f t671).bind fun bt717 => ((nat_Left.f t671 1).bind fun bt721 => ((nat_Sum.f (([bt717.1, bt721.1, (([1] : List Int))] : List (List Int)))).bind fun bt731 => (if t710 = 0 then (if bt713.2 = 0 then (if bt717.2 = 0 then (if bt721.2 = 0 then (if bt731.2 = 0 then ((nat_Cmp.f bt713.1 bt731.1).bind fun t735 => (reckonerlaw02_NatRing.j1 kj12 t671 t674 t677 (t735 != 0))) else (reckonerlaw02_NatRing.j1 kj12 t671 t674 t677 true)) else (reckonerlaw02_NatRing.j1 kj12 t671 t674 t677 true)) else (reckonerlaw02_NatRing.j1 kj12 t671 t674 t677 true)) else (reckonerlaw02_NatRing.j1 kj12 t671 t674 t677 true)) else (reckonerlaw02_NatRing.j1 kj12 t671 t674 t677 true)))))) = some r := H
    have A43 := Aside0.mk A430
    clear A430
    replace H := Option.bind_eq_some_iff.mp H
    obtain ⟨⟨t713, t714⟩, A440, H⟩ := H
    replace H : ((nat_Square.f t671).bind fun bt717 => ((nat_Left.f t671 1).bind fun bt721 => ((nat_Sum.f (([bt717.1, bt721.1, (([1] : List Int))] : List (List Int)))).bind fun bt731 => (if t710 = 0 then (if t714 = 0 then (if bt717.2 = 0 then (if bt721.2 = 0 then (if bt731.2 = 0 then ((nat_Cmp.f t713 bt731.1).bind fun t735 => (reckonerlaw02_NatRing.j1 kj12 t671 t674 t677 (t735 != 0))) else (reckonerlaw02_NatRing.j1 kj12 t671 t674 t677 true)) else (reckonerlaw02_NatRing.j1 kj12 t671 t674 t677 true)) else (reckonerlaw02_NatRing.j1 kj12 t671 t674 t677 true)) else (reckonerlaw02_NatRing.j1 kj12 t671 t674 t677 true)) else (reckonerlaw02_NatRing.j1 kj12 t671 t674 t677 true))))) = some r := H
    have A44 := Aside0.mk A440
    clear A440
    replace H := Option.bind_eq_some_iff.mp H
    obtain ⟨⟨t717, t718⟩, A450, H⟩ := H
    replace H : ((nat_Left.f t671 1).bind fun bt721 => ((nat_Sum.f (([t717, bt721.1, (([1] : List Int))] : List (List Int)))).bind fun bt731 => (if t710 = 0 then (if t714 = 0 then (if t718 = 0 then (if bt721.2 = 0 then (if bt731.2 = 0 then ((nat_Cmp.f t713 bt731.1).bind fun t735 => (reckonerlaw02_NatRing.j1 kj12 t671 t674 t677 (t735 != 0))) else (reckonerlaw02_NatRing.j1 kj12 t671 t674 t677 true)) else (reckonerlaw02_NatRing.j1 kj12 t671 t674 t677 true)) else (reckonerlaw02_NatRing.j1 kj12 t671 t674 t677 true)) else (reckonerlaw02_NatRing.j1 kj12 t671 t674 t677 true)) else (reckonerlaw02_NatRing.j1 kj12 t671 t674 t677 true)))) = some r := H
    have A45 := Aside0.mk A450
    clear A450
    replace H := Option.bind_eq_some_iff.mp H
    obtain ⟨⟨t721, t722⟩, A460, H⟩ := H
    replace H : ((nat_Sum.f (([t717, t721, (([1] : List Int))] : List (List Int)))).bind fun bt731 => (if t710 = 0 then (if t714 = 0 then (if t718 = 0 then (if t722 = 0 then (if bt731.2 = 0 then ((nat_Cmp.f t713 bt731.1).bind fun t735 => (reckonerlaw02_NatRing.j1 kj12 t671 t674 t677 (t735 != 0))) else (reckonerlaw02_NatRing.j1 kj12 t671 t674 t677 true)) else (reckonerlaw02_NatRing.j1 kj12 t671 t674 t677 true)) else (reckonerlaw02_NatRing.j1 kj12 t671 t674 t677 true)) else (reckonerlaw02_NatRing.j1 kj12 t671 t674 t677 true)) else (reckonerlaw02_NatRing.j1 kj12 t671 t674 t677 true))) = some r := H
    have A46 := Aside0.mk A460
    clear A460
    obtain ⟨y725, hy725⟩ : ∃ y_ : List Int, y_ = (([1] : List Int)) := ⟨_, rfl⟩
    replace H : ((nat_Sum.f (([t717, t721, y725] : List (List Int)))).bind fun bt731 => (if t710 = 0 then (if t714 = 0 then (if t718 = 0 then (if t722 = 0 then (if bt731.2 = 0 then ((nat_Cmp.f t713 bt731.1).bind fun t735 => (reckonerlaw02_NatRing.j1 kj12 t671 t674 t677 (t735 != 0))) else (reckonerlaw02_NatRing.j1 kj12 t671 t674 t677 true)) else (reckonerlaw02_NatRing.j1 kj12 t671 t674 t677 true)) else (reckonerlaw02_NatRing.j1 kj12 t671 t674 t677 true)) else (reckonerlaw02_NatRing.j1 kj12 t671 t674 t677 true)) else (reckonerlaw02_NatRing.j1 kj12 t671 t674 t677 true))) = some r := by first | (rw [hy725]; with_reducible exact H) | (have H2_ := (Option.bind_some _ _).symm.trans H; rw [hy725]; with_reducible exact H2_) | (have H2_ := (Option.bind_some _ _).symm.trans H; with_reducible exact H2_) | with_reducible exact H | (rw [hy725]; exact H) | exact H
    have Ny725 := Aside0.mk hy725
    clear hy725
    obtain ⟨y728, hy728⟩ : ∃ y_ : List (List Int), y_ = (([t717, t721, y725] : List (List Int))) := ⟨_, rfl⟩
    replace H : ((nat_Sum.f y728).bind fun bt731 => (if t710 = 0 then (if t714 = 0 then (if t718 = 0 then (if t722 = 0 then (if bt731.2 = 0 then ((nat_Cmp.f t713 bt731.1).bind fun t735 => (reckonerlaw02_NatRing.j1 kj12 t671 t674 t677 (t735 != 0))) else (reckonerlaw02_NatRing.j1 kj12 t671 t674 t677 true)) else (reckonerlaw02_NatRing.j1 kj12 t671 t674 t677 true)) else (reckonerlaw02_NatRing.j1 kj12 t671 t674 t677 true)) else (reckonerlaw02_NatRing.j1 kj12 t671 t674 t677 true)) else (reckonerlaw02_NatRing.j1 kj12 t671 t674 t677 true))) = some r := by first | (rw [hy728]; with_reducible exact H) | (have H2_ := (Option.bind_some _ _).symm.trans H; rw [hy728]; with_reducible exact H2_) | (have H2_ := (Option.bind_some _ _).symm.trans H; with_reducible exact H2_) | with_reducible exact H | (rw [hy728]; exact H) | exact H
    have Ny728 := Aside0.mk hy728
    clear hy728
    replace H := Option.bind_eq_some_iff.mp H
    obtain ⟨⟨t731, t732⟩, A470, H⟩ := H
    replace H : (if t710 = 0 then (if t714 = 0 then (if t718 = 0 then (if t722 = 0 then (if t732 = 0 then ((nat_Cmp.f t713 t731).bind fun t735 => (reckonerlaw02_NatRing.j1 kj12 t671 t674 t677 (t735 != 0))) else (reckonerlaw02_NatRing.j1 kj12 t671 t674 t677 true)) else (reckonerlaw02_NatRing.j1 kj12 t671 t674 t677 true)) else (reckonerlaw02_NatRing.j1 kj12 t671 t674 t677 true)) else (reckonerlaw02_NatRing.j1 kj12 t671 t674 t677 true)) else (reckonerlaw02_NatRing.j1 kj12 t671 t674 t677 true)) = some r := H
    have A47 := Aside0.mk A470
    clear A470
    have HC48 := Aside0.mk H
    clear H
    go_upto_region 15 with (first | ((with_reducible refine gate_dst (N := 118) rfl ?_); refine Kd.R_lit (Kd.int .u64) _ 33 ?hg (N := 118) ?hd (xs := ([1] : List Int)) (inner := [.int .u64 1]) (ok := fun _ => True) (okp := fun _ => True) ?hr ?hp (fun _ hk => hk) trivial (Below.refl _ _) (Nat.le_refl _) (by simp) ?_; (case hd => rfl); (case hg => rfl); (case hr => first | (go_simp; done) | (go_simp; rfl)); (case hp => exact (Reps.one (show Kd.M (Kd.int .u64) _ _ _ 1 [.int .u64 1] from rfl) (Reps.none _ _))); intro v707 w49 ho50 hb hg_ hnew_; clear hg_ hnew_; (first | rw [← Ny706.out] at ho50 | (simp only [Int.reduceToNat] at ho50; rw [← Ny706.out] at ho50)); have n0_ := Aside0.mk (Kd.R_elder' (by (with_reducible repeat (first | apply Kd.R_alloc | apply Kd.R_drewN | apply Kd.R_drew)); exact HO_7.out) (Kd.R_base ho50) hb); have n1_ := Aside0.mk (Kd.R_elder' (by (with_reducible repeat (first | apply Kd.R_alloc | apply Kd.R_drewN | apply Kd.R_drew)); exact HO_8.out) (Kd.R_base ho50) hb); have n2_ := Aside0.mk (Kd.R_elder' (by (with_reducible repeat (first | apply Kd.R_alloc | apply Kd.R_drewN | apply Kd.R_drew)); exact HO_9.out) (Kd.R_base ho50) hb); have n3_ := Aside0.mk (Kd.R_lower (Kd.R_new' (Kd.R_new' (Kd.R_new' ho50 (Kd.R_lt (by (with_reducible repeat (first | apply Kd.R_alloc | apply Kd.R_drewN | apply Kd.R_drew)); exact HO_7.out))) (Kd.R_lt (by (with_reducible repeat (first | apply Kd.R_alloc | apply Kd.R_drewN | apply Kd.R_drew)); exact HO_8.out))) (Kd.R_lt (by (with_reducible repeat (first | apply Kd.R_alloc | apply Kd.R_drewN | apply Kd.R_drew)); exact HO_9.out))) (below_size (by repeat (first | (with_reducible first | exact HB.out | apply below_alloc | apply pw_below_drewN | apply below_drew1) | exact HB.out)))); have n4_ := Aside0.mk (below_step (by repeat (first | (with_reducible first | exact HB.out | apply below_alloc | apply pw_below_drewN | apply below_drew1) | exact HB.out)) hb); clear HO_7; clear HO_8; clear HO_9; clear HB; have HO_7 := n0_; have HO_8 := n1_; have HO_9 := n2_; have HO708 := n3_; have HB := n4_; clear n0_ n1_ n2_ n3_ n4_; clear hb ho50; obtain ⟨Ao51, co51, eo51⟩ := Kd.R_slice HO708.out; subst eo51) | ((with_reducible refine gate_callee (f := 24) rfl ?_); refine goesL_ (some 119) rfl rfl Try.func24 (by kernel_rfl) rfl #[.slice Ao17 t671.length co17, .slice Ao51 y706.length co51] rfl (by (try simp only [List.map_toArray, List.map_cons, List.map_nil]); first | done | rfl | (simp only [List.length_drop, List.length_take]; rfl)) ?_; (with_reducible refine (nat_Add.calls _ _ t671 _ _ y706 t709 t710 _ ?side1 ?side2 ?side3 ?side4 A43.out).mono ?_); (case side1 => repeat (first | exact (Kd.R_reads' HO_7.out).2.2 | (with_reducible refine Kd.C_alloc ?_ _) | (with_reducible refine Kd.C_drewN ?_ _) | (with_reducible refine Kd.C_drew ?_))); (case side2 => exact (Kd.R_reads' HO_7.out).2.1); (case side3 => repeat (first | exact (Kd.R_reads' HO708.out).2.2 | (with_reducible refine Kd.C_alloc ?_ _) | (with_reducible refine Kd.C_drewN ?_ _) | (with_reducible refine Kd.C_drew ?_))); (case side4 => exact (Kd.R_reads' HO708.out).2.1); rintro e w52 ⟨v711, rfl, ho0, hb⟩; refine ⟨_, rfl, ?_⟩; have n0_ := Aside0.mk (Kd.R_elder' (by (with_reducible repeat (first | apply Kd.R_alloc | apply Kd.R_drewN | apply Kd.R_drew)); exact HO_7.out) (Kd.R_base ho0) hb); have n1_ := Aside0.mk (Kd.R_elder' (by (with_reducible repeat (first | apply Kd.R_alloc | apply Kd.R_drewN | apply Kd.R_drew)); exact HO_8.out) (Kd.R_base ho0) hb); have n2_ := Aside0.mk (Kd.R_elder' (by (with_reducible repeat (first | apply Kd.R_alloc | apply Kd.R_drewN | apply Kd.R_drew)); exact HO_9.out) (Kd.R_base ho0) hb); have n3_ := Aside0.mk (Kd.R_elder' (by (with_reducible repeat (first | apply Kd.R_alloc | apply Kd.R_drewN | apply Kd.R_drew)); exact HO708.out) (Kd.R_base ho0) hb); have n4_ := Aside0.mk (Kd.R_lower (Kd.R_new' (Kd.R_new' (Kd.R_new' (Kd.R_new' ho0 (Kd.R_lt (by (with_reducible repeat (first | apply Kd.R_alloc | apply Kd.R_drewN | apply Kd.R_drew)); exact HO_7.out))) (Kd.R_lt (by (with_reducible repeat (first | apply Kd.R_alloc | apply Kd.R_drewN | apply Kd.R_drew)); exact HO_8.out))) (Kd.R_lt (by (with_reducible repeat (first | apply Kd.R_alloc | apply Kd.R_drewN | apply Kd.R_drew)); exact HO_9.out))) (Kd.R_lt (by (with_reducible repeat (first | apply Kd.R_alloc | apply Kd.R_drewN | apply Kd.R_drew)); exact HO708.out))) (below_size (by repeat (first | (with_reducible first | exact HB.out | apply below_alloc | apply pw_below_drewN | apply below_drew1) | exact HB.out)))); have n5_ := Aside0.mk (below_step (by repeat (first | (with_reducible first | exact HB.out | apply below_alloc | apply pw_below_drewN | apply below_drew1) | exact HB.out)) hb); clear HO_7; clear HO_8; clear HO_9; clear HO708; clear HB; have HO_7 := n0_; have HO_8 := n1_; have HO_9 := n2_; have HO708 := n3_; have HO712 := n4_; have HB := n5_; clear n0_ n1_ n2_ n3_ n4_ n5_; (try clear hb); (try clear hb2); (try clear hk); (try clear hi); (try clear ho0); obtain ⟨Ao53, co53, eo53⟩ := Kd.R_slice HO712.out; subst eo53) | ((with_reducible refine gate_callee (f := 22) rfl ?_); refine goesL_ (some 124) rfl rfl Try.func22 (by kernel_rfl) rfl #[.slice Ao53 t709.length co53] rfl (by (try simp only [List.map_toArray, List.map_cons, List.map_nil]); first | done | rfl | (simp only [List.length_drop, List.length_take]; rfl)) ?_; (with_reducible refine (nat_Square.calls _ _ t709 t713 t714 _ ?side1 ?side2 A44.out).mono ?_); (case side1 => repeat (first | exact (Kd.R_reads' HO712.out).2.2 | (with_reducible refine Kd.C_alloc ?_ _) | (with_reducible refine Kd.C_drewN ?_ _) | (with_reducible refine Kd.C_drew ?_))); (case side2 => exact (Kd.R_reads' HO712.out).2.1); rintro e w54 ⟨v715, rfl, ho0, hb⟩; refine ⟨_, rfl, ?_⟩; have n0_ := Aside0.mk (Kd.R_elder' (by (with_reducible repeat (first | apply Kd.R_alloc | apply Kd.R_drewN | apply Kd.R_drew)); exact HO_7.out) (Kd.R_base ho0) hb); have n1_ := Aside0.mk (Kd.R_elder' (by (with_reducible repeat (first | apply Kd.R_alloc | apply Kd.R_drewN | apply Kd.R_drew)); exact HO_8.out) (Kd.R_base ho0) hb); have n2_ := Aside0.mk (Kd.R_elder' (by (with_reducible repeat (first | apply Kd.R_alloc | apply Kd.R_drewN | apply Kd.R_drew)); exact HO_9.out) (Kd.R_base ho0) hb); have n3_ := Aside0.mk (Kd.R_elder' (by (with_reducible repeat (first | apply Kd.R_alloc | apply Kd.R_drewN | apply Kd.R_drew)); exact HO708.out) (Kd.R_base ho0) hb); have n4_ := Aside0.mk (Kd.R_elder' (by (with_reducible repeat (first | apply Kd.R_alloc | apply Kd.R_drewN | apply Kd.R_drew)); exact HO712.out) (Kd.R_base ho0) hb); have n5_ := Aside0.mk (Kd.R_lower (Kd.R_new' (Kd.R_new' (Kd.R_new' (Kd.R_new' (Kd.R_new' ho0 (Kd.R_lt (by (with_reducible repeat (first | apply Kd.R_alloc | apply Kd.R_drewN | apply Kd.R_drew)); exact HO_7.out))) (Kd.R_lt (by (with_reducible repeat (first | apply Kd.R_alloc | apply Kd.R_drewN | apply Kd.R_drew)); exact HO_8.out))) (Kd.R_lt (by (with_reducible repeat (first | apply Kd.R_alloc | apply Kd.R_drewN | apply Kd.R_drew)); exact HO_9.out))) (Kd.R_lt (by (with_reducible repeat (first | apply Kd.R_alloc | apply Kd.R_drewN | apply Kd.R_drew)); exact HO708.out))) (Kd.R_lt (by (with_reducible repeat (first | apply Kd.R_alloc | apply Kd.R_drewN | apply Kd.R_drew)); exact HO712.out))) (below_size (by repeat (first | (with_reducible first | exact HB.out | apply below_alloc | apply pw_below_drewN | apply below_drew1) | exact HB.out)))); have n6_ := Aside0.mk (below_step (by repeat (first | (with_reducible first | exact HB.out | apply below_alloc | apply pw_below_drewN | apply below_drew1) | exact HB.out)) hb); clear HO_7; clear HO_8; clear HO_9; clear HO708; clear HO712; clear HB; have HO_7 := n0_; have HO_8 := n1_; have HO_9 := n2_; have HO708 := n3_; have HO712 := n4_; have HO716 := n5_; have HB := n6_; clear n0_ n1_ n2_ n3_ n4_ n5_ n6_; (try clear hb); (try clear hb2); (try clear hk); (try clear hi); (try clear ho0)) | ((with_reducible refine gate_callee (f := 22) rfl ?_); refine goesL_ (some 129) rfl rfl Try.func22 (by kernel_rfl) rfl #[.slice Ao17 t671.length co17] rfl (by (try simp only [List.map_toArray, List.map_cons, List.map_nil]); first | done | rfl | (simp only [List.length_drop, List.length_take]; rfl)) ?_; (with_reducible refine (nat_Square.calls _ _ t671 t717 t718 _ ?side1 ?side2 A45.out).mono ?_); (case side1 => repeat (first | exact (Kd.R_reads' HO_7.out).2.2 | (with_reducible refine Kd.C_alloc ?_ _) | (with_reducible refine Kd.C_drewN ?_ _) | (with_reducible refine Kd.C_drew ?_))); (case side2 => exact (Kd.R_reads' HO_7.out).2.1); rintro e w55 ⟨v719, rfl, ho0, hb⟩; refine ⟨_, rfl, ?_⟩; have n0_ := Aside0.mk (Kd.R_elder' (by (with_reducible repeat (first | apply Kd.R_alloc | apply Kd.R_drewN | apply Kd.R_drew)); exact HO_7.out) (Kd.R_base ho0) hb); have n1_ := Aside0.mk (Kd.R_elder' (by (with_reducible repeat (first | apply Kd.R_alloc | apply Kd.R_drewN | apply Kd.R_drew)); exact HO_8.out) (Kd.R_base ho0) hb); have n2_ := Aside0.mk (Kd.R_elder' (by (with_reducible repeat (first | apply Kd.R_alloc | apply Kd.R_drewN | apply Kd.R_drew)); exact HO_9.out) (Kd.R_base ho0) hb); have n3_ := Aside0.mk (Kd.R_elder' (by (with_reducible repeat (first | apply Kd.R_alloc | apply Kd.R_drewN | apply Kd.R_drew)); exact HO708.out) (Kd.R_base ho0) hb); have n4_ := Aside0.mk (Kd.R_elder' (by (with_reducible repeat (first | apply Kd.R_alloc | apply Kd.R_drewN | apply Kd.R_drew)); exact HO712.out) (Kd.R_base ho0) hb); have n5_ := Aside0.mk (Kd.R_elder' (by (with_reducible repeat (first | apply Kd.R_alloc | apply Kd.R_drewN | apply Kd.R_drew)); exact HO716.out) (Kd.R_base ho0) hb); have n6_ := Aside0.mk (Kd.R_lower (Kd.R_new' (Kd.R_new' (Kd.R_new' (Kd.R_new' (Kd.R_new' (Kd.R_new' ho0 (Kd.R_lt (by (with_reducible repeat (first | apply Kd.R_alloc | apply Kd.R_drewN | apply Kd.R_drew)); exact HO_7.out))) (Kd.R_lt (by (with_reducible repeat (first | apply Kd.R_alloc | apply Kd.R_drewN | apply Kd.R_drew)); exact HO_8.out))) (Kd.R_lt (by (with_reducible repeat (first | apply Kd.R_alloc | apply Kd.R_drewN | apply Kd.R_drew)); exact HO_9.out))) (Kd.R_lt (by (with_reducible repeat (first | apply Kd.R_alloc | apply Kd.R_drewN | apply Kd.R_drew)); exact HO708.out))) (Kd.R_lt (by (with_reducible repeat (first | apply Kd.R_alloc | apply Kd.R_drewN | apply Kd.R_drew)); exact HO712.out))) (Kd.R_lt (by (with_reducible repeat (first | apply Kd.R_alloc | apply Kd.R_drewN | apply Kd.R_drew)); exact HO716.out))) (below_size (by repeat (first | (with_reducible first | exact HB.out | apply below_alloc | apply pw_below_drewN | apply below_drew1) | exact HB.out)))); have n7_ := Aside0.mk (below_step (by repeat (first | (with_reducible first | exact HB.out | apply below_alloc | apply pw_below_drewN | apply below_drew1) | exact HB.out)) hb); clear HO_7; clear HO_8; clear HO_9; clear HO708; clear HO712; clear HO716; clear HB; have HO_7 := n0_; have HO_8 := n1_; have HO_9 := n2_; have HO708 := n3_; have HO712 := n4_; have HO716 := n5_; have HO720 := n6_; have HB := n7_; clear n0_ n1_ n2_ n3_ n4_ n5_ n6_ n7_; (try clear hb); (try clear hb2); (try clear hk); (try clear hi); (try clear ho0)) | ((with_reducible refine gate_callee (f := 33) rfl ?_); refine goesL_ (some 134) rfl rfl Try.func33 (by kernel_rfl) rfl #[.slice Ao17 t671.length co17, .int .i64 1] rfl (by (try simp only [List.map_toArray, List.map_cons, List.map_nil]); first | done | rfl | (simp only [List.length_drop, List.length_take]; rfl)) ?_; (with_reducible refine (nat_Left.calls _ _ t671 1 t721 t722 _ ?side1 ?side2 A46.out).mono ?_); (case side1 => repeat (first | exact (Kd.R_reads' HO_7.out).2.2 | (with_reducible refine Kd.C_alloc ?_ _) | (with_reducible refine Kd.C_drewN ?_ _) | (with_reducible refine Kd.C_drew ?_))); (case side2 => exact (Kd.R_reads' HO_7.out).2.1); rintro e w56 ⟨v723, rfl, ho0, hb⟩; refine ⟨_, rfl, ?_⟩; have n0_ := Aside0.mk (Kd.R_elder' (by (with_reducible repeat (first | apply Kd.R_alloc | apply Kd.R_drewN | apply Kd.R_drew)); exact HO_7.out) (Kd.R_base ho0) hb); have n1_ := Aside0.mk (Kd.R_elder' (by (with_reducible repeat (first | apply Kd.R_alloc | apply Kd.R_drewN | apply Kd.R_drew)); exact HO_8.out) (Kd.R_base ho0) hb); have n2_ := Aside0.mk (Kd.R_elder' (by (with_reducible repeat (first | apply Kd.R_alloc | apply Kd.R_drewN | apply Kd.R_drew)); exact HO_9.out) (Kd.R_base ho0) hb); have n3_ := Aside0.mk (Kd.R_elder' (by (with_reducible repeat (first | apply Kd.R_alloc | apply Kd.R_drewN | apply Kd.R_drew)); exact HO708.out) (Kd.R_base ho0) hb); have n4_ := Aside0.mk (Kd.R_elder' (by (with_reducible repeat (first | apply Kd.R_alloc | apply Kd.R_drewN | apply Kd.R_drew)); exact HO712.out) (Kd.R_base ho0) hb); have n5_ := Aside0.mk (Kd.R_elder' (by (with_reducible repeat (first | apply Kd.R_alloc | apply Kd.R_drewN | apply Kd.R_drew)); exact HO716.out) (Kd.R_base ho0) hb); have n6_ := Aside0.mk (Kd.R_elder' (by (with_reducible repeat (first | apply Kd.R_alloc | apply Kd.R_drewN | apply Kd.R_drew)); exact HO720.out) (Kd.R_base ho0) hb); have n7_ := Aside0.mk (Kd.R_lower (Kd.R_new' (Kd.R_new' (Kd.R_new' (Kd.R_new' (Kd.R_new' (Kd.R_new' (Kd.R_new' ho0 (Kd.R_lt (by (with_reducible repeat (first | apply Kd.R_alloc | apply Kd.R_drewN | apply Kd.R_drew)); exact HO_7.out))) (Kd.R_lt (by (with_reducible repeat (first | apply Kd.R_alloc | apply Kd.R_drewN | apply Kd.R_drew)); exact HO_8.out))) (Kd.R_lt (by (with_reducible repeat (first | apply Kd.R_alloc | apply Kd.R_drewN | apply Kd.R_drew)); exact HO_9.out))) (Kd.R_lt (by (with_reducible repeat (first | apply Kd.R_alloc | apply Kd.R_drewN | apply Kd.R_drew)); exact HO708.out))) (Kd.R_lt (by (with_reducible repeat (first | apply Kd.R_alloc | apply Kd.R_drewN | apply Kd.R_drew)); exact HO712.out))) (Kd.R_lt (by (with_reducible repeat (first | apply Kd.R_alloc | apply Kd.R_drewN | apply Kd.R_drew)); exact HO716.out))) (Kd.R_lt (by (with_reducible repeat (first | apply Kd.R_alloc | apply Kd.R_drewN | apply Kd.R_drew)); exact HO720.out))) (below_size (by repeat (first | (with_reducible first | exact HB.out | apply below_alloc | apply pw_below_drewN | apply below_drew1) | exact HB.out)))); have n8_ := Aside0.mk (below_step (by repeat (first | (with_reducible first | exact HB.out | apply below_alloc | apply pw_below_drewN | apply below_drew1) | exact HB.out)) hb); clear HO_7; clear HO_8; clear HO_9; clear HO708; clear HO712; clear HO716; clear HO720; clear HB; have HO_7 := n0_; have HO_8 := n1_; have HO_9 := n2_; have HO708 := n3_; have HO712 := n4_; have HO716 := n5_; have HO720 := n6_; have HO724 := n7_; have HB := n8_; clear n0_ n1_ n2_ n3_ n4_ n5_ n6_ n7_ n8_; (try clear hb); (try clear hb2); (try clear hk); (try clear hi); (try clear ho0)) | ((with_reducible refine gate_dst (N := 140) rfl ?_); refine Kd.R_lit (Kd.int .u64) _ 33 ?hg (N := 140) ?hd (xs := ([1] : List Int)) (inner := [.int .u64 1]) (ok := fun _ => True) (okp := fun _ => True) ?hr ?hp (fun _ hk => hk) trivial (Below.refl _ _) (Nat.le_refl _) (by simp) ?_; (case hd => rfl); (case hg => rfl); (case hr => first | (go_simp; done) | (go_simp; rfl)); (case hp => exact (Reps.one (show Kd.M (Kd.int .u64) _ _ _ 1 [.int .u64 1] from rfl) (Reps.none _ _))); intro v726 w57 ho58 hb hg_ hnew_; clear hg_ hnew_; (first | rw [← Ny725.out] at ho58 | (simp only [Int.reduceToNat] at ho58; rw [← Ny725.out] at ho58)); have n0_ := Aside0.mk (Kd.R_elder' (by (with_reducible repeat (first | apply Kd.R_alloc | apply Kd.R_drewN | apply Kd.R_drew)); exact HO_7.out) (Kd.R_base ho58) hb); have n1_ := Aside0.mk (Kd.R_elder' (by (with_reducible repeat (first | apply Kd.R_alloc | apply Kd.R_drewN | apply Kd.R_drew)); exact HO_8.out) (Kd.R_base ho58) hb); have n2_ := Aside0.mk (Kd.R_elder' (by (with_reducible repeat (first | apply Kd.R_alloc | apply Kd.R_drewN | apply Kd.R_drew)); exact HO_9.out) (Kd.R_base ho58) hb); have n3_ := Aside0.mk (Kd.R_elder' (by (with_reducible repeat (first | apply Kd.R_alloc | apply Kd.R_drewN | apply Kd.R_drew)); exact HO708.out) (Kd.R_base ho58) hb); have n4_ := Aside0.mk (Kd.R_elder' (by (with_reducible repeat (first | apply Kd.R_alloc | apply Kd.R_drewN | apply Kd.R_drew)); exact HO712.out) (Kd.R_base ho58) hb); have n5_ := Aside0.mk (Kd.R_elder' (by (with_reducible repeat (first | apply Kd.R_alloc | apply Kd.R_drewN | apply Kd.R_drew)); exact HO716.out) (Kd.R_base ho58) hb); have n6_ := Aside0.mk (Kd.R_elder' (by (with_reducible repeat (first | apply Kd.R_alloc | apply Kd.R_drewN | apply Kd.R_drew)); exact HO720.out) (Kd.R_base ho58) hb); have n7_ := Aside0.mk (Kd.R_elder' (by (with_reducible repeat (first | apply Kd.R_alloc | apply Kd.R_drewN | apply Kd.R_drew)); exact HO724.out) (Kd.R_base ho58) hb); have n8_ := Aside0.mk (Kd.R_lower (Kd.R_new' (Kd.R_new' (Kd.R_new' (Kd.R_new' (Kd.R_new' (Kd.R_new' (Kd.R_new' (Kd.R_new' ho58 (Kd.R_lt (by (with_reducible repeat (first | apply Kd.R_alloc | apply Kd.R_drewN | apply Kd.R_drew)); exact HO_7.out))) (Kd.R_lt (by (with_reducible repeat (first | apply Kd.R_alloc | apply Kd.R_drewN | apply Kd.R_drew)); exact HO_8.out))) (Kd.R_lt (by (with_reducible repeat (first | apply Kd.R_alloc | apply Kd.R_drewN | apply Kd.R_drew)); exact HO_9.out))) (Kd.R_lt (by (with_reducible repeat (first | apply Kd.R_alloc | apply Kd.R_drewN | apply Kd.R_drew)); exact HO708.out))) (Kd.R_lt (by (with_reducible repeat (first | apply Kd.R_alloc | apply Kd.R_drewN | apply Kd.R_drew)); exact HO712.out))) (Kd.R_lt (by (with_reducible repeat (first | apply Kd.R_alloc | apply Kd.R_drewN | apply Kd.R_drew)); exact HO716.out))) (Kd.R_lt (by (with_reducible repeat (first | apply Kd.R_alloc | apply Kd.R_drewN | apply Kd.R_drew)); exact HO720.out))) (Kd.R_lt (by (with_reducible repeat (first | apply Kd.R_alloc | apply Kd.R_drewN | apply Kd.R_drew)); exact HO724.out))) (below_size (by repeat (first | (with_reducible first | exact HB.out | apply below_alloc | apply pw_below_drewN | apply below_drew1) | exact HB.out)))); have n9_ := Aside0.mk (below_step (by repeat (first | (with_reducible first | exact HB.out | apply below_alloc | apply pw_below_drewN | apply below_drew1) | exact HB.out)) hb); clear HO_7; clear HO_8; clear HO_9; clear HO708; clear HO712; clear HO716; clear HO720; clear HO724; clear HB; have HO_7 := n0_; have HO_8 := n1_; have HO_9 := n2_; have HO708 := n3_; have HO712 := n4_; have HO716 := n5_; have HO720 := n6_; have HO724 := n7_; have HO727 := n8_; have HB := n9_; clear n0_ n1_ n2_ n3_ n4_ n5_ n6_ n7_ n8_ n9_; clear hb ho58; obtain ⟨Ao59, co59, eo59⟩ := Kd.R_slice HO720.out; subst eo59; obtain ⟨Ao60, co60, eo60⟩ := Kd.R_slice HO724.out; subst eo60; obtain ⟨Ao61, co61, eo61⟩ := Kd.R_slice HO727.out; subst eo61) | ((with_reducible refine gate_dst (N := 141) rfl ?_); refine Kd.N_lit (Kd.slice 33 (Kd.int .u64)) _ 23 ?hg (N' := 141) ?hd (xs := ([t717, t721, y725] : List (List Int))) (inner := [.slice Ao59 t717.length co59, .slice Ao60 t721.length co60, .slice Ao61 y725.length co61]) (ok := (fun k_ => some k_ ≠ (.slice Ao17 t671.length co17 : Value).ownBlock ∧ some k_ ≠ (.slice Ao18 t674.length co18 : Value).ownBlock ∧ some k_ ≠ (.slice Ao22 t677.length co22 : Value).ownBlock ∧ some k_ ≠ (.slice Ao51 y706.length co51 : Value).ownBlock ∧ some k_ ≠ (.slice Ao53 t709.length co53 : Value).ownBlock ∧ some k_ ≠ (v715 : Value).ownBlock)) (okp := (fun k_ => some k_ ≠ (.slice Ao17 t671.length co17 : Value).ownBlock ∧ some k_ ≠ (.slice Ao18 t674.length co18 : Value).ownBlock ∧ some k_ ≠ (.slice Ao22 t677.length co22 : Value).ownBlock ∧ some k_ ≠ (.slice Ao51 y706.length co51 : Value).ownBlock ∧ some k_ ≠ (.slice Ao53 t709.length co53 : Value).ownBlock ∧ some k_ ≠ (v715 : Value).ownBlock)) ?hr ?hp (fun _ hk => hk) ((show ∀ k_, w57.heap.size ≤ k_ → (fun k_ => some k_ ≠ (.slice Ao17 t671.length co17 : Value).ownBlock ∧ some k_ ≠ (.slice Ao18 t674.length co18 : Value).ownBlock ∧ some k_ ≠ (.slice Ao22 t677.length co22 : Value).ownBlock ∧ some k_ ≠ (.slice Ao51 y706.length co51 : Value).ownBlock ∧ some k_ ≠ (.slice Ao53 t709.length co53 : Value).ownBlock ∧ some k_ ≠ (v715 : Value).ownBlock) k_ from fun k_ hk => ⟨Kd.fresh' (Kd.R_lt (by (with_reducible repeat (first | apply Kd.R_alloc | apply Kd.R_drewN | apply Kd.R_drew)); exact HO_7.out)) k_ hk, Kd.fresh' (Kd.R_lt (by (with_reducible repeat (first | apply Kd.R_alloc | apply Kd.R_drewN | apply Kd.R_drew)); exact HO_8.out)) k_ hk, Kd.fresh' (Kd.R_lt (by (with_reducible repeat (first | apply Kd.R_alloc | apply Kd.R_drewN | apply Kd.R_drew)); exact HO_9.out)) k_ hk, Kd.fresh' (Kd.R_lt (by (with_reducible repeat (first | apply Kd.R_alloc | apply Kd.R_drewN | apply Kd.R_drew)); exact HO708.out)) k_ hk, Kd.fresh' (Kd.R_lt (by (with_reducible repeat (first | apply Kd.R_alloc | apply Kd.R_drewN | apply Kd.R_drew)); exact HO712.out)) k_ hk, Kd.fresh' (Kd.R_lt (by (with_reducible repeat (first | apply Kd.R_alloc | apply Kd.R_drewN | apply Kd.R_drew)); exact HO716.out)) k_ hk⟩) _ (Nat.le_refl _)) (Below.refl _ _) (Nat.le_refl _) (by simp) ?_; (case hd => rfl); (case hg => rfl); (case hr => first | (go_simp; done) | (go_simp; rfl)); (case hp => exact (Reps.one (show Kd.FK (Kd.slice 33 (Kd.int .u64)) _ _ t717 [.slice Ao59 t717.length co59] from (Kd.FK_slice_mk (Kd.R_reads' (Kd.R_mono (ok' := (fun k_ => some k_ ≠ (.slice Ao17 t671.length co17 : Value).ownBlock ∧ some k_ ≠ (.slice Ao18 t674.length co18 : Value).ownBlock ∧ some k_ ≠ (.slice Ao22 t677.length co22 : Value).ownBlock ∧ some k_ ≠ (.slice Ao51 y706.length co51 : Value).ownBlock ∧ some k_ ≠ (.slice Ao53 t709.length co53 : Value).ownBlock ∧ some k_ ≠ (v715 : Value).ownBlock)) (HO720.out) (fun k_ hk => ⟨hk.1.1.1.1.1.1.1.2, ⟨hk.1.1.1.1.1.1.2, ⟨hk.1.1.1.1.1.2, ⟨hk.1.1.1.1.2, ⟨hk.1.1.1.2, hk.1.1.2⟩⟩⟩⟩⟩))).2.1 (Kd.R_F (Kd.R_mono (ok' := (fun k_ => some k_ ≠ (.slice Ao17 t671.length co17 : Value).ownBlock ∧ some k_ ≠ (.slice Ao18 t674.length co18 : Value).ownBlock ∧ some k_ ≠ (.slice Ao22 t677.length co22 : Value).ownBlock ∧ some k_ ≠ (.slice Ao51 y706.length co51 : Value).ownBlock ∧ some k_ ≠ (.slice Ao53 t709.length co53 : Value).ownBlock ∧ some k_ ≠ (v715 : Value).ownBlock)) (HO720.out) (fun k_ hk => ⟨hk.1.1.1.1.1.1.1.2, ⟨hk.1.1.1.1.1.1.2, ⟨hk.1.1.1.1.1.2, ⟨hk.1.1.1.1.2, ⟨hk.1.1.1.2, hk.1.1.2⟩⟩⟩⟩⟩))))) (Reps.one (show Kd.FK (Kd.slice 33 (Kd.int .u64)) _ _ t721 [.slice Ao60 t721.length co60] from (Kd.FK_slice_mk (Kd.R_reads' (Kd.R_mono (ok' := (fun k_ => some k_ ≠ (.slice Ao17 t671.length co17 : Value).ownBlock ∧ some k_ ≠ (.slice Ao18 t674.length co18 : Value).ownBlock ∧ some k_ ≠ (.slice Ao22 t677.length co22 : Value).ownBlock ∧ some k_ ≠ (.slice Ao51 y706.length co51 : Value).ownBlock ∧ some k_ ≠ (.slice Ao53 t709.length co53 : Value).ownBlock ∧ some k_ ≠ (v715 : Value).ownBlock)) (HO724.out) (fun k_ hk => ⟨hk.1.1.1.1.1.1.1.2, ⟨hk.1.1.1.1.1.1.2, ⟨hk.1.1.1.1.1.2, ⟨hk.1.1.1.1.2, ⟨hk.1.1.1.2, hk.1.1.2⟩⟩⟩⟩⟩))).2.1 (Kd.R_F (Kd.R_mono (ok' := (fun k_ => some k_ ≠ (.slice Ao17 t671.length co17 : Value).ownBlock ∧ some k_ ≠ (.slice Ao18 t674.length co18 : Value).ownBlock ∧ some k_ ≠ (.slice Ao22 t677.length co22 : Value).ownBlock ∧ some k_ ≠ (.slice Ao51 y706.length co51 : Value).ownBlock ∧ some k_ ≠ (.slice Ao53 t709.length co53 : Value).ownBlock ∧ some k_ ≠ (v715 : Value).ownBlock)) (HO724.out) (fun k_ hk => ⟨hk.1.1.1.1.1.1.1.2, ⟨hk.1.1.1.1.1.1.2, ⟨hk.1.1.1.1.1.2, ⟨hk.1.1.1.1.2, ⟨hk.1.1.1.2, hk.1.1.2⟩⟩⟩⟩⟩))))) (Reps.one (show Kd.FK (Kd.slice 33 (Kd.int .u64)) _ _ y725 [.slice Ao61 y725.length co61] from (Kd.FK_slice_mk (Kd.R_reads' (Kd.R_mono (ok' := (fun k_ => some k_ ≠ (.slice Ao17 t671.length co17 : Value).ownBlock ∧ some k_ ≠ (.slice Ao18 t674.length co18 : Value).ownBlock ∧ some k_ ≠ (.slice Ao22 t677.length co22 : Value).ownBlock ∧ some k_ ≠ (.slice Ao51 y706.length co51 : Value).ownBlock ∧ some k_ ≠ (.slice Ao53 t709.length co53 : Value).ownBlock ∧ some k_ ≠ (v715 : Value).ownBlock)) (HO727.out) (fun k_ hk => ⟨hk.1.1.1.1.1.1.1.2, ⟨hk.1.1.1.1.1.1.2, ⟨hk.1.1.1.1.1.2, ⟨hk.1.1.1.1.2, ⟨hk.1.1.1.2, hk.1.1.2⟩⟩⟩⟩⟩))).2.1 (Kd.R_F (Kd.R_mono (ok' := (fun k_ => some k_ ≠ (.slice Ao17 t671.length co17 : Value).ownBlock ∧ some k_ ≠ (.slice Ao18 t674.length co18 : Value).ownBlock ∧ some k_ ≠ (.slice Ao22 t677.length co22 : Value).ownBlock ∧ some k_ ≠ (.slice Ao51 y706.length co51 : Value).ownBlock ∧ some k_ ≠ (.slice Ao53 t709.length co53 : Value).ownBlock ∧ some k_ ≠ (v715 : Value).ownBlock)) (HO727.out) (fun k_ hk => ⟨hk.1.1.1.1.1.1.1.2, ⟨hk.1.1.1.1.1.1.2, ⟨hk.1.1.1.1.1.2, ⟨hk.1.1.1.1.2, ⟨hk.1.1.1.2, hk.1.1.2⟩⟩⟩⟩⟩))))) (Reps.none _ _))))); intro v729 w62 ho63 hb hg_ hnew_; clear hg_ hnew_; (first | rw [← Ny728.out] at ho63 | (simp only [Int.reduceToNat] at ho63; rw [← Ny728.out] at ho63)); have n0_ := Aside0.mk (Kd.R_below (by (with_reducible repeat (first | apply Kd.R_alloc | apply Kd.R_drewN | apply Kd.R_drew)); exact HO_7.out) hb); have n1_ := Aside0.mk (Kd.R_below (by (with_reducible repeat (first | apply Kd.R_alloc | apply Kd.R_drewN | apply Kd.R_drew)); exact HO_8.out) hb); have n2_ := Aside0.mk (Kd.R_below (by (with_reducible repeat (first | apply Kd.R_alloc | apply Kd.R_drewN | apply Kd.R_drew)); exact HO_9.out) hb); have n3_ := Aside0.mk (Kd.R_below (by (with_reducible repeat (first | apply Kd.R_alloc | apply Kd.R_drewN | apply Kd.R_drew)); exact HO708.out) hb); have n4_ := Aside0.mk (Kd.R_below (by (with_reducible repeat (first | apply Kd.R_alloc | apply Kd.R_drewN | apply Kd.R_drew)); exact HO712.out) hb); have n5_ := Aside0.mk (Kd.R_below (by (with_reducible repeat (first | apply Kd.R_alloc | apply Kd.R_drewN | apply Kd.R_drew)); exact HO716.out) hb); have n6_ := Aside0.mk (Kd.N_lower ho63 (below_size (by repeat (first | (with_reducible first | exact HB.out | apply below_alloc | apply pw_below_drewN | apply below_drew1) | exact HB.out)))); have n7_ := Aside0.mk (below_step (by repeat (first | (with_reducible first | exact HB.out | apply below_alloc | apply pw_below_drewN | apply below_drew1) | exact HB.out)) hb); clear HO_7; clear HO_8; clear HO_9; clear HO708; clear HO712; clear HO716; clear HB; clear HO720; clear HO724; clear HO727; have HO_7 := n0_; have HO_8 := n1_; have HO_9 := n2_; have HO708 := n3_; have HO712 := n4_; have HO716 := n5_; have HO730 := n6_; have HB := n7_; clear n0_ n1_ n2_ n3_ n4_ n5_ n6_ n7_; clear hb ho63; obtain ⟨Ao64, co64, eo64⟩ := Kd.N_slice HO730.out; subst eo64) | ((with_reducible refine gate_callee (f := 29) rfl ?_); refine goesL_ (some 142) rfl rfl Try.func29 (by kernel_rfl) rfl #[.slice Ao64 y728.length co64] rfl (by (try simp only [List.map_toArray, List.map_cons, List.map_nil]); first | done | rfl | (simp only [List.length_drop, List.length_take]; rfl)) ?_; (with_reducible refine (nat_Sum.calls _ _ y728 t731 t732 _ ?side1 ?side2 A47.out).mono ?_); (case side1 => repeat (first | exact (Kd.N_reads' HO730.out).2.2 | (with_reducible refine Kd.C_alloc ?_ _) | (with_reducible refine Kd.C_drewN ?_ _) | (with_reducible refine Kd.C_drew ?_))); (case side2 => exact (Kd.N_reads' HO730.out).2.1); rintro e w65 ⟨v733, rfl, ho0, hb⟩; refine ⟨_, rfl, ?_⟩; have n0_ := Aside0.mk (Kd.R_elder' (by (with_reducible repeat (first | apply Kd.R_alloc | apply Kd.R_drewN | apply Kd.R_drew)); exact HO_7.out) (Kd.R_base ho0) hb); have n1_ := Aside0.mk (Kd.R_elder' (by (with_reducible repeat (first | apply Kd.R_alloc | apply Kd.R_drewN | apply Kd.R_drew)); exact HO_8.out) (Kd.R_base ho0) hb); have n2_ := Aside0.mk (Kd.R_elder' (by (with_reducible repeat (first | apply Kd.R_alloc | apply Kd.R_drewN | apply Kd.R_drew)); exact HO_9.out) (Kd.R_base ho0) hb); have n3_ := Aside0.mk (Kd.R_elder' (by (with_reducible repeat (first | apply Kd.R_alloc | apply Kd.R_drewN | apply Kd.R_drew)); exact HO708.out) (Kd.R_base ho0) hb); have n4_ := Aside0.mk (Kd.R_elder' (by (with_reducible repeat (first | apply Kd.R_alloc | apply Kd.R_drewN | apply Kd.R_drew)); exact HO712.out) (Kd.R_base ho0) hb); have n5_ := Aside0.mk (Kd.R_elder' (by (with_reducible repeat (first | apply Kd.R_alloc | apply Kd.R_drewN | apply Kd.R_drew)); exact HO716.out) (Kd.R_base ho0) hb); have n6_ := Aside0.mk (Kd.N_elder' (by (with_reducible repeat (first | apply Kd.N_alloc | apply Kd.N_drewN | apply Kd.N_drew)); exact HO730.out) (Kd.R_base ho0) hb); have n7_ := Aside0.mk (Kd.R_lower (Kd.R_new' (Kd.R_new' (Kd.R_new' (Kd.R_new' (Kd.R_new' (Kd.R_new' ho0 (Kd.R_lt (by (with_reducible repeat (first | apply Kd.R_alloc | apply Kd.R_drewN | apply Kd.R_drew)); exact HO_7.out))) (Kd.R_lt (by (with_reducible repeat (first | apply Kd.R_alloc | apply Kd.R_drewN | apply Kd.R_drew)); exact HO_8.out))) (Kd.R_lt (by (with_reducible repeat (first | apply Kd.R_alloc | apply Kd.R_drewN | apply Kd.R_drew)); exact HO_9.out))) (Kd.R_lt (by (with_reducible repeat (first | apply Kd.R_alloc | apply Kd.R_drewN | apply Kd.R_drew)); exact HO708.out))) (Kd.R_lt (by (with_reducible repeat (first | apply Kd.R_alloc | apply Kd.R_drewN | apply Kd.R_drew)); exact HO712.out))) (Kd.R_lt (by (with_reducible repeat (first | apply Kd.R_alloc | apply Kd.R_drewN | apply Kd.R_drew)); exact HO716.out))) (below_size (by repeat (first | (with_reducible first | exact HB.out | apply below_alloc | apply pw_below_drewN | apply below_drew1) | exact HB.out)))); have n8_ := Aside0.mk (below_step (by repeat (first | (with_reducible first | exact HB.out | apply below_alloc | apply pw_below_drewN | apply below_drew1) | exact HB.out)) hb); clear HO_7; clear HO_8; clear HO_9; clear HO708; clear HO712; clear HO716; clear HO730; clear HB; have HO_7 := n0_; have HO_8 := n1_; have HO_9 := n2_; have HO708 := n3_; have HO712 := n4_; have HO716 := n5_; have HO730 := n6_; have HO734 := n7_; have HB := n8_; clear n0_ n1_ n2_ n3_ n4_ n5_ n6_ n7_ n8_; (try clear hb); (try clear hb2); (try clear hk); (try clear hi); (try clear ho0)))
    (try simp only [Act.put, List.setIfInBounds_toArray, List.set_cons_zero, List.set_cons_succ])
    go_cut [168] (fun v168 wc => ∃ (kq : Nat) (x168_47 : Bool), v168 = .bool x168_47 ∧ Aside0 (reckonerlaw02_NatRing.j1 kq t671 t674 t677 x168_47 = some r) ∧ Aside0 (kq ≤ kj12) ∧ Aside0 (Kd.R (Kd.int .u64) 33 wc w.heap.size (fun k_ => some k_ ≠ ((.slice Ao18 t674.length co18) : Value).ownBlock ∧ some k_ ≠ ((.slice Ao22 t677.length co22) : Value).ownBlock) (.slice Ao17 t671.length co17) t671) ∧ Aside0 (Kd.R (Kd.int .u64) 33 wc w.heap.size (fun k_ => some k_ ≠ ((.slice Ao17 t671.length co17) : Value).ownBlock ∧ some k_ ≠ ((.slice Ao22 t677.length co22) : Value).ownBlock) (.slice Ao18 t674.length co18) t674) ∧ Aside0 (Kd.R (Kd.int .u64) 33 wc w.heap.size (fun k_ => some k_ ≠ ((.slice Ao17 t671.length co17) : Value).ownBlock ∧ some k_ ≠ ((.slice Ao18 t674.length co18) : Value).ownBlock) (.slice Ao22 t677.length co22) t677) ∧ Aside0 (Below w.heap.size w wc))
    case first => as_aux_lemma =>
     have H := HC48.out
     clear HC48
     by_cases c66 : t710 = 0
     ·rw [if_pos c66] at H
      have c66b0 : (t710 == 0) = true := beq_iff_eq.mpr c66
      have c66b1 : (t710 != 0) = false := bne_eq_false_iff_eq.mpr c66
      clear c66
      (first | rw [c66b0] | (simp only [i64_w, i32_w]; rw [c66b0]) | skip)
      by_cases c67 : t714 = 0
      ·rw [if_pos c67] at H
       have c67b0 : (t714 == 0) = true := beq_iff_eq.mpr c67
       have c67b1 : (t714 != 0) = false := bne_eq_false_iff_eq.mpr c67
       clear c67
       by_cases c68 : t718 = 0
       ·rw [if_pos c68] at H
        have c68b0 : (t718 == 0) = true := beq_iff_eq.mpr c68
        have c68b1 : (t718 != 0) = false := bne_eq_false_iff_eq.mpr c68
        clear c68
        by_cases c69 : t722 = 0
        ·rw [if_pos c69] at H
         have c69b0 : (t722 == 0) = true := beq_iff_eq.mpr c69
         have c69b1 : (t722 != 0) = false := bne_eq_false_iff_eq.mpr c69
         clear c69
         by_cases c70 : t732 = 0
         ·rw [if_pos c70] at H
          have c70b0 : (t732 == 0) = true := beq_iff_eq.mpr c70
          have c70b1 : (t732 != 0) = false := bne_eq_false_iff_eq.mpr c70
          clear c70
          replace H := Option.bind_eq_some_iff.mp H
          obtain ⟨t735, A710, H⟩ := H
          replace H : (reckonerlaw02_NatRing.j1 kj12 t671 t674 t677 (t735 != 0)) = some r := H
          have A71 := Aside0.mk A710
          clear A710
          have H' := Aside0.mk H
          clear H
          obtain ⟨Ao72, co72, eo72⟩ := Kd.R_slice HO716.out
          subst eo72
          obtain ⟨Ao73, co73, eo73⟩ := Kd.R_slice HO734.out
          subst eo73
          go_wp2_with (first | (go_at_call 39; (with_reducible refine (nat_Cmp.calls _ _ t713 _ _ t731 t735 _ ?side1 ?side2 ?side3 ?side4 A71.out).mono ?_); (case side1 => repeat (first | exact (Kd.R_reads' HO716.out).2.2 | (with_reducible refine Kd.C_alloc ?_ _) | (with_reducible refine Kd.C_drewN ?_ _) | (with_reducible refine Kd.C_drew ?_))); (case side2 => exact (Kd.R_reads' HO716.out).2.1); (case side3 => repeat (first | exact (Kd.R_reads' HO734.out).2.2 | (with_reducible refine Kd.C_alloc ?_ _) | (with_reducible refine Kd.C_drewN ?_ _) | (with_reducible refine Kd.C_drew ?_))); (case side4 => exact (Kd.R_reads' HO734.out).2.1); rintro e w' ⟨rfl, ⟨nd, rfl⟩⟩))
          go_meet
          case rel => exact ⟨_, ((t735 != 0)), (by first | rfl | (simp; done) | (simp [*]; done)), H', ⟨by have := HJ12.out; first | omega | exact Nat.le_refl _⟩, ⟨by (with_reducible repeat (first | apply Kd.R_alloc | apply Kd.R_drewN | apply Kd.R_drew)); exact Kd.R_mono HO_7.out (fun _ hk => ⟨hk.1.1.1.1.1.1.1.1, hk.1.1.1.1.1.1.1.2⟩)⟩, ⟨by (with_reducible repeat (first | apply Kd.R_alloc | apply Kd.R_drewN | apply Kd.R_drew)); exact Kd.R_mono HO_8.out (fun _ hk => ⟨hk.1.1.1.1.1.1.1.1, hk.1.1.1.1.1.1.1.2⟩)⟩, ⟨by (with_reducible repeat (first | apply Kd.R_alloc | apply Kd.R_drewN | apply Kd.R_drew)); exact Kd.R_mono HO_9.out (fun _ hk => ⟨hk.1.1.1.1.1.1.1.1, hk.1.1.1.1.1.1.1.2⟩)⟩, ⟨by repeat (first | (with_reducible first | exact HB.out | apply below_alloc | apply pw_below_drewN | apply below_drew1) | exact HB.out)⟩⟩
         ·rw [if_neg c70] at H
          have c70b0 : (t732 == 0) = false := beq_eq_false_iff_ne.mpr c70
          have c70b1 : (t732 != 0) = true := bne_iff_ne.mpr c70
          have H' := Aside0.mk H
          clear H
          go_wp2
          go_meet
          case rel => exact ⟨_, (true), (by first | rfl | (simp; done) | (simp [*]; done)), H', ⟨by have := HJ12.out; first | omega | exact Nat.le_refl _⟩, ⟨by (with_reducible repeat (first | apply Kd.R_alloc | apply Kd.R_drewN | apply Kd.R_drew)); exact Kd.R_mono HO_7.out (fun _ hk => ⟨hk.1.1.1.1.1.1.1.1, hk.1.1.1.1.1.1.1.2⟩)⟩, ⟨by (with_reducible repeat (first | apply Kd.R_alloc | apply Kd.R_drewN | apply Kd.R_drew)); exact Kd.R_mono HO_8.out (fun _ hk => ⟨hk.1.1.1.1.1.1.1.1, hk.1.1.1.1.1.1.1.2⟩)⟩, ⟨by (with_reducible repeat (first | apply Kd.R_alloc | apply Kd.R_drewN | apply Kd.R_drew)); exact Kd.R_mono HO_9.out (fun _ hk => ⟨hk.1.1.1.1.1.1.1.1, hk.1.1.1.1.1.1.1.2⟩)⟩, ⟨by repeat (first | (with_reducible first | exact HB.out | apply below_alloc | apply pw_below_drewN | apply below_drew1) | exact HB.out)⟩⟩
        ·rw [if_neg c69] at H
         have c69b0 : (t722 == 0) = false := beq_eq_false_iff_ne.mpr c69
         have c69b1 : (t722 != 0) = true := bne_iff_ne.mpr c69
         have H' := Aside0.mk H
         clear H
         go_wp2
         go_meet
         case rel => exact ⟨_, (true), (by first | rfl | (simp; done) | (simp [*]; done)), H', ⟨by have := HJ12.out; first | omega | exact Nat.le_refl _⟩, ⟨by (with_reducible repeat (first | apply Kd.R_alloc | apply Kd.R_drewN | apply Kd.R_drew)); exact Kd.R_mono HO_7.out (fun _ hk => ⟨hk.1.1.1.1.1.1.1.1, hk.1.1.1.1.1.1.1.2⟩)⟩, ⟨by (with_reducible repeat (first | apply Kd.R_alloc | apply Kd.R_drewN | apply Kd.R_drew)); exact Kd.R_mono HO_8.out (fun _ hk => ⟨hk.1.1.1.1.1.1.1.1, hk.1.1.1.1.1.1.1.2⟩)⟩, ⟨by (with_reducible repeat (first | apply Kd.R_alloc | apply Kd.R_drewN | apply Kd.R_drew)); exact Kd.R_mono HO_9.out (fun _ hk => ⟨hk.1.1.1.1.1.1.1.1, hk.1.1.1.1.1.1.1.2⟩)⟩, ⟨by repeat (first | (with_reducible first | exact HB.out | apply below_alloc | apply pw_below_drewN | apply below_drew1) | exact HB.out)⟩⟩
       ·rw [if_neg c68] at H
        have c68b0 : (t718 == 0) = false := beq_eq_false_iff_ne.mpr c68
        have c68b1 : (t718 != 0) = true := bne_iff_ne.mpr c68
        have H' := Aside0.mk H
        clear H
        go_wp2
        go_meet
        case rel => exact ⟨_, (true), (by first | rfl | (simp; done) | (simp [*]; done)), H', ⟨by have := HJ12.out; first | omega | exact Nat.le_refl _⟩, ⟨by (with_reducible repeat (first | apply Kd.R_alloc | apply Kd.R_drewN | apply Kd.R_drew)); exact Kd.R_mono HO_7.out (fun _ hk => ⟨hk.1.1.1.1.1.1.1.1, hk.1.1.1.1.1.1.1.2⟩)⟩, ⟨by (with_reducible repeat (first | apply Kd.R_alloc | apply Kd.R_drewN | apply Kd.R_drew)); exact Kd.R_mono HO_8.out (fun _ hk => ⟨hk.1.1.1.1.1.1.1.1, hk.1.1.1.1.1.1.1.2⟩)⟩, ⟨by (with_reducible repeat (first | apply Kd.R_alloc | apply Kd.R_drewN | apply Kd.R_drew)); exact Kd.R_mono HO_9.out (fun _ hk => ⟨hk.1.1.1.1.1.1.1.1, hk.1.1.1.1.1.1.1.2⟩)⟩, ⟨by repeat (first | (with_reducible first | exact HB.out | apply below_alloc | apply pw_below_drewN | apply below_drew1) | exact HB.out)⟩⟩
      ·rw [if_neg c67] at H
       have c67b0 : (t714 == 0) = false := beq_eq_false_iff_ne.mpr c67
       have c67b1 : (t714 != 0) = true := bne_iff_ne.mpr c67
       have H' := Aside0.mk H
       clear H
       go_wp2
       go_meet
       case rel => exact ⟨_, (true), (by first | rfl | (simp; done) | (simp [*]; done)), H', ⟨by have := HJ12.out; first | omega | exact Nat.le_refl _⟩, ⟨by (with_reducible repeat (first | apply Kd.R_alloc | apply Kd.R_drewN | apply Kd.R_drew)); exact Kd.R_mono HO_7.out (fun _ hk => ⟨hk.1.1.1.1.1.1.1.1, hk.1.1.1.1.1.1.1.2⟩)⟩, ⟨by (with_reducible repeat (first | apply Kd.R_alloc | apply Kd.R_drewN | apply Kd.R_drew)); exact Kd.R_mono HO_8.out (fun _ hk => ⟨hk.1.1.1.1.1.1.1.1, hk.1.1.1.1.1.1.1.2⟩)⟩, ⟨by (with_reducible repeat (first | apply Kd.R_alloc | apply Kd.R_drewN | apply Kd.R_drew)); exact Kd.R_mono HO_9.out (fun _ hk => ⟨hk.1.1.1.1.1.1.1.1, hk.1.1.1.1.1.1.1.2⟩)⟩, ⟨by repeat (first | (with_reducible first | exact HB.out | apply below_alloc | apply pw_below_drewN | apply below_drew1) | exact HB.out)⟩⟩
     ·rw [if_neg c66] at H
      have c66b0 : (t710 == 0) = false := beq_eq_false_iff_ne.mpr c66
      have c66b1 : (t710 != 0) = true := bne_iff_ne.mpr c66
      (first | rw [c66b0] | (simp only [i64_w, i32_w]; rw [c66b0]) | skip)
      have H' := Aside0.mk H
      clear H
      go_wp2
      go_meet
      case rel => exact ⟨_, (true), (by first | rfl | (simp; done) | (simp [*]; done)), H', ⟨by have := HJ12.out; first | omega | exact Nat.le_refl _⟩, ⟨by (with_reducible repeat (first | apply Kd.R_alloc | apply Kd.R_drewN | apply Kd.R_drew)); exact Kd.R_mono HO_7.out (fun _ hk => ⟨hk.1.1.1.1.1.1.1.1, hk.1.1.1.1.1.1.1.2⟩)⟩, ⟨by (with_reducible repeat (first | apply Kd.R_alloc | apply Kd.R_drewN | apply Kd.R_drew)); exact Kd.R_mono HO_8.out (fun _ hk => ⟨hk.1.1.1.1.1.1.1.1, hk.1.1.1.1.1.1.1.2⟩)⟩, ⟨by (with_reducible repeat (first | apply Kd.R_alloc | apply Kd.R_drewN | apply Kd.R_drew)); exact Kd.R_mono HO_9.out (fun _ hk => ⟨hk.1.1.1.1.1.1.1.1, hk.1.1.1.1.1.1.1.2⟩)⟩, ⟨by repeat (first | (with_reducible first | exact HB.out | apply below_alloc | apply pw_below_drewN | apply below_drew1) | exact HB.out)⟩⟩
    case rest => as_aux_lemma =>
     clear HC48
     try clear c1
     try clear c2
     try clear p2
     try clear c3
     try clear c4
     try clear c6
     try clear c7
     try clear c9
     try clear c10
     try clear c21
     try clear c22
     try clear c24
     try clear c29
     try clear c29b0
     try clear c29b1
     try clear c30
     try clear c30b0
     try clear c30b1
     try clear c31
     try clear c31b0
     try clear c31b1
     try clear c32
     try clear c32b0
     try clear c32b1
     try clear c33
     try clear c33b0
     try clear c33b1
     try clear c34
     try clear c34b0
     try clear c34b1
     try clear c36
     try clear c36b0
     try clear c36b1
     try clear c42
     try clear c66
     try clear c66b0
     try clear c66b1
     try clear c67
     try clear c67b0
     try clear c67b1
     try clear c68
     try clear c68b0
     try clear c68b1
     try clear c69
     try clear c69b0
     try clear c69b1
     try clear c70
     try clear c70b0
     try clear c70b1
     try clear p2
     obtain ⟨kq, x168_47, rfl, HA, HJ47, HO_7, HO_8, HO_9, HB⟩ := hcut
     cases kq with
     | zero => exact absurd HA.out (by simp [reckonerlaw02_NatRing.j1])
     | succ kj47 =>
      have H := HA.out
      clear HA
      simp only [reckonerlaw02_NatRing.j1] at H
      by_cases c74 : x168_47 = true
      ·subst c74
       have H1 : (none) = some r := by rw [if_pos rfl] at H; exact H
       clear H
       have H := H1
       clear H1
       exact absurd H (by simp)
      ·replace c74 := Bool.eq_false_iff.mpr c74
       subst c74
       have H1 : ((nat_Sum.f (([t674, t677, (([1] : List Int))] : List (List Int)))).bind fun bt742 => ((nat_Mul.f t671 bt742.1).bind fun bt746 => ((nat_Add.f bt746.1 t674).bind fun bt750 => ((nat_DivMod.f bt750.1 bt742.1).bind fun bt754 => (if bt742.2 = 0 then (if bt746.2 = 0 then (if bt750.2 = 0 then (if bt754.2.2 = 0 then ((nat_Cmp.f bt754.1 t671).bind fun t761 => (if t761 = 0 then ((nat_Cmp.f bt754.2.1 t674).bind fun t762 => (if t762 = 0 then ((reckonerlaw02_awake.f kj47).bind fun t763 => (some t763)) else (none))) else (none))) else (none)) else (none)) else (none)) else (none)))))) = some r := by rw [if_neg (show ¬ (false = true) by decide)] at H; exact H
       clear H
       have H := H1
       clear H1
       obtain ⟨y736, hy736⟩ : ∃ y_ : List Int, y_ = (([1] : List Int)) := ⟨_, rfl⟩
       replace H : ((nat_Sum.f (([t674, t677, y736] : List (List Int)))).bind fun bt742 => ((nat_Mul.f t671 bt742.1).bind fun bt746 => ((nat_Add.f bt746.1 t674).bind fun bt750 => ((nat_DivMod.f bt750.1 bt742.1).bind fun bt754 => (if bt742.2 = 0 then (if bt746.2 = 0 then (if bt750.2 = 0 then (if bt754.2.2 = 0 then ((nat_Cmp.f bt754.1 t671).bind fun t761 => (if t761 = 0 then ((nat_Cmp.f bt754.2.1 t674).bind fun t762 => (if t762 = 0 then ((reckonerlaw02_awake.f kj47).bind fun t763 => (some t763)) else (none))) else (none))) else (none)) else (none)) else (none)) else (none)))))) = some r := by first | (rw [hy736]; with_reducible exact H) | (have H2_ := (Option.bind_some _ _).symm.trans H; rw [hy736]; with_reducible exact H2_) | (have H2_ := (Option.bind_some _ _).symm.trans H; with_reducible exact H2_) | with_reducible exact H | (rw [hy736]; exact H) | exact H
       have Ny736 := Aside0.mk hy736
       clear hy736
       obtain ⟨y739, hy739⟩ : ∃ y_ : List (List Int), y_ = (([t674, t677, y736] : List (List Int))) := ⟨_, rfl⟩
       replace H : ((nat_Sum.f y739).bind fun bt742 => ((nat_Mul.f t671 bt742.1).bind fun bt746 => ((nat_Add.f bt746.1 t674).bind fun bt750 => ((nat_DivMod.f bt750.1 bt742.1).bind fun bt754 => (if bt742.2 = 0 then (if bt746.2 = 0 then (if bt750.2 = 0 then (if bt754.2.2 = 0 then ((nat_Cmp.f bt754.1 t671).bind fun t761 => (if t761 = 0 then ((nat_Cmp.f bt754.2.1 t674).bind fun t762 => (if t762 = 0 then ((reckonerlaw02_awake.f kj47).bind fun t763 => (some t763)) else (none))) else (none))) else (none)) else (none)) else (none)) else (none)))))) = some r := by first | (rw [hy739]; with_reducible exact H) | (have H2_ := (Option.bind_some _ _).symm.trans H; rw [hy739]; with_reducible exact H2_) | (have H2_ := (Option.bind_some _ _).symm.trans H; with_reducible exact H2_) | with_reducible exact H | (rw [hy739]; exact H) | exact H
       have Ny739 := Aside0.mk hy739
       clear hy739
       replace H := Option.bind_eq_some_iff.mp H
       obtain ⟨⟨t742, t743⟩, A750, H⟩ := H
       replace H : ((nat_Mul.f t671 t742).bind fun bt746 => ((nat_Add.f bt746.1 t674).bind fun bt750 => ((nat_DivMod.f bt750.1 t742).bind fun bt754 => (if t743 = 0 then (if bt746.2 = 0 then (if bt750.2 = 0 then (if bt754.2.2 = 0 then ((nat_Cmp.f bt754.1 t671).bind fun t761 => (if t761 = 0 then ((nat_Cmp.f bt754.2.1 t674).bind fun t762 => (if t762 = 0 then ((reckonerlaw02_awake.f kj47).bind fun t763 => (some t763)) else (none))) else (none))) else (none)) else (none)) else (none)) else (none))))) = some r := H
       have A75 := Aside0.mk A750
       clear A750
       replace H := Option.bind_eq_some_iff.mp H
       obtain ⟨⟨t746, t747⟩, A760, H⟩ := H
       replace H : ((nat_Add.f t746 t674).bind fun bt750 => ((nat_DivMod.f bt750.1 t742).bind fun bt754 => (if t743 = 0 then (if t747 = 0 then (if bt750.2 = 0 then (if bt754.2.2 = 0 then ((nat_Cmp.f bt754.1 t671).bind fun t761 => (if t761 = 0 then ((nat_Cmp.f bt754.2.1 t674).bind fun t762 => (if t762 = 0 then ((reckonerlaw02_awake.f kj47).bind fun t763 => (some t763)) else (none))) else (none))) else (none)) else (none)) else (none)) else (none)))) = some r := H
       have A76 := Aside0.mk A760
       clear A760
       replace H := Option.bind_eq_some_iff.mp H
       obtain ⟨⟨t750, t751⟩, A770, H⟩ := H
       replace H : ((nat_DivMod.f t750 t742).bind fun bt754 => (if t743 = 0 then (if t747 = 0 then (if t751 = 0 then (if bt754.2.2 = 0 then ((nat_Cmp.f bt754.1 t671).bind fun t761 => (if t761 = 0 then ((nat_Cmp.f bt754.2.1 t674).bind fun t762 => (if t762 = 0 then ((reckonerlaw02_awake.f kj47).bind fun t763 => (some t763)) else (none))) else (none))) else (none)) else (none)) else (none)) else (none))) = some r := H
       have A77 := Aside0.mk A770
       clear A770
       replace H := Option.bind_eq_some_iff.mp H
       obtain ⟨⟨t754, t755, t756⟩, A780, H⟩ := H
       replace H : (if t743 = 0 then (if t747 = 0 then (if t751 = 0 then (if t756 = 0 then ((nat_Cmp.f t754 t671).bind fun t761 => (if t761 = 0 then ((nat_Cmp.f t755 t674).bind fun t762 => (if t762 = 0 then ((reckonerlaw02_awake.f kj47).bind fun t763 => (some t763)) else (none))) else (none))) else (none)) else (none)) else (none)) else (none)) = some r := H
       have A78 := Aside0.mk A780
       clear A780
       by_cases c79 : t743 = 0
       ·rw [if_pos c79] at H
        have c79b0 : (t743 == 0) = true := beq_iff_eq.mpr c79
        have c79b1 : (t743 != 0) = false := bne_eq_false_iff_eq.mpr c79
        clear c79
        by_cases c80 : t747 = 0
        ·rw [if_pos c80] at H
         have c80b0 : (t747 == 0) = true := beq_iff_eq.mpr c80
         have c80b1 : (t747 != 0) = false := bne_eq_false_iff_eq.mpr c80
         clear c80
         by_cases c81 : t751 = 0
         ·rw [if_pos c81] at H
          have c81b0 : (t751 == 0) = true := beq_iff_eq.mpr c81
          have c81b1 : (t751 != 0) = false := bne_eq_false_iff_eq.mpr c81
          clear c81
          by_cases c82 : t756 = 0
          ·rw [if_pos c82] at H
           have c82b0 : (t756 == 0) = true := beq_iff_eq.mpr c82
           have c82b1 : (t756 != 0) = false := bne_eq_false_iff_eq.mpr c82
           clear c82
           replace H := Option.bind_eq_some_iff.mp H
           obtain ⟨t761, A830, H⟩ := H
           replace H : (if t761 = 0 then ((nat_Cmp.f t755 t674).bind fun t762 => (if t762 = 0 then ((reckonerlaw02_awake.f kj47).bind fun t763 => (some t763)) else (none))) else (none)) = some r := H
           have A83 := Aside0.mk A830
           clear A830
           by_cases c84 : t761 = 0
           ·rw [if_pos c84] at H
            have c84b0 : (t761 == 0) = true := beq_iff_eq.mpr c84
            have c84b1 : (t761 != 0) = false := bne_eq_false_iff_eq.mpr c84
            clear c84
            replace H := Option.bind_eq_some_iff.mp H
            obtain ⟨t762, A850, H⟩ := H
            replace H : (if t762 = 0 then ((reckonerlaw02_awake.f kj47).bind fun t763 => (some t763)) else (none)) = some r := H
            have A85 := Aside0.mk A850
            clear A850
            by_cases c86 : t762 = 0
            ·rw [if_pos c86] at H
             have c86b0 : (t762 == 0) = true := beq_iff_eq.mpr c86
             have c86b1 : (t762 != 0) = false := bne_eq_false_iff_eq.mpr c86
             clear c86
             replace H := Option.bind_eq_some_iff.mp H
             obtain ⟨t763, A870, H⟩ := H
             replace H : (some t763) = some r := H
             have A87 := Aside0.mk A870
             clear A870
             obtain rfl := Option.some.inj H
             go_wp2_with (first | ((with_reducible refine gate_dst (N := 172) rfl ?_); refine Kd.R_lit (Kd.int .u64) _ 33 ?hg (N := 172) ?hd (xs := ([1] : List Int)) (inner := [.int .u64 1]) (ok := fun _ => True) (okp := fun _ => True) ?hr ?hp (fun _ hk => hk) trivial (Below.refl _ _) (Nat.le_refl _) (by simp) ?_; (case hd => rfl); (case hg => rfl); (case hr => first | (go_simp; done) | (go_simp; rfl)); (case hp => exact (Reps.one (show Kd.M (Kd.int .u64) _ _ _ 1 [.int .u64 1] from rfl) (Reps.none _ _))); intro v737 w88 ho89 hb hg_ hnew_; clear hg_ hnew_; (first | rw [← Ny736.out] at ho89 | (simp only [Int.reduceToNat] at ho89; rw [← Ny736.out] at ho89)); have n0_ := Aside0.mk (Kd.R_elder' (by (with_reducible repeat (first | apply Kd.R_alloc | apply Kd.R_drewN | apply Kd.R_drew)); exact HO_7.out) (Kd.R_base ho89) hb); have n1_ := Aside0.mk (Kd.R_elder' (by (with_reducible repeat (first | apply Kd.R_alloc | apply Kd.R_drewN | apply Kd.R_drew)); exact HO_8.out) (Kd.R_base ho89) hb); have n2_ := Aside0.mk (Kd.R_elder' (by (with_reducible repeat (first | apply Kd.R_alloc | apply Kd.R_drewN | apply Kd.R_drew)); exact HO_9.out) (Kd.R_base ho89) hb); have n3_ := Aside0.mk (Kd.R_lower (Kd.R_new' (Kd.R_new' (Kd.R_new' ho89 (Kd.R_lt (by (with_reducible repeat (first | apply Kd.R_alloc | apply Kd.R_drewN | apply Kd.R_drew)); exact HO_7.out))) (Kd.R_lt (by (with_reducible repeat (first | apply Kd.R_alloc | apply Kd.R_drewN | apply Kd.R_drew)); exact HO_8.out))) (Kd.R_lt (by (with_reducible repeat (first | apply Kd.R_alloc | apply Kd.R_drewN | apply Kd.R_drew)); exact HO_9.out))) (below_size (by repeat (first | (with_reducible first | exact HB.out | apply below_alloc | apply pw_below_drewN | apply below_drew1) | exact HB.out)))); have n4_ := Aside0.mk (below_step (by repeat (first | (with_reducible first | exact HB.out | apply below_alloc | apply pw_below_drewN | apply below_drew1) | exact HB.out)) hb); clear HO_7; clear HO_8; clear HO_9; clear HB; have HO_7 := n0_; have HO_8 := n1_; have HO_9 := n2_; have HO738 := n3_; have HB := n4_; clear n0_ n1_ n2_ n3_ n4_; clear hb ho89; obtain ⟨Ao90, co90, eo90⟩ := Kd.R_slice HO738.out; subst eo90) | ((with_reducible refine gate_dst (N := 173) rfl ?_); refine Kd.N_lit (Kd.slice 33 (Kd.int .u64)) _ 23 ?hg (N' := 173) ?hd (xs := ([t674, t677, y736] : List (List Int))) (inner := [.slice Ao18 t674.length co18, .slice Ao22 t677.length co22, .slice Ao90 y736.length co90]) (ok := (fun k_ => some k_ ≠ (.slice Ao17 t671.length co17 : Value).ownBlock)) (okp := (fun k_ => some k_ ≠ (.slice Ao17 t671.length co17 : Value).ownBlock)) ?hr ?hp (fun _ hk => hk) ((show ∀ k_, w88.heap.size ≤ k_ → (fun k_ => some k_ ≠ (.slice Ao17 t671.length co17 : Value).ownBlock) k_ from fun k_ hk => Kd.fresh' (Kd.R_lt (by (with_reducible repeat (first | apply Kd.R_alloc | apply Kd.R_drewN | apply Kd.R_drew)); exact HO_7.out)) k_ hk) _ (Nat.le_refl _)) (Below.refl _ _) (Nat.le_refl _) (by simp) ?_; (case hd => rfl); (case hg => rfl); (case hr => first | (go_simp; done) | (go_simp; rfl)); (case hp => exact (Reps.one (show Kd.FK (Kd.slice 33 (Kd.int .u64)) _ _ t674 [.slice Ao18 t674.length co18] from (Kd.FK_slice_mk (Kd.R_reads' (Kd.R_mono (ok' := (fun k_ => some k_ ≠ (.slice Ao17 t671.length co17 : Value).ownBlock)) (HO_8.out) (fun k_ hk => hk.1.1))).2.1 (Kd.R_F (Kd.R_mono (ok' := (fun k_ => some k_ ≠ (.slice Ao17 t671.length co17 : Value).ownBlock)) (HO_8.out) (fun k_ hk => hk.1.1))))) (Reps.one (show Kd.FK (Kd.slice 33 (Kd.int .u64)) _ _ t677 [.slice Ao22 t677.length co22] from (Kd.FK_slice_mk (Kd.R_reads' (Kd.R_mono (ok' := (fun k_ => some k_ ≠ (.slice Ao17 t671.length co17 : Value).ownBlock)) (HO_9.out) (fun k_ hk => hk.1.1))).2.1 (Kd.R_F (Kd.R_mono (ok' := (fun k_ => some k_ ≠ (.slice Ao17 t671.length co17 : Value).ownBlock)) (HO_9.out) (fun k_ hk => hk.1.1))))) (Reps.one (show Kd.FK (Kd.slice 33 (Kd.int .u64)) _ _ y736 [.slice Ao90 y736.length co90] from (Kd.FK_slice_mk (Kd.R_reads' (Kd.R_mono (ok' := (fun k_ => some k_ ≠ (.slice Ao17 t671.length co17 : Value).ownBlock)) (HO738.out) (fun k_ hk => hk.1.1.2))).2.1 (Kd.R_F (Kd.R_mono (ok' := (fun k_ => some k_ ≠ (.slice Ao17 t671.length co17 : Value).ownBlock)) (HO738.out) (fun k_ hk => hk.1.1.2))))) (Reps.none _ _))))); intro v740 w91 ho92 hb hg_ hnew_; clear hg_ hnew_; (first | rw [← Ny739.out] at ho92 | (simp only [Int.reduceToNat] at ho92; rw [← Ny739.out] at ho92)); have mHO_8 := Aside0.mk (Kd.R_below (by (with_reducible repeat (first | apply Kd.R_alloc | apply Kd.R_drewN | apply Kd.R_drew)); exact HO_8.out) hb); have n0_ := Aside0.mk (Kd.R_below (by (with_reducible repeat (first | apply Kd.R_alloc | apply Kd.R_drewN | apply Kd.R_drew)); exact HO_7.out) hb); have n1_ := Aside0.mk (Kd.N_lower ho92 (below_size (by repeat (first | (with_reducible first | exact HB.out | apply below_alloc | apply pw_below_drewN | apply below_drew1) | exact HB.out)))); have n2_ := Aside0.mk (below_step (by repeat (first | (with_reducible first | exact HB.out | apply below_alloc | apply pw_below_drewN | apply below_drew1) | exact HB.out)) hb); clear HO_7; clear HB; clear HO738; clear HO_8; clear HO_9; have HO_8 := mHO_8; clear mHO_8; have HO_7 := n0_; have HO741 := n1_; have HB := n2_; clear n0_ n1_ n2_; clear hb ho92; obtain ⟨Ao93, co93, eo93⟩ := Kd.N_slice HO741.out; subst eo93) | ((with_reducible refine gate_callee (f := 29) rfl ?_); refine goesL_ (some 174) rfl rfl Try.func29 (by kernel_rfl) rfl #[.slice Ao93 y739.length co93] rfl (by (try simp only [List.map_toArray, List.map_cons, List.map_nil]); first | done | rfl | (simp only [List.length_drop, List.length_take]; rfl)) ?_; (with_reducible refine (nat_Sum.calls _ _ y739 t742 t743 _ ?side1 ?side2 A75.out).mono ?_); (case side1 => repeat (first | exact (Kd.N_reads' HO741.out).2.2 | (with_reducible refine Kd.C_alloc ?_ _) | (with_reducible refine Kd.C_drewN ?_ _) | (with_reducible refine Kd.C_drew ?_))); (case side2 => exact (Kd.N_reads' HO741.out).2.1); rintro e w94 ⟨v744, rfl, ho0, hb⟩; refine ⟨_, rfl, ?_⟩; have mHO_8 := Aside0.mk (Kd.R_elder' (by (with_reducible repeat (first | apply Kd.R_alloc | apply Kd.R_drewN | apply Kd.R_drew)); exact HO_8.out) (Kd.R_base ho0) hb); have n0_ := Aside0.mk (Kd.R_elder' (by (with_reducible repeat (first | apply Kd.R_alloc | apply Kd.R_drewN | apply Kd.R_drew)); exact HO_7.out) (Kd.R_base ho0) hb); have n1_ := Aside0.mk (Kd.N_elder' (by (with_reducible repeat (first | apply Kd.N_alloc | apply Kd.N_drewN | apply Kd.N_drew)); exact HO741.out) (Kd.R_base ho0) hb); have n2_ := Aside0.mk (Kd.R_lower (Kd.R_new' ho0 (Kd.R_lt (by (with_reducible repeat (first | apply Kd.R_alloc | apply Kd.R_drewN | apply Kd.R_drew)); exact HO_7.out))) (below_size (by repeat (first | (with_reducible first | exact HB.out | apply below_alloc | apply pw_below_drewN | apply below_drew1) | exact HB.out)))); have n3_ := Aside0.mk (below_step (by repeat (first | (with_reducible first | exact HB.out | apply below_alloc | apply pw_below_drewN | apply below_drew1) | exact HB.out)) hb); clear HO_8; clear HO_7; clear HO741; clear HB; have HO_8 := mHO_8; clear mHO_8; have HO_7 := n0_; have HO741 := n1_; have HO745 := n2_; have HB := n3_; clear n0_ n1_ n2_ n3_; (try clear hb); (try clear hb2); (try clear hk); (try clear hi); (try clear ho0); obtain ⟨Ao95, co95, eo95⟩ := Kd.R_slice HO745.out; subst eo95) | ((with_reducible refine gate_callee (f := 21) rfl ?_); refine goesL_ (some 180) rfl rfl Try.func21 (by kernel_rfl) rfl #[.slice Ao17 t671.length co17, .slice Ao95 t742.length co95] rfl (by (try simp only [List.map_toArray, List.map_cons, List.map_nil]); first | done | rfl | (simp only [List.length_drop, List.length_take]; rfl)) ?_; (with_reducible refine (nat_Mul.calls _ _ t671 _ _ t742 t746 t747 _ ?side1 ?side2 ?side3 ?side4 A76.out).mono ?_); (case side1 => repeat (first | exact (Kd.R_reads' HO_7.out).2.2 | (with_reducible refine Kd.C_alloc ?_ _) | (with_reducible refine Kd.C_drewN ?_ _) | (with_reducible refine Kd.C_drew ?_))); (case side2 => exact (Kd.R_reads' HO_7.out).2.1); (case side3 => repeat (first | exact (Kd.R_reads' HO745.out).2.2 | (with_reducible refine Kd.C_alloc ?_ _) | (with_reducible refine Kd.C_drewN ?_ _) | (with_reducible refine Kd.C_drew ?_))); (case side4 => exact (Kd.R_reads' HO745.out).2.1); rintro e w96 ⟨v748, rfl, ho0, hb⟩; refine ⟨_, rfl, ?_⟩; have mHO_8 := Aside0.mk (Kd.R_elder' (by (with_reducible repeat (first | apply Kd.R_alloc | apply Kd.R_drewN | apply Kd.R_drew)); exact HO_8.out) (Kd.R_base ho0) hb); have n0_ := Aside0.mk (Kd.R_elder' (by (with_reducible repeat (first | apply Kd.R_alloc | apply Kd.R_drewN | apply Kd.R_drew)); exact HO_7.out) (Kd.R_base ho0) hb); have n1_ := Aside0.mk (Kd.N_elder' (by (with_reducible repeat (first | apply Kd.N_alloc | apply Kd.N_drewN | apply Kd.N_drew)); exact HO741.out) (Kd.R_base ho0) hb); have n2_ := Aside0.mk (Kd.R_elder' (by (with_reducible repeat (first | apply Kd.R_alloc | apply Kd.R_drewN | apply Kd.R_drew)); exact HO745.out) (Kd.R_base ho0) hb); have n3_ := Aside0.mk (Kd.R_lower (Kd.R_new' (Kd.R_new' ho0 (Kd.R_lt (by (with_reducible repeat (first | apply Kd.R_alloc | apply Kd.R_drewN | apply Kd.R_drew)); exact HO_7.out))) (Kd.R_lt (by (with_reducible repeat (first | apply Kd.R_alloc | apply Kd.R_drewN | apply Kd.R_drew)); exact HO745.out))) (below_size (by repeat (first | (with_reducible first | exact HB.out | apply below_alloc | apply pw_below_drewN | apply below_drew1) | exact HB.out)))); have n4_ := Aside0.mk (below_step (by repeat (first | (with_reducible first | exact HB.out | apply below_alloc | apply pw_below_drewN | apply below_drew1) | exact HB.out)) hb); clear HO_8; clear HO_7; clear HO741; clear HO745; clear HB; have HO_8 := mHO_8; clear mHO_8; have HO_7 := n0_; have HO741 := n1_; have HO745 := n2_; have HO749 := n3_; have HB := n4_; clear n0_ n1_ n2_ n3_ n4_; (try clear hb); (try clear hb2); (try clear hk); (try clear hi); (try clear ho0); obtain ⟨Ao97, co97, eo97⟩ := Kd.R_slice HO749.out; subst eo97) | ((with_reducible refine gate_callee (f := 24) rfl ?_); refine goesL_ (some 186) rfl rfl Try.func24 (by kernel_rfl) rfl #[.slice Ao97 t746.length co97, .slice Ao18 t674.length co18] rfl (by (try simp only [List.map_toArray, List.map_cons, List.map_nil]); first | done | rfl | (simp only [List.length_drop, List.length_take]; rfl)) ?_; (with_reducible refine (nat_Add.calls _ _ t746 _ _ t674 t750 t751 _ ?side1 ?side2 ?side3 ?side4 A77.out).mono ?_); (case side1 => repeat (first | exact (Kd.R_reads' HO749.out).2.2 | (with_reducible refine Kd.C_alloc ?_ _) | (with_reducible refine Kd.C_drewN ?_ _) | (with_reducible refine Kd.C_drew ?_))); (case side2 => exact (Kd.R_reads' HO749.out).2.1); (case side3 => repeat (first | exact (Kd.R_reads' HO_8.out).2.2 | (with_reducible refine Kd.C_alloc ?_ _) | (with_reducible refine Kd.C_drewN ?_ _) | (with_reducible refine Kd.C_drew ?_))); (case side4 => exact (Kd.R_reads' HO_8.out).2.1); rintro e w98 ⟨v752, rfl, ho0, hb⟩; refine ⟨_, rfl, ?_⟩; have mHO_8 := Aside0.mk (Kd.R_elder' (by (with_reducible repeat (first | apply Kd.R_alloc | apply Kd.R_drewN | apply Kd.R_drew)); exact HO_8.out) (Kd.R_base ho0) hb); have n0_ := Aside0.mk (Kd.R_elder' (by (with_reducible repeat (first | apply Kd.R_alloc | apply Kd.R_drewN | apply Kd.R_drew)); exact HO_7.out) (Kd.R_base ho0) hb); have n1_ := Aside0.mk (Kd.N_elder' (by (with_reducible repeat (first | apply Kd.N_alloc | apply Kd.N_drewN | apply Kd.N_drew)); exact HO741.out) (Kd.R_base ho0) hb); have n2_ := Aside0.mk (Kd.R_elder' (by (with_reducible repeat (first | apply Kd.R_alloc | apply Kd.R_drewN | apply Kd.R_drew)); exact HO745.out) (Kd.R_base ho0) hb); have n3_ := Aside0.mk (Kd.R_elder' (by (with_reducible repeat (first | apply Kd.R_alloc | apply Kd.R_drewN | apply Kd.R_drew)); exact HO749.out) (Kd.R_base ho0) hb); have n4_ := Aside0.mk (Kd.R_lower (Kd.R_new' (Kd.R_new' (Kd.R_new' ho0 (Kd.R_lt (by (with_reducible repeat (first | apply Kd.R_alloc | apply Kd.R_drewN | apply Kd.R_drew)); exact HO_7.out))) (Kd.R_lt (by (with_reducible repeat (first | apply Kd.R_alloc | apply Kd.R_drewN | apply Kd.R_drew)); exact HO745.out))) (Kd.R_lt (by (with_reducible repeat (first | apply Kd.R_alloc | apply Kd.R_drewN | apply Kd.R_drew)); exact HO749.out))) (below_size (by repeat (first | (with_reducible first | exact HB.out | apply below_alloc | apply pw_below_drewN | apply below_drew1) | exact HB.out)))); have n5_ := Aside0.mk (below_step (by repeat (first | (with_reducible first | exact HB.out | apply below_alloc | apply pw_below_drewN | apply below_drew1) | exact HB.out)) hb); clear HO_8; clear HO_7; clear HO741; clear HO745; clear HO749; clear HB; have HO_8 := mHO_8; clear mHO_8; have HO_7 := n0_; have HO741 := n1_; have HO745 := n2_; have HO749 := n3_; have HO753 := n4_; have HB := n5_; clear n0_ n1_ n2_ n3_ n4_ n5_; (try clear hb); (try clear hb2); (try clear hk); (try clear hi); (try clear ho0); obtain ⟨Ao99, co99, eo99⟩ := Kd.R_slice HO753.out; subst eo99) | ((with_reducible refine gate_callee (f := 16) rfl ?_); refine goesL_ (some 192) rfl rfl Try.func16 (by kernel_rfl) rfl #[.slice Ao99 t750.length co99, .slice Ao95 t742.length co95] rfl (by (try simp only [List.map_toArray, List.map_cons, List.map_nil]); first | done | rfl | (simp only [List.length_drop, List.length_take]; rfl)) ?_; (with_reducible refine (nat_DivMod.calls _ _ t750 _ _ t742 t754 t755 t756 _ ?side1 ?side2 ?side3 ?side4 A78.out).mono ?_); (case side1 => repeat (first | exact (Kd.R_reads' HO753.out).2.2 | (with_reducible refine Kd.C_alloc ?_ _) | (with_reducible refine Kd.C_drewN ?_ _) | (with_reducible refine Kd.C_drew ?_))); (case side2 => exact (Kd.R_reads' HO753.out).2.1); (case side3 => repeat (first | exact (Kd.R_reads' HO745.out).2.2 | (with_reducible refine Kd.C_alloc ?_ _) | (with_reducible refine Kd.C_drewN ?_ _) | (with_reducible refine Kd.C_drew ?_))); (case side4 => exact (Kd.R_reads' HO745.out).2.1); rintro e w100 ⟨v757, v759, rfl, ho0, ho1, hb⟩; refine ⟨_, rfl, ?_⟩; have mHO_8 := Aside0.mk (Kd.R_mono (Kd.R_told (Kd.R_told (Kd.R_old (by (with_reducible repeat (first | apply Kd.R_alloc | apply Kd.R_drewN | apply Kd.R_drew)); exact HO_8.out) hb) (Kd.R_base ho0)) (Kd.R_base ho1)) (fun _ h_ => h_.1)); have n0_ := Aside0.mk (Kd.R_mono (Kd.R_told (Kd.R_told (Kd.R_old (by (with_reducible repeat (first | apply Kd.R_alloc | apply Kd.R_drewN | apply Kd.R_drew)); exact HO_7.out) hb) (Kd.R_base ho0)) (Kd.R_base ho1)) (fun _ h_ => h_.1)); have n1_ := Aside0.mk (Kd.N_mono (Kd.N_told (Kd.N_told (Kd.N_old (by (with_reducible repeat (first | apply Kd.N_alloc | apply Kd.N_drewN | apply Kd.N_drew)); exact HO741.out) hb) (Kd.R_base ho0)) (Kd.R_base ho1)) (fun _ h_ => h_.1)); have n2_ := Aside0.mk (Kd.R_mono (Kd.R_told (Kd.R_told (Kd.R_old (by (with_reducible repeat (first | apply Kd.R_alloc | apply Kd.R_drewN | apply Kd.R_drew)); exact HO745.out) hb) (Kd.R_base ho0)) (Kd.R_base ho1)) (fun _ h_ => h_.1)); have n3_ := Aside0.mk (Kd.R_mono (Kd.R_told (Kd.R_told (Kd.R_old (by (with_reducible repeat (first | apply Kd.R_alloc | apply Kd.R_drewN | apply Kd.R_drew)); exact HO749.out) hb) (Kd.R_base ho0)) (Kd.R_base ho1)) (fun _ h_ => h_.1)); have n4_ := Aside0.mk (Kd.R_mono (Kd.R_told (Kd.R_told (Kd.R_old (by (with_reducible repeat (first | apply Kd.R_alloc | apply Kd.R_drewN | apply Kd.R_drew)); exact HO753.out) hb) (Kd.R_base ho0)) (Kd.R_base ho1)) (fun _ h_ => h_.1)); have n5_ := Aside0.mk (Kd.R_lower (Kd.R_new' (Kd.R_new' (Kd.R_new' (Kd.R_new' ho0 (Kd.R_lt (by (with_reducible repeat (first | apply Kd.R_alloc | apply Kd.R_drewN | apply Kd.R_drew)); exact HO_7.out))) (Kd.R_lt (by (with_reducible repeat (first | apply Kd.R_alloc | apply Kd.R_drewN | apply Kd.R_drew)); exact HO745.out))) (Kd.R_lt (by (with_reducible repeat (first | apply Kd.R_alloc | apply Kd.R_drewN | apply Kd.R_drew)); exact HO749.out))) (Kd.R_lt (by (with_reducible repeat (first | apply Kd.R_alloc | apply Kd.R_drewN | apply Kd.R_drew)); exact HO753.out))) (below_size (by repeat (first | (with_reducible first | exact HB.out | apply below_alloc | apply pw_below_drewN | apply below_drew1) | exact HB.out)))); have n6_ := Aside0.mk (Kd.R_lower (Kd.R_new' (Kd.R_new' (Kd.R_new' (Kd.R_new' ho1 (Kd.R_lt (by (with_reducible repeat (first | apply Kd.R_alloc | apply Kd.R_drewN | apply Kd.R_drew)); exact HO_7.out))) (Kd.R_lt (by (with_reducible repeat (first | apply Kd.R_alloc | apply Kd.R_drewN | apply Kd.R_drew)); exact HO745.out))) (Kd.R_lt (by (with_reducible repeat (first | apply Kd.R_alloc | apply Kd.R_drewN | apply Kd.R_drew)); exact HO749.out))) (Kd.R_lt (by (with_reducible repeat (first | apply Kd.R_alloc | apply Kd.R_drewN | apply Kd.R_drew)); exact HO753.out))) (below_size (by repeat (first | (with_reducible first | exact HB.out | apply below_alloc | apply pw_below_drewN | apply below_drew1) | exact HB.out)))); have n7_ := Aside0.mk (below_step (by repeat (first | (with_reducible first | exact HB.out | apply below_alloc | apply pw_below_drewN | apply below_drew1) | exact HB.out)) hb); clear HO_8; clear HO_7; clear HO741; clear HO745; clear HO749; clear HO753; clear HB; have HO_8 := mHO_8; clear mHO_8; have HO_7 := n0_; have HO741 := n1_; have HO745 := n2_; have HO749 := n3_; have HO753 := n4_; have HO758 := n5_; have HO760 := n6_; have HB := n7_; clear n0_ n1_ n2_ n3_ n4_ n5_ n6_ n7_; (try clear hb); (try clear hb2); (try clear hk); (try clear hi); (try clear ho0); (try clear ho1); obtain ⟨Ao101, co101, eo101⟩ := Kd.R_slice HO758.out; subst eo101) | (go_at_call 39; (with_reducible refine (nat_Cmp.calls _ _ t754 _ _ t671 t761 _ ?side1 ?side2 ?side3 ?side4 A83.out).mono ?_); (case side1 => repeat (first | exact (Kd.R_reads' HO758.out).2.2 | (with_reducible refine Kd.C_alloc ?_ _) | (with_reducible refine Kd.C_drewN ?_ _) | (with_reducible refine Kd.C_drew ?_))); (case side2 => exact (Kd.R_reads' HO758.out).2.1); (case side3 => repeat (first | exact (Kd.R_reads' HO_7.out).2.2 | (with_reducible refine Kd.C_alloc ?_ _) | (with_reducible refine Kd.C_drewN ?_ _) | (with_reducible refine Kd.C_drew ?_))); (case side4 => exact (Kd.R_reads' HO_7.out).2.1); rintro e w' ⟨rfl, ⟨nd, rfl⟩⟩; obtain ⟨Ao102, co102, eo102⟩ := Kd.R_slice HO760.out; subst eo102) | (go_at_call 39; (with_reducible refine (nat_Cmp.calls _ _ t755 _ _ t674 t762 _ ?side1 ?side2 ?side3 ?side4 A85.out).mono ?_); (case side1 => repeat (first | exact (Kd.R_reads' HO760.out).2.2 | (with_reducible refine Kd.C_alloc ?_ _) | (with_reducible refine Kd.C_drewN ?_ _) | (with_reducible refine Kd.C_drew ?_))); (case side2 => exact (Kd.R_reads' HO760.out).2.1); (case side3 => repeat (first | exact (Kd.R_reads' HO_8.out).2.2 | (with_reducible refine Kd.C_alloc ?_ _) | (with_reducible refine Kd.C_drewN ?_ _) | (with_reducible refine Kd.C_drew ?_))); (case side4 => exact (Kd.R_reads' HO_8.out).2.1); rintro e w' ⟨rfl, ⟨nd, rfl⟩⟩) | (go_at_call 15; (with_reducible refine (reckonerlaw02_awake.calls kj47  t763 _ A87.out).mono ?_); rintro e w103 ⟨rfl, hb⟩; have mHO_8 := Aside0.mk (Kd.R_below (by (with_reducible repeat (first | apply Kd.R_alloc | apply Kd.R_drewN | apply Kd.R_drew)); exact HO_8.out) hb); have n0_ := Aside0.mk (Kd.R_below (by (with_reducible repeat (first | apply Kd.R_alloc | apply Kd.R_drewN | apply Kd.R_drew)); exact HO_7.out) hb); have n1_ := Aside0.mk (Kd.N_below (by (with_reducible repeat (first | apply Kd.N_alloc | apply Kd.N_drewN | apply Kd.N_drew)); exact HO741.out) hb); have n2_ := Aside0.mk (Kd.R_below (by (with_reducible repeat (first | apply Kd.R_alloc | apply Kd.R_drewN | apply Kd.R_drew)); exact HO745.out) hb); have n3_ := Aside0.mk (Kd.R_below (by (with_reducible repeat (first | apply Kd.R_alloc | apply Kd.R_drewN | apply Kd.R_drew)); exact HO749.out) hb); have n4_ := Aside0.mk (Kd.R_below (by (with_reducible repeat (first | apply Kd.R_alloc | apply Kd.R_drewN | apply Kd.R_drew)); exact HO753.out) hb); have n5_ := Aside0.mk (Kd.R_below (by (with_reducible repeat (first | apply Kd.R_alloc | apply Kd.R_drewN | apply Kd.R_drew)); exact HO758.out) hb); have n6_ := Aside0.mk (Kd.R_below (by (with_reducible repeat (first | apply Kd.R_alloc | apply Kd.R_drewN | apply Kd.R_drew)); exact HO760.out) hb); have n7_ := Aside0.mk (below_step (by repeat (first | (with_reducible first | exact HB.out | apply below_alloc | apply pw_below_drewN | apply below_drew1) | exact HB.out)) hb); clear HO_8; clear HO_7; clear HO741; clear HO745; clear HO749; clear HO753; clear HO758; clear HO760; clear HB; have HO_8 := mHO_8; clear mHO_8; have HO_7 := n0_; have HO741 := n1_; have HO745 := n2_; have HO749 := n3_; have HO753 := n4_; have HO758 := n5_; have HO760 := n6_; have HB := n7_; clear n0_ n1_ n2_ n3_ n4_ n5_ n6_ n7_; (try clear hb); (try clear hb2); (try clear hk); (try clear hi)))
             go_ret
             exact ⟨by first | rfl | (simp [errW_none, errW_some] <;> rfl) | (simp [*, errW_none, errW_some] <;> rfl), by repeat (first | (with_reducible first | exact HB.out | apply below_alloc | apply pw_below_drewN | apply below_drew1) | exact HB.out)⟩
            ·rw [if_neg c86] at H
             exact absurd H (by simp)
           ·rw [if_neg c84] at H
            exact absurd H (by simp)
          ·rw [if_neg c82] at H
           exact absurd H (by simp)
         ·rw [if_neg c81] at H
          exact absurd H (by simp)
        ·rw [if_neg c80] at H
         exact absurd H (by simp)
       ·rw [if_neg c79] at H
        exact absurd H (by simp)
/-- THE ONE PURE STATEMENT of reckonerlaw02_NatRing: yours. -/
def reckonerlaw02_NatRing.Pure : Prop := ∀ (l0 : List Int) (l1 : List Int) (l2 : List Int), l0.length ≤ maxLen → l0.length * 8 ≤ 140737488351232 → (∀ x ∈ l0, (Lit.int .u64 x).wf = true) → l1.length ≤ maxLen → l1.length * 8 ≤ 140737488351232 → (∀ x ∈ l1, (Lit.int .u64 x).wf = true) → l2.length ≤ maxLen → l2.length * 8 ≤ 140737488351232 → (∀ x ∈ l2, (Lit.int .u64 x).wf = true) → ∃ k, reckonerlaw02_NatRing.f k l0 l1 l2 = some true
theorem reckonerlaw02_NatRing.walk (P : reckonerlaw02_NatRing.Pure) (a0 : Option Addr) (len0 cap0 : Nat) (z0 : List Int) (a1 : Option Addr) (len1 cap1 : Nat) (z1 : List Int) (a2 : Option Addr) (len2 cap2 : Nat) (z2 : List Int) (w : World) (w0 : (a0 = none ∧ len0 = 0 ∧ cap0 = 0 ∧ z0 = []) ∨ ∃ x, a0 = some x ∧ len0 ≤ cap0 ∧ cap0 ≤ maxLen ∧ z0.length = cap0 ∧ (∀ i, i < z0.length → w.cell? (x.add i) = some (.int .u64 (z0.getD i 0))) ∧ ∀ n ∈ z0, (Lit.int .u64 n).wf = true) (y0 : len0 * 8 ≤ 140737488351232) (w1 : (a1 = none ∧ len1 = 0 ∧ cap1 = 0 ∧ z1 = []) ∨ ∃ x, a1 = some x ∧ len1 ≤ cap1 ∧ cap1 ≤ maxLen ∧ z1.length = cap1 ∧ (∀ i, i < z1.length → w.cell? (x.add i) = some (.int .u64 (z1.getD i 0))) ∧ ∀ n ∈ z1, (Lit.int .u64 n).wf = true) (y1 : len1 * 8 ≤ 140737488351232) (w2 : (a2 = none ∧ len2 = 0 ∧ cap2 = 0 ∧ z2 = []) ∨ ∃ x, a2 = some x ∧ len2 ≤ cap2 ∧ cap2 ≤ maxLen ∧ z2.length = cap2 ∧ (∀ i, i < z2.length → w.cell? (x.add i) = some (.int .u64 (z2.getD i 0))) ∧ ∀ n ∈ z2, (Lit.int .u64 n).wf = true) (y2 : len2 * 8 ≤ 140737488351232) :
    Calls Try.prog 9 #[.slice a0 len0 cap0, .slice a1 len1 cap1, .slice a2 len2 cap2] w fun e w' => e = .returned (.bool true) ∧ Below w.heap.size w w' := by
  obtain ⟨l0, rfl, hr0, hm0, hw0, hc0⟩ := ReadsInt.ofRowC w0
  obtain ⟨l1, rfl, hr1, hm1, hw1, hc1⟩ := ReadsInt.ofRowC w1
  obtain ⟨l2, rfl, hr2, hm2, hw2, hc2⟩ := ReadsInt.ofRowC w2
  obtain ⟨k, h⟩ := P l0 l1 l2 hm0 y0 hw0 hm1 y1 hw1 hm2 y2 hw2
  refine (reckonerlaw02_NatRing.calls k _ _ l0 _ _ l1 _ _ l2 true w (Kd.C_of_reads (d := (0 : Int)) (h1 := fun _ => rfl) hr0) hc0 (Kd.C_of_reads (d := (0 : Int)) (h1 := fun _ => rfl) hr1) hc1 (Kd.C_of_reads (d := (0 : Int)) (h1 := fun _ => rfl) hr2) hc2 h).mono ?_
  rintro e w' ⟨rfl, hd⟩
  exact ⟨rfl, hd⟩
end Go.Proofs.Ytkkkbalefnileaa.T
/- What the reference's functions on digits hand back (printed in Tx1, Tx2). -/
namespace Go.Proofs.Ytkkkbalefnileaa.Ex
open Go.RowKit Go.Proofs.YtkkkbalefnileaaW.PrintWords Go.Proofs.YtkkkbalefnileaaW.PrintLast Go.Proofs.YtkkkbalefnileaaW.PrintMore Go.Proofs.Ytkkkbalefnileaa.T
set_option linter.unusedVariables false
set_option linter.unusedSimpArgs false

/-- The base of the reference's digits. -/
def H32 : Int := 4294967296
theorem H32_eq : H32 = 4294967296 := rfl
theorem H32_pos : 0 < H32 := by decide
theorem H32_sq : H32 * H32 = W64 := by decide
theorem rd_nat (l : List Int) (i : Nat) : rd l (i : Int) = l.getD i 0 := by simp [rd]
theorem w64_nat (n : Nat) (h : n < 4611686018427387904) : wrap64 (n : Int) = (n : Int) := by unfold wrap64; omega
theorem wrapW (q : Int) (h0 : 0 ≤ q) (h1 : q < 18446744073709551616) : IntKind.u64.wrap q = q := Int.emod_eq_of_lt h0 h1
theorem tmodH (q : Int) (h : 0 ≤ q) : Int.tmod q 4294967296 = q % H32 := Int.tmod_eq_emod_of_nonneg h
theorem tdivH (q : Int) (h : 0 ≤ q) : Int.tdiv q 4294967296 = q / H32 := Int.tdiv_eq_ediv_of_nonneg h
theorem Ev.now' {α : Type} {g : Nat → Option α} {r : α} (h : ∀ k, g (k + 1) = some r) : Ev g r := Ev.step h (Ev.now r)
/-! ### digits -/
def digitsL : List Int → List Int
  | [] => []
  | x :: l => x % H32 :: x / H32 :: digitsL l
theorem digitsL_length : ∀ l, (digitsL l).length = 2 * l.length
  | [] => rfl
  | x :: l => by simp [digitsL, digitsL_length l]; omega
theorem digitsL_in : ∀ {l}, inW l → inB H32 (digitsL l)
  | [], _ => inB_nil
  | x :: l, h => by
    have h1 := inW_cons.1 h
    have h2 := h1.1.1
    have h3 := h1.1.2
    rw [W64_eq] at h3
    exact inB_cons.2 ⟨by rw [H32_eq]; omega, inB_cons.2 ⟨by rw [H32_eq]; omega, digitsL_in h1.2⟩⟩
theorem digitsL_val : ∀ l, valB H32 (digitsL l) = valB W64 l
  | [] => rfl
  | x :: l => by
    show x % H32 + H32 * (x / H32 + H32 * valB H32 (digitsL l)) = x + W64 * valB W64 l
    rw [digitsL_val l, Int.mul_add, ← Int.mul_assoc, H32_sq, ← Int.add_assoc]
    have := Int.emod_add_mul_ediv x H32
    omega
theorem Digits_loop (l : List Int) (hl : inW l) (hn : l.length ≤ 1000000) : ∀ n i acc, i + n = l.length → acc.length = 2 * i → Ev (fun k => reckonerref01_Digits.l0 k l acc (i : Int)) (acc ++ digitsL (l.drop i))
  | 0, i, acc, h, _ => by
    rw [List.drop_of_length_le (by omega)]
    refine Ev.now' fun k => ?_
    rw [reckonerref01_Digits.l0, if_neg (by omega)]
    simp [digitsL]
  | n + 1, i, acc, h, ha => by
    have hi : i < l.length := by omega
    have ih := Digits_loop l hl hn n (i + 1) (acc ++ [l[i] % H32, l[i] / H32]) (by omega) (by simp [ha]; omega)
    have hx : isW l[i] := hl _ (List.getElem_mem _)
    have h1 := hx.1
    have h2 := hx.2
    rw [W64_eq] at h2
    rw [List.drop_eq_getElem_cons hi]
    have e : acc ++ digitsL (l[i] :: l.drop (i + 1)) = (acc ++ [l[i] % H32, l[i] / H32]) ++ digitsL (l.drop (i + 1)) := by simp [digitsL]
    rw [e]
    refine Ev.step (fun k => ?_) ih
    have hg : l.getD i 0 = l[i] := by simp [List.getD_eq_getElem?_getD, List.getElem?_eq_getElem hi]
    have e1 : wrap64 ((i : Int) + 1) = ((i + 1 : Nat) : Int) := by rw [← w64_nat (i + 1) (by omega)]; rfl
    rw [reckonerref01_Digits.l0, if_pos (by omega), if_pos (by omega), Option.bind_some, if_pos (by simp; omega), rd_nat, hg, e1, tmodH _ h1, tdivH _ h1, wrapW _ (by rw [H32_eq]; omega) (by rw [H32_eq]; omega)]
theorem Digits_ev (l : List Int) (hl : inW l) (hn : l.length ≤ 1000000) : Ev (fun k => reckonerref01_Digits.f k l) (digitsL l) := by
  have h := Digits_loop l hl hn l.length 0 [] (by omega) rfl
  rw [List.drop_zero, List.nil_append] at h
  exact h
/-! ### a row of digits -/
def rowL : List Int → List Int
  | a :: b :: l => (a + b * H32) :: rowL l
  | _ => []
theorem rowL_in : ∀ {d}, inB H32 d → inW (rowL d)
  | [], _ => inW_nil
  | [_], _ => inW_nil
  | a :: b :: l, h => by
    have h1 := inB_cons.1 h
    have h2 := inB_cons.1 h1.2
    have h3 := h1.1
    have h4 := h2.1
    rw [H32_eq] at h3 h4
    exact inW_cons.2 ⟨by unfold isW; rw [H32_eq, W64_eq]; omega, rowL_in h2.2⟩
theorem rowL_length : ∀ d, (rowL d).length = d.length / 2
  | [] => rfl
  | [_] => by simp [rowL]
  | a :: b :: l => by
    have h := rowL_length l
    show (rowL l).length + 1 = (l.length + 1 + 1) / 2
    omega
theorem rowL_val : ∀ d, d.length % 2 = 0 → valB W64 (rowL d) = valB H32 d
  | [], _ => rfl
  | [_], h => by simp at h
  | a :: b :: l, h => by
    show a + b * H32 + W64 * valB W64 (rowL l) = a + H32 * (b + H32 * valB H32 l)
    rw [rowL_val l (by simp at h; omega), Int.mul_add, ← Int.mul_assoc, H32_sq, Int.mul_comm b]
    omega
theorem Row_loop (d : List Int) (hd : inB H32 d) (hn : d.length ≤ 4000000) : ∀ n i acc, 2 * (i + n) = d.length ∨ 2 * (i + n) + 1 = d.length → acc.length = i → Ev (fun k => reckonerref01_Row.l0 k d acc ((2 * i : Nat) : Int)) (acc ++ rowL (d.drop (2 * i)))
  | 0, i, acc, h, _ => by
    have e : rowL (d.drop (2 * i)) = [] := by
      have h1 : (d.drop (2 * i)).length ≤ 1 := by rw [List.length_drop]; omega
      match hm : d.drop (2 * i), h1 with
      | [], _ => rfl
      | [_], _ => rfl
      | _ :: _ :: _, h1 => simp at h1
    rw [e, List.append_nil]
    refine Ev.now' fun k => ?_
    have e1 : wrap64 (((2 * i : Nat) : Int) + 1) = ((2 * i + 1 : Nat) : Int) := by rw [← w64_nat (2 * i + 1) (by omega)]; rfl
    rw [reckonerref01_Row.l0, e1, if_neg (by omega)]
  | n + 1, i, acc, h, ha => by
    have hi : 2 * i < d.length := by omega
    have hi1 : 2 * i + 1 < d.length := by omega
    have ih := Row_loop d hd hn n (i + 1) (acc ++ [d[2 * i] + d[2 * i + 1] * H32]) (by omega) (by simp [ha])
    have h1 := hd _ (List.getElem_mem hi)
    have h2 := hd _ (List.getElem_mem hi1)
    rw [H32_eq] at h1 h2
    rw [List.drop_eq_getElem_cons hi, List.drop_eq_getElem_cons hi1]
    have e : acc ++ rowL (d[2 * i] :: d[2 * i + 1] :: d.drop (2 * i + 1 + 1)) = (acc ++ [d[2 * i] + d[2 * i + 1] * H32]) ++ rowL (d.drop (2 * (i + 1))) := by simp [rowL, Nat.mul_add]
    rw [e]
    refine Ev.step (fun k => ?_) ih
    have hg : d.getD (2 * i) 0 = d[2 * i] := by simp [List.getD_eq_getElem?_getD, List.getElem?_eq_getElem hi]
    have hg1 : d.getD (2 * i + 1) 0 = d[2 * i + 1] := by simp [List.getD_eq_getElem?_getD, List.getElem?_eq_getElem hi1]
    have e1 : wrap64 (((2 * i : Nat) : Int) + 1) = ((2 * i + 1 : Nat) : Int) := by rw [← w64_nat (2 * i + 1) (by omega)]; rfl
    have e2 : wrap64 (((2 * i : Nat) : Int) + 2) = ((2 * (i + 1) : Nat) : Int) := by rw [← w64_nat (2 * (i + 1)) (by omega)]; rfl
    rw [reckonerref01_Row.l0, e1, if_pos (by omega), if_pos (by omega), if_pos (by omega), if_pos (by omega), if_pos (by omega), rd_nat, rd_nat, hg, hg1, e2, wrapW (d[2 * i + 1] * 4294967296) (by omega) (by omega), wrapW _ (by omega) (by omega)]
    rfl
theorem Row_ev (d : List Int) (hd : inB H32 d) (hn : d.length ≤ 4000000) : Ev (fun k => reckonerref01_Row.f k d) (rowL d) := by
  have h := Row_loop d hd hn (d.length / 2) 0 [] (by omega) rfl
  rw [List.drop_zero, List.nil_append] at h
  exact h
/-! ### a digit, 0 beyond the end -/
theorem digit_some (a : List Int) (i : Nat) : reckonerref01_digit.f a (i : Int) = some (a.getD i 0) := by
  unfold reckonerref01_digit.f
  by_cases h : i < a.length
  · rw [if_pos (by omega), if_pos (by omega), rd_nat]
  · rw [if_neg (by omega)]
    simp [List.getD_eq_getElem?_getD, List.getElem?_eq_none (by omega : a.length ≤ i)]
/-! ### sums -/
def plusS (a b : List Int) (i : Nat) (c : Int) : Int × Int := ((c + a.getD i 0 + b.getD i 0) % H32, (c + a.getD i 0 + b.getD i 0) / H32)
theorem plusS_ok {a b : List Int} (ha : inB H32 a) (hb : inB H32 b) (i : Nat) {c : Int} (hc : 0 ≤ c ∧ c ≤ 1) :
    (0 ≤ (plusS a b i c).2 ∧ (plusS a b i c).2 ≤ 1) ∧ (0 ≤ (plusS a b i c).1 ∧ (plusS a b i c).1 < H32) ∧ (plusS a b i c).1 + H32 * (1 * (plusS a b i c).2) = (a.getD i 0 + b.getD i 0) + 1 * c := by
  have h1 := inB_getD H32_pos ha i
  have h2 := inB_getD H32_pos hb i
  unfold plusS
  simp only [H32_eq] at *
  omega
theorem Plus_loop (a b : List Int) (ha : inB H32 a) (hb : inB H32 b) (hn : a.length ≤ 4000000) (hm : b.length ≤ 4000000) : ∀ n i c (acc : List Int), i + n = max a.length b.length → acc.length = i → 0 ≤ c ∧ c ≤ 1 →
    Ev (fun k => reckonerref01_Plus.l0 k a b acc c (i : Int)) (acc ++ (carryL (plusS a b) n i c).1 ++ [(carryL (plusS a b) n i c).2])
  | 0, i, c, acc, h, hacc, hc => by
    refine Ev.step (f := fun k => reckonerref01_Plus.j1 k a b acc c (i : Int) false) (fun k => ?_) (Ev.now' fun k => ?_)
    · rw [reckonerref01_Plus.l0, if_neg (by omega)]
      have e : decide ((i : Int) < (b.length : Int)) = false := decide_eq_false (by omega)
      rw [e]
    · rw [reckonerref01_Plus.j1, if_neg (by decide), if_pos (by omega)]
      simp [carryL]
  | n + 1, i, c, acc, h, hacc, hc => by
    have q1 : acc.length < 17592186044416 := by omega
    have q2 : ¬ (i : Int) < (a.length : Int) → (i : Int) < (b.length : Int) := by omega
    have h1 := inB_getD H32_pos ha i
    have h2 := inB_getD H32_pos hb i
    rw [H32_eq] at h1 h2
    have q3 : IntKind.u64.wrap (c + a.getD i 0) = c + a.getD i 0 := wrapW _ (by omega) (by omega)
    have q4 : 0 ≤ c + a.getD i 0 + b.getD i 0 ∧ c + a.getD i 0 + b.getD i 0 < 18446744073709551616 := by omega
    have q5 : 0 ≤ (c + a.getD i 0 + b.getD i 0) / H32 ∧ (c + a.getD i 0 + b.getD i 0) / H32 < 18446744073709551616 := by rw [H32_eq]; omega
    have e1 : wrap64 ((i : Int) + 1) = ((i + 1 : Nat) : Int) := by rw [← w64_nat (i + 1) (by omega)]; rfl
    obtain ⟨k1, k2, _⟩ := plusS_ok ha hb i hc
    have ih := Plus_loop a b ha hb hn hm n (i + 1) (plusS a b i c).2 (acc ++ [(plusS a b i c).1]) (by omega) (by simp [hacc]) k1
    have e : acc ++ (carryL (plusS a b) (n + 1) i c).1 ++ [(carryL (plusS a b) (n + 1) i c).2] = (acc ++ [(plusS a b i c).1]) ++ (carryL (plusS a b) n (i + 1) (plusS a b i c).2).1 ++ [(carryL (plusS a b) n (i + 1) (plusS a b i c).2).2] := by simp [carryL]
    rw [e]
    refine Ev.step (f := fun k => reckonerref01_Plus.j1 k a b acc c (i : Int) true) (fun k => ?_) (Ev.step (fun k => ?_) ih)
    · show reckonerref01_Plus.l0 (k + 1) a b acc c (i : Int) = reckonerref01_Plus.j1 k a b acc c (i : Int) true
      rw [reckonerref01_Plus.l0]
      by_cases hl : (i : Int) < (a.length : Int)
      · exact if_pos hl
      · have e : decide ((i : Int) < (b.length : Int)) = true := decide_eq_true (q2 hl)
        exact (if_neg hl).trans (by rw [e])
    · rw [reckonerref01_Plus.j1, if_pos rfl, digit_some, digit_some, Option.bind_some, Option.bind_some, if_pos q1, e1, q3, wrapW _ q4.1 q4.2, tmodH _ q4.1, tdivH _ q4.1, wrapW _ q5.1 q5.2]
      rfl
/-- A sum of digits. -/
theorem Plus_ev (a b : List Int) (ha : inB H32 a) (hb : inB H32 b) (hn : a.length ≤ 4000000) (hm : b.length ≤ 4000000) :
    ∃ r, Ev (fun k => reckonerref01_Plus.f k a b) r ∧ inB H32 r ∧ r.length = max a.length b.length + 1 ∧ valB H32 r = valB H32 a + valB H32 b := by
  have h := Plus_loop a b ha hb hn hm (max a.length b.length) 0 0 [] (by omega) rfl ⟨Int.le_refl 0, by decide⟩
  obtain ⟨k1, k2, k3⟩ := carryL_val H32 (plusS a b) (fun i => a.getD i 0 + b.getD i 0) 1 (fun c => 0 ≤ c ∧ c ≤ 1) (max a.length b.length) 0 0 ⟨Int.le_refl 0, by decide⟩ (fun j _ _ c hc => plusS_ok ha hb j hc)
  have kl := carryL_length (plusS a b) (max a.length b.length) 0 0
  rw [List.nil_append] at h
  refine ⟨_, h, inB_append.2 ⟨k2, inB_cons.2 ⟨⟨k1.1, by have := k1.2; rw [H32_eq]; omega⟩, inB_nil⟩⟩, by simp [kl], ?_⟩
  rw [valB_append, kl]
  rw [sumB_add, sumB_pad H32 a _ (Nat.le_max_left _ _), sumB_pad H32 b _ (Nat.le_max_right _ _)] at k3
  simp only [valB, Int.mul_zero, Int.add_zero, Int.one_mul] at k3 ⊢
  exact k3
/-! ### differences -/
/-! ### two rows the same -/
theorem Same_loop (a b : List Int) (hl : a.length = b.length) (hn : a.length ≤ 1000000) : ∀ n i, i + n = a.length → a.take i = b.take i → Ev (fun k => reckonerref01_Same.l0 k a b (i : Int)) (decide (a = b))
  | 0, i, h, ht => by
    refine Ev.now' fun k => ?_
    rw [List.take_of_length_le (by omega), List.take_of_length_le (by omega)] at ht
    rw [reckonerref01_Same.l0, if_neg (by omega), decide_eq_true ht]
  | n + 1, i, h, ht => by
    have e1 : wrap64 ((i : Int) + 1) = ((i + 1 : Nat) : Int) := by rw [← w64_nat (i + 1) (by omega)]; rfl
    have hi : i < a.length := by omega
    have hi' : i < b.length := by omega
    have ga : a.getD i 0 = a[i] := by simp [List.getD_eq_getElem?_getD, List.getElem?_eq_getElem hi]
    have gb : b.getD i 0 = b[i] := by simp [List.getD_eq_getElem?_getD, List.getElem?_eq_getElem hi']
    by_cases hs : a[i] = b[i]
    · refine Ev.step (fun k => ?_) (Same_loop a b hl hn n (i + 1) (by omega) ?_)
      · rw [reckonerref01_Same.l0, if_pos (by omega), if_pos (by omega), if_pos (by omega), rd_nat, rd_nat, ga, gb, if_pos hs, e1]
      · rw [List.take_succ_eq_append_getElem hi, List.take_succ_eq_append_getElem hi', ht, hs]
    · refine Ev.now' fun k => ?_
      rw [reckonerref01_Same.l0, if_pos (by omega), if_pos (by omega), if_pos (by omega), rd_nat, rd_nat, ga, gb, if_neg hs]
      rw [decide_eq_false]
      rintro rfl
      exact hs rfl
theorem RSame_ev (a b : List Int) (hn : a.length ≤ 1000000) : Ev (fun k => reckonerref01_Same.f k a b) (decide (a = b)) := by
  by_cases hl : a.length = b.length
  · refine Ev.congr (fun k => ?_) (Same_loop a b hl hn a.length 0 (by omega) rfl)
    show reckonerref01_Same.f k a b = _
    unfold reckonerref01_Same.f
    rw [if_pos (by omega)]
    rfl
  · refine Ev.congr (f := fun _ => some (decide (a = b))) (fun k => ?_) (Ev.now _)
    show reckonerref01_Same.f k a b = _
    unfold reckonerref01_Same.f
    rw [if_neg (by omega), decide_eq_false (fun e => hl (by rw [e]))]
end Go.Proofs.Ytkkkbalefnileaa.Ex
/- The reference's Cut, Add, Sub (printed in Tx1, Tx2), and the row functions' results in values. -/
namespace Go.Proofs.Ytkkkbalefnileaa.Ex
open Go.RowKit Go.Proofs.YtkkkbalefnileaaW.PrintWords Go.Proofs.YtkkkbalefnileaaW.PrintLast Go.Proofs.YtkkkbalefnileaaW.PrintMore Go.Proofs.Ytkkkbalefnileaa.T
set_option linter.unusedVariables false
set_option linter.unusedSimpArgs false

theorem H32_pow (n : Nat) : H32 ^ (2 * n) = W64 ^ n := by
  rw [Int.pow_mul, show H32 ^ 2 = W64 by decide]
/-- The value of a row's two highest digits. -/
theorem getD_two {d : List Int} (n : Nat) (h : n + 2 ≤ d.length) : d.drop n = d.getD n 0 :: d.getD (n + 1) 0 :: d.drop (n + 2) := by
  have h1 : n < d.length := by omega
  have h2 : n + 1 < d.length := by omega
  rw [List.drop_eq_getElem_cons h1, List.drop_eq_getElem_cons h2]
  simp [List.getD_eq_getElem?_getD, List.getElem?_eq_getElem h1, List.getElem?_eq_getElem h2]
/-- What Cut makes of digits that are enough. -/
theorem Cut_done (d : List Int) (hd : inB H32 d) (n : Nat) (hn : n ≤ 1000000) (hm : d.length ≤ 4000000) (hl : 2 * n + 2 ≤ d.length) :
    Ev (fun k => reckonerref01_Cut.l0 k (n : Int) d) (rowL (d.take (2 * n)), d.getD (2 * n) 0 + d.getD (2 * n + 1) 0 * H32) := by
  have e1 : wrap64 (2 * (n : Int)) = ((2 * n : Nat) : Int) := by rw [← w64_nat (2 * n) (by omega)]; rfl
  have e2 : wrap64 (((2 * n : Nat) : Int) + 2) = ((2 * n + 2 : Nat) : Int) := by rw [← w64_nat (2 * n + 2) (by omega)]; rfl
  have e3 : wrap64 (((2 * n : Nat) : Int) + 1) = ((2 * n + 1 : Nat) : Int) := by rw [← w64_nat (2 * n + 1) (by omega)]; rfl
  have h1 := inB_getD H32_pos hd (2 * n)
  have h2 := inB_getD H32_pos hd (2 * n + 1)
  rw [H32_eq] at h1 h2
  have q1 : ¬ (d.length : Int) < ((2 * n + 2 : Nat) : Int) := by omega
  have q2 : (0 : Int) ≤ ((2 * n : Nat) : Int) := by omega
  have q3 : ((2 * n : Nat) : Int) ≤ (d.length : Int) := by omega
  have q4 : ((2 * n : Nat) : Int) < (d.length : Int) := by omega
  have q5 : (0 : Int) ≤ ((2 * n + 1 : Nat) : Int) := by omega
  have q6 : ((2 * n + 1 : Nat) : Int) < (d.length : Int) := by omega
  have q7 : IntKind.u64.wrap (d.getD (2 * n + 1) 0 * 4294967296) = d.getD (2 * n + 1) 0 * 4294967296 := wrapW _ (by omega) (by omega)
  have q8 : IntKind.u64.wrap (d.getD (2 * n) 0 + d.getD (2 * n + 1) 0 * 4294967296) = d.getD (2 * n) 0 + d.getD (2 * n + 1) 0 * 4294967296 := wrapW _ (by omega) (by omega)
  have hR := Row_ev (d.take (2 * n)) (inB_take hd _) (by rw [List.length_take]; omega)
  refine Ev.step (f := fun k => (reckonerref01_Row.f k (d.take (2 * n))).bind fun t => some (t, d.getD (2 * n) 0 + d.getD (2 * n + 1) 0 * H32)) (fun k => ?_) (Ev.bind hR (Ev.now _))
  rw [reckonerref01_Cut.l0, e1, e2, e3, if_neg q1, if_pos q2, if_pos q3, Int.toNat_natCast]
  simp only [if_pos q4, if_pos q5, if_pos q6, rd_nat, q7, q8]
  rfl
/-- Cut: the row of n words, and the word above it; what digits there are beyond that is left out. -/
theorem Cut_loop (n : Nat) (hn : n ≤ 1000000) : ∀ m (d : List Int), inB H32 d → d.length ≤ 4000000 → 2 * n + 2 - d.length = m →
    ∃ r t, Ev (fun k => reckonerref01_Cut.l0 k (n : Int) d) (r, t) ∧ inW r ∧ r.length = n ∧ isW t ∧ valB W64 r + W64 ^ n * t = valB H32 d % (W64 ^ n * W64)
  | 0, d, hd, hm, hl => by
    have h1 := inB_getD H32_pos hd (2 * n)
    have h2 := inB_getD H32_pos hd (2 * n + 1)
    have hl2 : 2 * n + 2 ≤ d.length := by omega
    have hlt : (d.take (2 * n)).length = 2 * n := by rw [List.length_take]; omega
    refine ⟨_, _, Cut_done d hd n hn hm hl2, rowL_in (inB_take hd _), by rw [rowL_length, hlt]; omega, ?_, ?_⟩
    · rw [H32_eq] at h1 h2
      unfold isW
      rw [H32_eq, W64_eq]
      omega
    · rw [rowL_val _ (by rw [hlt]; omega)]
      have e1 : W64 ^ n * W64 = H32 ^ (2 * n + 2) := by rw [show 2 * n + 2 = 2 * (n + 1) by omega, H32_pow, Int.pow_succ]
      rw [e1, ← valB_take H32_pos hd (2 * n + 2) hl2, valB_split H32 (d.take (2 * n + 2)) (2 * n) (by rw [List.length_take]; omega), List.take_take, Nat.min_eq_left (by omega : 2 * n ≤ 2 * n + 2), H32_pow]
      congr 1
      have e2 : (d.take (2 * n + 2)).drop (2 * n) = [d.getD (2 * n) 0, d.getD (2 * n + 1) 0] := by
        rw [List.drop_take, getD_two (2 * n) hl2]
        simp
      rw [e2]
      congr 1
      simp [valB, Int.mul_comm]
  | m + 1, d, hd, hm, hl => by
    have e1 : wrap64 (2 * (n : Int)) = ((2 * n : Nat) : Int) := by rw [← w64_nat (2 * n) (by omega)]; rfl
    have e2 : wrap64 (((2 * n : Nat) : Int) + 2) = ((2 * n + 2 : Nat) : Int) := by rw [← w64_nat (2 * n + 2) (by omega)]; rfl
    have q1 : (d.length : Int) < ((2 * n + 2 : Nat) : Int) := by omega
    have q2 : d.length < 17592186044416 := by omega
    have ho : inB H32 (d ++ [0]) := inB_append.2 ⟨hd, inB_cons.2 ⟨⟨Int.le_refl 0, H32_pos⟩, inB_nil⟩⟩
    obtain ⟨r, t, h1, h2⟩ := Cut_loop n hn m (d ++ [0]) ho (by simp; omega) (by simp; omega)
    refine ⟨r, t, Ev.step (fun k => ?_) h1, ?_⟩
    · rw [reckonerref01_Cut.l0, e1, e2, if_pos q1, if_pos q2]
    · have e3 : valB H32 (d ++ [0]) = valB H32 d := by rw [valB_append]; simp [valB]
      rw [e3] at h2
      exact h2
theorem Cut_ev (n : Nat) (hn : n ≤ 1000000) (d : List Int) (hd : inB H32 d) (hm : d.length ≤ 4000000) :
    ∃ r t, Ev (fun k => reckonerref01_Cut.f k d (n : Int)) (r, t) ∧ inW r ∧ r.length = n ∧ isW t ∧ valB W64 r + W64 ^ n * t = valB H32 d % (W64 ^ n * W64) := by
  obtain ⟨r, t, h1, h2⟩ := Cut_loop n hn _ d hd hm rfl
  refine ⟨r, t, ?_, h2⟩
  have q : (([] : List Int).length + d.length < 17592186044416) := by simp; omega
  refine Ev.congr (fun k => ?_) h1
  show reckonerref01_Cut.f k d (n : Int) = _
  unfold reckonerref01_Cut.f
  rw [if_pos q, List.nil_append]
end Go.Proofs.Ytkkkbalefnileaa.Ex
/- The reference's Word and Times (printed in Tx4, Tx5). -/
namespace Go.Proofs.Ytkkkbalefnileaa.Ex
open Go.RowKit Go.Proofs.YtkkkbalefnileaaW.PrintWords Go.Proofs.YtkkkbalefnileaaW.PrintLast Go.Proofs.YtkkkbalefnileaaW.PrintMore Go.Proofs.Ytkkkbalefnileaa.T
set_option linter.unusedVariables false
set_option linter.unusedSimpArgs false

theorem w64_add (a b : Nat) (h : a + b < 4611686018427387904) : wrap64 ((a : Int) + (b : Int)) = ((a + b : Nat) : Int) := by rw [← Int.natCast_add]; exact w64_nat (a + b) h
theorem w64_sub1 (n : Nat) (h : n < 4611686018427387904) : wrap64 (((n + 1 : Nat) : Int) - 1) = (n : Int) := by rw [← w64_nat n h]; congr 1; omega
theorem lin5 (u v o c p : Int) (h : u + v = c + o + p) : (u - o) + v = c + p := by omega
theorem Word_some (w : Int) (hw : isW w) : reckonerref01_Word.f w = some [w % H32, w / H32] := by
  have h0 := hw.1
  have h1 := hw.2
  rw [W64_eq] at h1
  have q : 0 ≤ w / H32 ∧ w / H32 < 18446744073709551616 := by rw [H32_eq]; omega
  unfold reckonerref01_Word.f
  rw [tmodH _ h0, tdivH _ h0, wrapW _ q.1 q.2]
theorem word_in (w : Int) (hw : isW w) : inB H32 [w % H32, w / H32] := digitsL_in (inW_cons.2 ⟨hw, inW_nil⟩)
theorem word_val (w : Int) : valB H32 [w % H32, w / H32] = w := by
  have h := digitsL_val [w]
  simpa [digitsL, valB] using h
/-- What holds of a product's digits between two rounds. -/
structure Prod (a b out : List Int) (i : Nat) : Prop where
  len : out.length = a.length + b.length
  dig : inB H32 out
  zero : ∀ j, i + b.length ≤ j → out.getD j 0 = 0
theorem getD_set (l : List Int) (i j : Nat) (x : Int) : (l.set i x).getD j 0 = if i = j ∧ i < l.length then x else l.getD j 0 := by
  simp only [List.getD_eq_getElem?_getD, List.getElem?_set]
  by_cases h : i = j
  · subst h
    by_cases h1 : i < l.length
    · simp [h1]
    · simp [h1]
  · simp [h]
def Good (a b r : List Int) : Prop := inB H32 r ∧ r.length = a.length + b.length ∧ valB H32 r = valB H32 a * valB H32 b
theorem Times_inner (a b : List Int) (ha : inB H32 a) (hb : inB H32 b) (hn : a.length ≤ 1000000) (hm : b.length ≤ 1000000) (i : Nat) (hi : i < a.length)
    (hO : ∀ out, Prod a b out (i + 1) → valB H32 out = valB H32 (a.take (i + 1)) * valB H32 b → ∃ r, Ev (fun k => reckonerref01_Times.l0 k a b out ((i + 1 : Nat) : Int)) r ∧ Good a b r) :
    ∀ (n kk : Nat) (out : List Int) (c : Int), kk + n = b.length → Prod a b out i → (0 ≤ c ∧ c < H32) → valB H32 out + H32 ^ (i + kk) * c = valB H32 (a.take i) * valB H32 b + H32 ^ i * (a.getD i 0 * valB H32 (b.take kk)) →
      ∃ r, Ev (fun k => reckonerref01_Times.l1 k a b out (i : Int) c (kk : Int)) r ∧ Good a b r
  | 0, kk, out, c, hk, hP, hc, hv => by
    have HV := Aside0.mk hv
    clear hv
    obtain rfl : kk = b.length := by omega
    have hlen := hP.len
    have q1 : i + b.length < out.length := by omega
    have q2 : ¬ (b.length : Int) < (b.length : Int) := by omega
    have q3 : (0 : Int) ≤ ((i + b.length : Nat) : Int) := by omega
    have q4 : ((i + b.length : Nat) : Int) < (out.length : Int) := by omega
    have e1 : wrap64 ((i : Int) + (b.length : Int)) = ((i + b.length : Nat) : Int) := w64_add i b.length (by omega)
    have e2 : wrap64 ((i : Int) + 1) = ((i + 1 : Nat) : Int) := by rw [← w64_nat (i + 1) (by omega)]; rfl
    have hz := hP.zero (i + b.length) (Nat.le_refl _)
    obtain ⟨r, h1, h2⟩ := hO (out.set (i + b.length) c) ⟨by rw [List.length_set]; exact hlen, inB_set hP.dig _ hc, fun j hj => by
        rw [getD_set, if_neg (by omega)]
        exact hP.zero j (by omega)⟩ (by
        rw [valB_set H32 out _ c q1, hz, Int.sub_zero, HV.out, valB_take_succ H32 a i hi, List.take_of_length_le (Nat.le_refl _), Int.add_mul, Int.mul_assoc])
    refine ⟨r, Ev.step (fun k => ?_) h1, h2⟩
    rw [reckonerref01_Times.l1, if_neg q2, e1, if_pos q3, if_pos q4, Int.toNat_natCast, e2]
  | n + 1, kk, out, c, hk, hP, hc, hv => by
    have HV := Aside0.mk hv
    clear hv
    have hlen := hP.len
    have hk' : kk + 1 + n = b.length := by omega
    have hjj : ∀ j, i + b.length ≤ j → ¬ (i + kk = j ∧ i + kk < out.length) := by omega
    have hkb : kk < b.length := by omega
    have e1 : wrap64 ((i : Int) + (kk : Int)) = ((i + kk : Nat) : Int) := w64_add i kk (by omega)
    have e2 : wrap64 ((kk : Int) + 1) = ((kk + 1 : Nat) : Int) := by rw [← w64_nat (kk + 1) (by omega)]; rfl
    have q1 : (kk : Int) < (b.length : Int) := by omega
    have q2 : (0 : Int) ≤ ((i + kk : Nat) : Int) := by omega
    have q3 : ((i + kk : Nat) : Int) < (out.length : Int) := by omega
    have q4 : (0 : Int) ≤ (i : Int) := by omega
    have q5 : (i : Int) < (a.length : Int) := by omega
    have q6 : (0 : Int) ≤ (kk : Int) := by omega
    have q7 : i + kk < out.length := by omega
    have h1 := inB_getD H32_pos ha i
    have h2 := inB_getD H32_pos hb kk
    have h3 := inB_getD H32_pos hP.dig (i + kk)
    rw [H32_eq] at h1 h2 h3 hc
    have hmul : a.getD i 0 * b.getD kk 0 ≤ 18446744065119617025 := Int.le_trans (Int.mul_le_mul (show a.getD i 0 ≤ 4294967295 by omega) (show b.getD kk 0 ≤ 4294967295 by omega) h2.1 (by decide)) (by decide)
    have hmul0 : 0 ≤ a.getD i 0 * b.getD kk 0 := Int.mul_nonneg h1.1 h2.1
    obtain ⟨p, hp⟩ : ∃ p, p = a.getD i 0 * b.getD kk 0 := ⟨_, rfl⟩
    rw [← hp] at hmul hmul0
    have HPP := Aside0.mk hp
    clear hp
    have w1 : IntKind.u64.wrap (c + out.getD (i + kk) 0) = c + out.getD (i + kk) 0 := wrapW _ (by omega) (by omega)
    have w2 : IntKind.u64.wrap p = p := wrapW _ (by omega) (by omega)
    have w3 : 0 ≤ c + out.getD (i + kk) 0 + p ∧ c + out.getD (i + kk) 0 + p < 18446744073709551616 := by omega
    have w4 : 0 ≤ (c + out.getD (i + kk) 0 + p) / H32 ∧ (c + out.getD (i + kk) 0 + p) / H32 < 4294967296 := by rw [H32_eq]; omega
    have w5 : (c + out.getD (i + kk) 0 + p) / H32 < 18446744073709551616 := by omega
    have w6 : 0 ≤ (c + out.getD (i + kk) 0 + p) % H32 ∧ (c + out.getD (i + kk) 0 + p) % H32 < H32 := by rw [H32_eq]; omega
    have hdm := Int.emod_add_mul_ediv (c + out.getD (i + kk) 0 + p) H32
    obtain ⟨r, k1, k2⟩ := Times_inner a b ha hb hn hm i hi hO n (kk + 1) (out.set (i + kk) ((c + out.getD (i + kk) 0 + p) % H32)) ((c + out.getD (i + kk) 0 + p) / H32) hk'
      ⟨by rw [List.length_set]; exact hlen, inB_set hP.dig _ w6, fun j hj => by rw [getD_set, if_neg (hjj j hj)]; exact hP.zero j hj⟩ w4 (by
        rw [valB_set H32 out _ _ q7, valB_take_succ H32 b kk hkb, Int.mul_add (a.getD i 0), Int.mul_add (H32 ^ i), ← Int.add_assoc, ← HV.out]
        have e4 : H32 ^ i * (a.getD i 0 * (H32 ^ kk * b.getD kk 0)) = H32 ^ (i + kk) * p := by
          rw [HPP.out, Int.pow_add, Int.mul_left_comm (a.getD i 0), ← Int.mul_assoc]
        have e5 : H32 ^ (i + (kk + 1)) = H32 ^ (i + kk) * H32 := by rw [← Nat.add_assoc, Int.pow_succ]
        have e6 : H32 ^ (i + kk) * ((c + out.getD (i + kk) 0 + p) % H32 - out.getD (i + kk) 0) + H32 ^ (i + kk) * H32 * ((c + out.getD (i + kk) 0 + p) / H32) = H32 ^ (i + kk) * c + H32 ^ (i + kk) * p := by
          rw [Int.mul_assoc, ← Int.mul_add, ← Int.mul_add, lin5 _ _ _ _ _ hdm]
        rw [e4, e5, Int.add_assoc (valB H32 out), e6, ← Int.add_assoc])
    refine ⟨r, Ev.step (fun k => ?_) k1, k2⟩
    rw [reckonerref01_Times.l1, if_pos q1, e1, if_pos q2, if_pos q3, if_pos q4, if_pos q5, if_pos q6, rd_nat, rd_nat, rd_nat, ← HPP.out, w1, w2, wrapW _ w3.1 w3.2, tmodH _ w3.1, tdivH _ w3.1, wrapW _ w4.1 w5, e2, Int.toNat_natCast]
theorem Times_outer (a b : List Int) (ha : inB H32 a) (hb : inB H32 b) (hn : a.length ≤ 1000000) (hm : b.length ≤ 1000000) : ∀ (m i : Nat) (out : List Int), i + m = a.length → Prod a b out i → valB H32 out = valB H32 (a.take i) * valB H32 b →
      ∃ r, Ev (fun k => reckonerref01_Times.l0 k a b out (i : Int)) r ∧ Good a b r
  | 0, i, out, hi, hP, hv => by
    have q0 : a.length ≤ i := by clear hv; omega
    have q1 : ¬ (i : Int) < (a.length : Int) := by clear hv; omega
    rw [List.take_of_length_le q0] at hv
    exact ⟨out, Ev.now' fun k => by rw [reckonerref01_Times.l0, if_neg q1], hP.dig, hP.len, hv⟩
  | m + 1, i, out, hi, hP, hv => by
    have q1 : (i : Int) < (a.length : Int) := by clear hv; omega
    have q2 : i < a.length := by clear hv; omega
    have q3 : i + 1 + m = a.length := by clear hv; omega
    obtain ⟨r, h1, h2⟩ := Times_inner a b ha hb hn hm i q2 (fun out hP hv => Times_outer a b ha hb hn hm m (i + 1) out q3 hP hv) b.length 0 out 0 (Nat.zero_add _) hP ⟨Int.le_refl 0, H32_pos⟩ (by
      rw [List.take_zero]
      simp [valB, hv])
    exact ⟨r, Ev.step (fun k => by rw [reckonerref01_Times.l0, if_pos q1]; rfl) h1, h2⟩
/-- A product of digits. -/
theorem Times_ev (a b : List Int) (ha : inB H32 a) (hb : inB H32 b) (hn : a.length ≤ 1000000) (hm : b.length ≤ 1000000) : ∃ r, Ev (fun k => reckonerref01_Times.f k a b) r ∧ Good a b r := by
  obtain ⟨r, h1, h2⟩ := Times_outer a b ha hb hn hm a.length 0 (List.replicate (a.length + b.length) 0) (by omega)
    ⟨by simp, inB_zeros H32_pos _, fun j _ => by
        simp only [List.getD_eq_getElem?_getD, List.getElem?_replicate]
        split <;> rfl⟩ (by rw [valB_zeros, List.take_zero]; simp [valB])
  have e1 : wrap64 ((a.length : Int) + (b.length : Int)) = ((a.length + b.length : Nat) : Int) := w64_add a.length b.length (by omega)
  have q1 : (0 : Int) ≤ ((a.length + b.length : Nat) : Int) := by omega
  have q2 : a.length + b.length ≤ 35184372088832 := by omega
  refine ⟨r, Ev.congr (fun k => ?_) h1, h2⟩
  show reckonerref01_Times.f k a b = _
  unfold reckonerref01_Times.f
  rw [e1, if_pos q1, Int.toNat_natCast, if_pos q2]
  rfl
end Go.Proofs.Ytkkkbalefnileaa.Ex
/- The reference's Short, one and Divide (printed in Tx6). -/
namespace Go.Proofs.Ytkkkbalefnileaa.Ex
open Go.RowKit Go.Proofs.YtkkkbalefnileaaW.PrintWords Go.Proofs.YtkkkbalefnileaaW.PrintLast Go.Proofs.YtkkkbalefnileaaW.PrintMore Go.Proofs.Ytkkkbalefnileaa.T
set_option linter.unusedVariables false
set_option linter.unusedSimpArgs false


/-! ### Short -/
theorem Short_stop (a : List Int) (n : Nat) (hn : n ≤ a.length) : (if 0 ≤ (n : Int) then (if (n : Int) ≤ (a.length : Int) then (some (a.take ((n : Int) : Int).toNat)) else (none)) else (none)) = some (a.take n) := by
  rw [if_pos (by omega), if_pos (by omega), Int.toNat_natCast]
theorem Short_loop (a : List Int) (hn : a.length ≤ 4000000) : ∀ n, n ≤ a.length → valB H32 (a.take n) = valB H32 a →
    ∃ m, m ≤ a.length ∧ Ev (fun k => reckonerref01_Short.l0 k a (n : Int)) (a.take m) ∧ valB H32 (a.take m) = valB H32 a ∧ (m = 0 ∨ a.getD (m - 1) 0 ≠ 0)
  | 0, h, hv => ⟨0, h, Ev.now' fun k => by
      have q : ¬ (((0 : Nat) : Int) > 0) := by decide
      rw [reckonerref01_Short.l0, if_neg q]
      exact Short_stop a 0 h, hv, Or.inl rfl⟩
  | n + 1, h, hv => by
    have q1 : (((n + 1 : Nat) : Int) > 0) := by omega
    have q2 : (0 : Int) ≤ (n : Int) := by omega
    have q3 : (n : Int) < (a.length : Int) := by omega
    have e1 := w64_sub1 n (by omega)
    by_cases hz : a.getD n 0 = 0
    · obtain ⟨m, m1, m2, m3⟩ := Short_loop a hn n (by omega) (by rw [← hv, valB_take_succ H32 a n (by omega), hz, Int.mul_zero, Int.add_zero])
      refine ⟨m, m1, Ev.step (fun k => ?_) m2, m3⟩
      rw [reckonerref01_Short.l0, if_pos q1, e1, if_pos q2, if_pos q3, rd_nat, if_pos hz]
    · refine ⟨n + 1, h, Ev.now' fun k => ?_, hv, Or.inr hz⟩
      rw [reckonerref01_Short.l0, if_pos q1, e1, if_pos q2, if_pos q3, rd_nat, if_neg hz]
      exact Short_stop a (n + 1) h
theorem Short_ev (a : List Int) (hn : a.length ≤ 4000000) : ∃ m, m ≤ a.length ∧ Ev (fun k => reckonerref01_Short.f k a) (a.take m) ∧ valB H32 (a.take m) = valB H32 a ∧ (m = 0 ∨ a.getD (m - 1) 0 ≠ 0) :=
  Short_loop a hn a.length (Nat.le_refl _) (by rw [List.take_of_length_le (Nat.le_refl _)])
/-! ### by one digit -/
/-! ### Divide -/
end Go.Proofs.Ytkkkbalefnileaa.Ex
/- The reference's Divide: the digits from above, the scale, the whole. -/
namespace Go.Proofs.Ytkkkbalefnileaa.Ex
open Go.RowKit Go.Proofs.YtkkkbalefnileaaW.PrintWords Go.Proofs.YtkkkbalefnileaaW.PrintLast Go.Proofs.YtkkkbalefnileaaW.PrintMore Go.Proofs.Ytkkkbalefnileaa.T
set_option linter.unusedVariables false
set_option linter.unusedSimpArgs false

theorem pow_leB {n m : Nat} (h : n ≤ m) : H32 ^ n ≤ H32 ^ m := by
  obtain ⟨d, rfl⟩ : ∃ d, m = n + d := ⟨m - n, by omega⟩
  rw [Int.pow_add]
  have h1 := pow_posB H32_pos n
  have h2 := pow_posB H32_pos d
  have h3 : H32 ^ n * 1 ≤ H32 ^ n * H32 ^ d := Int.mul_le_mul_of_nonneg_left (by omega) (by omega)
  omega
end Go.Proofs.Ytkkkbalefnileaa.Ex
