/- WordsInverses, for every input: the inverse of any odd word, the reciprocal of any word from 2^63 on, and a quotient by it, or ErrArg. (Part 4 of 4.) -/
import Derived.Laws.Bits64b
import Derived.Test.YtldefhhfcbmbpaaDoorRows
import Derived.Test.YtldefhhfcbmbpaaDoorTie
import Derived.Test.YtldefhhfcbmbpaaDoorCards
import Derived.Deep.DeepHandedRow
import Derived.Lib.LaidTab
import Derived.SevenTiedAt
import Derived.LaidLaws
import Derived.WalkKit
import Derived.ProofKit
import Derived.OpenShut
import Derived.ShutString
import Derived.ChangeOld
import Derived.Below
import Derived.SizedLaws
import Derived.Test.YtldefhhfcbmbpaaDoorCInv2
-- PRINTED by print.py (a twelfth state) out of the translation. Not trusted: Lean checks it.
namespace Go.Proofs.YtldefhhfcbmbpaaDoor.T
open Go.RowKit Go.Proofs.YtldefhhfcbmbpaaDoorW.PrintWords Go.Proofs.YtldefhhfcbmbpaaDoorW.PrintLast Go.Proofs.YtldefhhfcbmbpaaDoorW.PrintMore
attribute [local go_sem] max2_int min2_int max_two min_two max_three min_three max_four min_four   -- for this text's walks alone
open YtldefhhfcbmbpaaDoor.Ex
set_option linter.unusedVariables false
set_option linter.unusedSimpArgs false

/-! ### reckonerlaw01_WordsInverses: function 7 -/
mutual
def reckonerlaw01_WordsInverses.l0 : Nat → Int → Int → Int → Int → Option (Bool)
  | 0, _, _, _, _ => none
  | k + 1, x0, x1, x2, x7 => if x7 < 2 then ((words_Inverse.f x0).bind fun bt652 => (if (Int.tmod x0 2) = 0 then (if bt652.2 = 1 then (if bt652.1 = 0 then (if (Int.tmod x0 2) = 1 then (if bt652.2 = 0 then ((reckonerref01_Inverse.f k x0).bind fun t654 => (reckonerlaw01_WordsInverses.j1 k x0 x1 x2 x7 (bt652.1 != t654))) else (reckonerlaw01_WordsInverses.j1 k x0 x1 x2 x7 true)) else (reckonerlaw01_WordsInverses.j1 k x0 x1 x2 x7 false)) else (reckonerlaw01_WordsInverses.j1 k x0 x1 x2 x7 true)) else (reckonerlaw01_WordsInverses.j1 k x0 x1 x2 x7 true)) else (if (Int.tmod x0 2) = 1 then (if bt652.2 = 0 then ((reckonerref01_Inverse.f k x0).bind fun t655 => (reckonerlaw01_WordsInverses.j1 k x0 x1 x2 x7 (bt652.1 != t655))) else (reckonerlaw01_WordsInverses.j1 k x0 x1 x2 x7 true)) else (reckonerlaw01_WordsInverses.j1 k x0 x1 x2 x7 false)))) else ((reckonerlaw01_awake.f k).bind fun t651 => (some t651))
def reckonerlaw01_WordsInverses.j1 : Nat → Int → Int → Int → Int → Bool → Option (Bool)
  | 0, _, _, _, _, _ => none
  | k + 1, x0, x1, x2, x7, x57 => if x57 = true then (none) else ((words_Reciprocal.f x0).bind fun bt656 => (if x0 < 9223372036854775808 then ((words_ByReciprocal.f x1 x2 x0 bt656.1).bind fun bt658 => (if bt656.2 = 1 then (if bt658.2.2 = 1 then (if bt656.1 = 0 then (if bt658.1 = 0 then (if bt658.2.1 = 0 then (if (Go.bits .or .u64 (Go.bits .or .u64 x0 1) 9223372036854775808) = 0 then (none) else (reckonerlaw01_WordsInverses.l0 k (Go.bits .or .u64 (Go.bits .or .u64 x0 1) 9223372036854775808) (Int.tmod x1 (Go.bits .or .u64 (Go.bits .or .u64 x0 1) 9223372036854775808)) x2 (wrap64 (x7 + 1)))) else (none)) else (none)) else (none)) else (none)) else (none))) else (if bt656.2 = 0 then ((reckonerref01_Reciprocal.f k x0).bind fun t661 => (reckonerlaw01_WordsInverses.j2 k x0 x1 x2 x7 bt656.1 (bt656.1 != t661))) else (reckonerlaw01_WordsInverses.j2 k x0 x1 x2 x7 bt656.1 true))))
def reckonerlaw01_WordsInverses.j2 : Nat → Int → Int → Int → Int → Int → Bool → Option (Bool)
  | 0, _, _, _, _, _, _ => none
  | k + 1, x0, x1, x2, x7, x10, x99 => if x99 = true then (none) else ((words_ByReciprocal.f x1 x2 x0 x10).bind fun bt662 => (if x1 ≥ x0 then (if bt662.2.2 = 1 then (if bt662.1 = 0 then (reckonerlaw01_WordsInverses.j3 k x0 x1 x2 x7 x10 (bt662.2.1 != 0)) else (reckonerlaw01_WordsInverses.j3 k x0 x1 x2 x7 x10 true)) else (reckonerlaw01_WordsInverses.j3 k x0 x1 x2 x7 x10 true)) else ((reckonerref01_Narrow.f k x1 x2 x0).bind fun bt668 => (if bt662.2.2 = 0 then (if bt662.1 = bt668.1 then (reckonerlaw01_WordsInverses.j4 k x0 x1 x2 x7 x10 (bt662.2.1 != bt668.2)) else (reckonerlaw01_WordsInverses.j4 k x0 x1 x2 x7 x10 true)) else (reckonerlaw01_WordsInverses.j4 k x0 x1 x2 x7 x10 true)))))
def reckonerlaw01_WordsInverses.j3 : Nat → Int → Int → Int → Int → Int → Bool → Option (Bool)
  | 0, _, _, _, _, _, _ => none
  | k + 1, x0, x1, x2, x7, x10, x121 => if x121 = true then (none) else (if x0 = 0 then (none) else ((words_ByReciprocal.f (Int.tmod x1 x0) x2 x0 (Go.bits .xor .u64 x10 1)).bind fun bt665 => (if bt665.2.2 = 1 then (if bt665.1 = 0 then (if bt665.2.1 = 0 then (if (Go.bits .or .u64 (Go.bits .or .u64 x0 1) 9223372036854775808) = 0 then (none) else (reckonerlaw01_WordsInverses.l0 k (Go.bits .or .u64 (Go.bits .or .u64 x0 1) 9223372036854775808) (Int.tmod x1 (Go.bits .or .u64 (Go.bits .or .u64 x0 1) 9223372036854775808)) x2 (wrap64 (x7 + 1)))) else (none)) else (none)) else (none))))
def reckonerlaw01_WordsInverses.j4 : Nat → Int → Int → Int → Int → Int → Bool → Option (Bool)
  | 0, _, _, _, _, _, _ => none
  | k + 1, x0, x1, x2, x7, x10, x140 => if x140 = true then (none) else (if x0 = 0 then (none) else ((words_ByReciprocal.f (Int.tmod x1 x0) x2 x0 (Go.bits .xor .u64 x10 1)).bind fun bt670 => (if bt670.2.2 = 1 then (if bt670.1 = 0 then (if bt670.2.1 = 0 then (if (Go.bits .or .u64 (Go.bits .or .u64 x0 1) 9223372036854775808) = 0 then (none) else (reckonerlaw01_WordsInverses.l0 k (Go.bits .or .u64 (Go.bits .or .u64 x0 1) 9223372036854775808) (Int.tmod x1 (Go.bits .or .u64 (Go.bits .or .u64 x0 1) 9223372036854775808)) x2 (wrap64 (x7 + 1)))) else (none)) else (none)) else (none))))
end
def reckonerlaw01_WordsInverses.f (k : Nat) (a0 : Int) (a1 : Int) (a2 : Int) : Option (Bool) := reckonerlaw01_WordsInverses.l0 k a0 a1 a2 0
set_option maxHeartbeats 8000000 in
set_option maxRecDepth 100000 in
theorem reckonerlaw01_WordsInverses.calls (k : Nat) (a0 : Int) (a1 : Int) (a2 : Int) (r : Bool) (w : World) (hg : Laid w) (h : reckonerlaw01_WordsInverses.f k a0 a1 a2 = some r) :
  Calls Tryd.prog 7 #[.int .u64 a0, .int .u64 a1, .int .u64 a2] w fun e w' => e = .returned (.bool r) ∧ Below w.heap.size w w' := by
 have HLd := Aside0.mk hg
 clear hg
 have HB := Aside0.mk (Below.refl w.heap.size w)
 have H : (reckonerlaw01_WordsInverses.l0 k a0 a1 a2 0) = some r := h
 clear h
 have H' := Aside0.mk H
 clear H
 go_enter Tryd.func7, Tryd.ntmps7
 try simp only [List.append]
 go_wp2
 go_loopg [0, 1, 7] k (fun kq v0 v1 v7 w' => ∃ (x0_1 : Int) (x1_1 : Int) (x7_1 : Int), v0 = .int .u64 x0_1 ∧ v1 = .int .u64 x1_1 ∧ v7 = .int .i64 x7_1 ∧ Aside0 (reckonerlaw01_WordsInverses.l0 kq x0_1 x1_1 a2 x7_1 = some r) ∧ Aside0 (kq ≤ k) ∧ Aside0 (Below w.heap.size w w'))
 case atStart => exact ⟨(a0), (a1), (0), (by first | rfl | (simp; done) | (simp [*]; done)), (by first | rfl | (simp; done) | (simp [*]; done)), (by first | rfl | (simp; done) | (simp [*]; done)), H', ⟨Nat.le_refl _⟩, ⟨by repeat (first | (with_reducible first | exact HB.out | apply below_alloc | apply pw_below_drewN | apply below_drew1) | exact HB.out)⟩⟩
 case round =>
  clear H'
  try clear p2
  obtain ⟨x0_1, x1_1, x7_1, rfl, rfl, rfl, HA, HK1, HB⟩ := hrel
  cases gk with
  | zero => exact absurd HA.out (by simp [reckonerlaw01_WordsInverses.l0])
  | succ k1 =>
   have H := HA.out
   clear HA
   simp only [reckonerlaw01_WordsInverses.l0] at H
   by_cases c4 : x7_1 < 2
   ·rw [if_pos c4] at H
    have c4b0 : decide (x7_1 < 2) = true := decide_eq_true c4
    clear c4
    replace H := Option.bind_eq_some_iff.mp H
    obtain ⟨⟨t652, t653⟩, A50, H⟩ := H
    replace H : (if (Int.tmod x0_1 2) = 0 then (if t653 = 1 then (if t652 = 0 then (if (Int.tmod x0_1 2) = 1 then (if t653 = 0 then ((reckonerref01_Inverse.f k1 x0_1).bind fun t654 => (reckonerlaw01_WordsInverses.j1 k1 x0_1 x1_1 a2 x7_1 (t652 != t654))) else (reckonerlaw01_WordsInverses.j1 k1 x0_1 x1_1 a2 x7_1 true)) else (reckonerlaw01_WordsInverses.j1 k1 x0_1 x1_1 a2 x7_1 false)) else (reckonerlaw01_WordsInverses.j1 k1 x0_1 x1_1 a2 x7_1 true)) else (reckonerlaw01_WordsInverses.j1 k1 x0_1 x1_1 a2 x7_1 true)) else (if (Int.tmod x0_1 2) = 1 then (if t653 = 0 then ((reckonerref01_Inverse.f k1 x0_1).bind fun t655 => (reckonerlaw01_WordsInverses.j1 k1 x0_1 x1_1 a2 x7_1 (t652 != t655))) else (reckonerlaw01_WordsInverses.j1 k1 x0_1 x1_1 a2 x7_1 true)) else (reckonerlaw01_WordsInverses.j1 k1 x0_1 x1_1 a2 x7_1 false))) = some r := H
    have A5 := Aside0.mk A50
    clear A50
    have HC6 := Aside0.mk H
    clear H
    go_upto_region 5 with (first | ((with_reducible refine gate_callee (f := 34) rfl ?_); refine goesL_ (some 29) rfl rfl Tryd.func34 (by kernel_rfl) rfl #[.int .u64 x0_1] rfl (by (try simp only [List.map_toArray, List.map_cons, List.map_nil]); first | done | rfl | (simp only [List.length_drop, List.length_take]; rfl)) ?_; (with_reducible refine (words_Inverse.calls x0_1 t652 t653 _ (Laid.below HLd.out (by repeat (first | (with_reducible first | exact HB.out | apply below_alloc | apply pw_below_drewN | apply below_drew1) | exact HB.out))) A5.out).mono ?_); rintro e w' ⟨rfl, ⟨nd, rfl⟩⟩; refine ⟨_, rfl, ?_⟩))
    (try simp only [Act.put, List.setIfInBounds_toArray, List.set_cons_zero, List.set_cons_succ])
    go_cut [57] (fun v57 wc => ∃ (kq : Nat) (x57_5 : Bool), v57 = .bool x57_5 ∧ Aside0 (reckonerlaw01_WordsInverses.j1 kq x0_1 x1_1 a2 x7_1 x57_5 = some r) ∧ Aside0 (kq ≤ k1) ∧ Aside0 (Below w.heap.size w wc))
    case first =>
     have H := HC6.out
     clear HC6
     by_cases c7 : (Int.tmod x0_1 2) = 0
     ·rw [if_pos c7] at H
      have c7b0 : ((Int.tmod x0_1 2) == 0) = true := beq_iff_eq.mpr c7
      have c7b1 : ((Int.tmod x0_1 2) != 0) = false := bne_eq_false_iff_eq.mpr c7
      clear c7
      (first | rw [c7b0] | (simp only [i64_w, i32_w]; rw [c7b0]) | skip)
      by_cases c8 : t653 = 1
      ·rw [if_pos c8] at H
       have c8b0 : (t653 == 1) = true := beq_iff_eq.mpr c8
       have c8b1 : (t653 != 1) = false := bne_eq_false_iff_eq.mpr c8
       clear c8
       by_cases c9 : t652 = 0
       ·rw [if_pos c9] at H
        have c9b0 : (t652 == 0) = true := beq_iff_eq.mpr c9
        have c9b1 : (t652 != 0) = false := bne_eq_false_iff_eq.mpr c9
        clear c9
        by_cases c10 : (Int.tmod x0_1 2) = 1
        ·rw [if_pos c10] at H
         have c10b0 : ((Int.tmod x0_1 2) == 1) = true := beq_iff_eq.mpr c10
         have c10b1 : ((Int.tmod x0_1 2) != 1) = false := bne_eq_false_iff_eq.mpr c10
         clear c10
         by_cases c11 : t653 = 0
         ·rw [if_pos c11] at H
          have c11b0 : (t653 == 0) = true := beq_iff_eq.mpr c11
          have c11b1 : (t653 != 0) = false := bne_eq_false_iff_eq.mpr c11
          clear c11
          replace H := Option.bind_eq_some_iff.mp H
          obtain ⟨t654, A120, H⟩ := H
          replace H : (reckonerlaw01_WordsInverses.j1 k1 x0_1 x1_1 a2 x7_1 (t652 != t654)) = some r := H
          have A12 := Aside0.mk A120
          clear A120
          have H' := Aside0.mk H
          clear H
          go_wp2_with (first | (go_at_call 35; (with_reducible refine (reckonerref01_Inverse.calls k1 x0_1 t654 _ A12.out).mono ?_); rintro e w' ⟨rfl, ⟨nd, rfl⟩⟩))
          go_meet
          case rel => exact ⟨_, ((t652 != t654)), (by first | rfl | (simp; done) | (simp [*]; done)), H', ⟨by have := HK1.out; first | omega | exact Nat.le_refl _⟩, ⟨by repeat (first | (with_reducible first | exact HB.out | apply below_alloc | apply pw_below_drewN | apply below_drew1) | exact HB.out)⟩⟩
         ·rw [if_neg c11] at H
          have c11b0 : (t653 == 0) = false := beq_eq_false_iff_ne.mpr c11
          have c11b1 : (t653 != 0) = true := bne_iff_ne.mpr c11
          have H' := Aside0.mk H
          clear H
          go_wp2
          go_meet
          case rel => exact ⟨_, (true), (by first | rfl | (simp; done) | (simp [*]; done)), H', ⟨by have := HK1.out; first | omega | exact Nat.le_refl _⟩, ⟨by repeat (first | (with_reducible first | exact HB.out | apply below_alloc | apply pw_below_drewN | apply below_drew1) | exact HB.out)⟩⟩
        ·rw [if_neg c10] at H
         have c10b0 : ((Int.tmod x0_1 2) == 1) = false := beq_eq_false_iff_ne.mpr c10
         have c10b1 : ((Int.tmod x0_1 2) != 1) = true := bne_iff_ne.mpr c10
         have H' := Aside0.mk H
         clear H
         go_wp2
         go_meet
         case rel => exact ⟨_, (false), (by first | rfl | (simp; done) | (simp [*]; done)), H', ⟨by have := HK1.out; first | omega | exact Nat.le_refl _⟩, ⟨by repeat (first | (with_reducible first | exact HB.out | apply below_alloc | apply pw_below_drewN | apply below_drew1) | exact HB.out)⟩⟩
       ·rw [if_neg c9] at H
        have c9b0 : (t652 == 0) = false := beq_eq_false_iff_ne.mpr c9
        have c9b1 : (t652 != 0) = true := bne_iff_ne.mpr c9
        have H' := Aside0.mk H
        clear H
        go_wp2
        go_meet
        case rel => exact ⟨_, (true), (by first | rfl | (simp; done) | (simp [*]; done)), H', ⟨by have := HK1.out; first | omega | exact Nat.le_refl _⟩, ⟨by repeat (first | (with_reducible first | exact HB.out | apply below_alloc | apply pw_below_drewN | apply below_drew1) | exact HB.out)⟩⟩
      ·rw [if_neg c8] at H
       have c8b0 : (t653 == 1) = false := beq_eq_false_iff_ne.mpr c8
       have c8b1 : (t653 != 1) = true := bne_iff_ne.mpr c8
       have H' := Aside0.mk H
       clear H
       go_wp2
       go_meet
       case rel => exact ⟨_, (true), (by first | rfl | (simp; done) | (simp [*]; done)), H', ⟨by have := HK1.out; first | omega | exact Nat.le_refl _⟩, ⟨by repeat (first | (with_reducible first | exact HB.out | apply below_alloc | apply pw_below_drewN | apply below_drew1) | exact HB.out)⟩⟩
     ·rw [if_neg c7] at H
      have c7b0 : ((Int.tmod x0_1 2) == 0) = false := beq_eq_false_iff_ne.mpr c7
      have c7b1 : ((Int.tmod x0_1 2) != 0) = true := bne_iff_ne.mpr c7
      (first | rw [c7b0] | (simp only [i64_w, i32_w]; rw [c7b0]) | skip)
      by_cases c13 : (Int.tmod x0_1 2) = 1
      ·rw [if_pos c13] at H
       have c13b0 : ((Int.tmod x0_1 2) == 1) = true := beq_iff_eq.mpr c13
       have c13b1 : ((Int.tmod x0_1 2) != 1) = false := bne_eq_false_iff_eq.mpr c13
       clear c13
       by_cases c14 : t653 = 0
       ·rw [if_pos c14] at H
        have c14b0 : (t653 == 0) = true := beq_iff_eq.mpr c14
        have c14b1 : (t653 != 0) = false := bne_eq_false_iff_eq.mpr c14
        clear c14
        replace H := Option.bind_eq_some_iff.mp H
        obtain ⟨t655, A150, H⟩ := H
        replace H : (reckonerlaw01_WordsInverses.j1 k1 x0_1 x1_1 a2 x7_1 (t652 != t655)) = some r := H
        have A15 := Aside0.mk A150
        clear A150
        have H' := Aside0.mk H
        clear H
        go_wp2_with (first | (go_at_call 35; (with_reducible refine (reckonerref01_Inverse.calls k1 x0_1 t655 _ A15.out).mono ?_); rintro e w' ⟨rfl, ⟨nd, rfl⟩⟩))
        go_meet
        case rel => exact ⟨_, ((t652 != t655)), (by first | rfl | (simp; done) | (simp [*]; done)), H', ⟨by have := HK1.out; first | omega | exact Nat.le_refl _⟩, ⟨by repeat (first | (with_reducible first | exact HB.out | apply below_alloc | apply pw_below_drewN | apply below_drew1) | exact HB.out)⟩⟩
       ·rw [if_neg c14] at H
        have c14b0 : (t653 == 0) = false := beq_eq_false_iff_ne.mpr c14
        have c14b1 : (t653 != 0) = true := bne_iff_ne.mpr c14
        have H' := Aside0.mk H
        clear H
        go_wp2
        go_meet
        case rel => exact ⟨_, (true), (by first | rfl | (simp; done) | (simp [*]; done)), H', ⟨by have := HK1.out; first | omega | exact Nat.le_refl _⟩, ⟨by repeat (first | (with_reducible first | exact HB.out | apply below_alloc | apply pw_below_drewN | apply below_drew1) | exact HB.out)⟩⟩
      ·rw [if_neg c13] at H
       have c13b0 : ((Int.tmod x0_1 2) == 1) = false := beq_eq_false_iff_ne.mpr c13
       have c13b1 : ((Int.tmod x0_1 2) != 1) = true := bne_iff_ne.mpr c13
       have H' := Aside0.mk H
       clear H
       go_wp2
       go_meet
       case rel => exact ⟨_, (false), (by first | rfl | (simp; done) | (simp [*]; done)), H', ⟨by have := HK1.out; first | omega | exact Nat.le_refl _⟩, ⟨by repeat (first | (with_reducible first | exact HB.out | apply below_alloc | apply pw_below_drewN | apply below_drew1) | exact HB.out)⟩⟩
    case rest =>
     clear HC6
     try clear c1
     try clear p2
     try clear c3
     try clear c4
     try clear c4b0
     try clear c7
     try clear c7b0
     try clear c7b1
     try clear c8
     try clear c8b0
     try clear c8b1
     try clear c9
     try clear c9b0
     try clear c9b1
     try clear c10
     try clear c10b0
     try clear c10b1
     try clear c11
     try clear c11b0
     try clear c11b1
     try clear c13
     try clear c13b0
     try clear c13b1
     try clear c14
     try clear c14b0
     try clear c14b1
     try clear p2
     obtain ⟨kq, x57_5, rfl, HA, HJ5, HB⟩ := hcut
     cases kq with
     | zero => exact absurd HA.out (by simp [reckonerlaw01_WordsInverses.j1])
     | succ kj5 =>
      have H := HA.out
      clear HA
      simp only [reckonerlaw01_WordsInverses.j1] at H
      by_cases c16 : x57_5 = true
      ·subst c16
       have H1 : (none) = some r := by rw [if_pos rfl] at H; exact H
       clear H
       have H := H1
       clear H1
       exact absurd H (by simp)
      ·replace c16 := Bool.eq_false_iff.mpr c16
       subst c16
       have H1 : ((words_Reciprocal.f x0_1).bind fun bt656 => (if x0_1 < 9223372036854775808 then ((words_ByReciprocal.f x1_1 a2 x0_1 bt656.1).bind fun bt658 => (if bt656.2 = 1 then (if bt658.2.2 = 1 then (if bt656.1 = 0 then (if bt658.1 = 0 then (if bt658.2.1 = 0 then (if (Go.bits .or .u64 (Go.bits .or .u64 x0_1 1) 9223372036854775808) = 0 then (none) else (reckonerlaw01_WordsInverses.l0 kj5 (Go.bits .or .u64 (Go.bits .or .u64 x0_1 1) 9223372036854775808) (Int.tmod x1_1 (Go.bits .or .u64 (Go.bits .or .u64 x0_1 1) 9223372036854775808)) a2 (wrap64 (x7_1 + 1)))) else (none)) else (none)) else (none)) else (none)) else (none))) else (if bt656.2 = 0 then ((reckonerref01_Reciprocal.f kj5 x0_1).bind fun t661 => (reckonerlaw01_WordsInverses.j2 kj5 x0_1 x1_1 a2 x7_1 bt656.1 (bt656.1 != t661))) else (reckonerlaw01_WordsInverses.j2 kj5 x0_1 x1_1 a2 x7_1 bt656.1 true)))) = some r := by rw [if_neg (show ¬ (false = true) by decide)] at H; exact H
       clear H
       have H := H1
       clear H1
       replace H := Option.bind_eq_some_iff.mp H
       obtain ⟨⟨t656, t657⟩, A170, H⟩ := H
       replace H : (if x0_1 < 9223372036854775808 then ((words_ByReciprocal.f x1_1 a2 x0_1 t656).bind fun bt658 => (if t657 = 1 then (if bt658.2.2 = 1 then (if t656 = 0 then (if bt658.1 = 0 then (if bt658.2.1 = 0 then (if (Go.bits .or .u64 (Go.bits .or .u64 x0_1 1) 9223372036854775808) = 0 then (none) else (reckonerlaw01_WordsInverses.l0 kj5 (Go.bits .or .u64 (Go.bits .or .u64 x0_1 1) 9223372036854775808) (Int.tmod x1_1 (Go.bits .or .u64 (Go.bits .or .u64 x0_1 1) 9223372036854775808)) a2 (wrap64 (x7_1 + 1)))) else (none)) else (none)) else (none)) else (none)) else (none))) else (if t657 = 0 then ((reckonerref01_Reciprocal.f kj5 x0_1).bind fun t661 => (reckonerlaw01_WordsInverses.j2 kj5 x0_1 x1_1 a2 x7_1 t656 (t656 != t661))) else (reckonerlaw01_WordsInverses.j2 kj5 x0_1 x1_1 a2 x7_1 t656 true))) = some r := H
       have A17 := Aside0.mk A170
       clear A170
       by_cases c18 : x0_1 < 9223372036854775808
       ·rw [if_pos c18] at H
        have c18b0 : decide (x0_1 < 9223372036854775808) = true := decide_eq_true c18
        clear c18
        replace H := Option.bind_eq_some_iff.mp H
        obtain ⟨⟨t658, t659, t660⟩, A190, H⟩ := H
        replace H : (if t657 = 1 then (if t660 = 1 then (if t656 = 0 then (if t658 = 0 then (if t659 = 0 then (if (Go.bits .or .u64 (Go.bits .or .u64 x0_1 1) 9223372036854775808) = 0 then (none) else (reckonerlaw01_WordsInverses.l0 kj5 (Go.bits .or .u64 (Go.bits .or .u64 x0_1 1) 9223372036854775808) (Int.tmod x1_1 (Go.bits .or .u64 (Go.bits .or .u64 x0_1 1) 9223372036854775808)) a2 (wrap64 (x7_1 + 1)))) else (none)) else (none)) else (none)) else (none)) else (none)) = some r := H
        have A19 := Aside0.mk A190
        clear A190
        by_cases c20 : t657 = 1
        ·rw [if_pos c20] at H
         have c20b0 : (t657 == 1) = true := beq_iff_eq.mpr c20
         have c20b1 : (t657 != 1) = false := bne_eq_false_iff_eq.mpr c20
         clear c20
         by_cases c21 : t660 = 1
         ·rw [if_pos c21] at H
          have c21b0 : (t660 == 1) = true := beq_iff_eq.mpr c21
          have c21b1 : (t660 != 1) = false := bne_eq_false_iff_eq.mpr c21
          clear c21
          by_cases c22 : t656 = 0
          ·rw [if_pos c22] at H
           have c22b0 : (t656 == 0) = true := beq_iff_eq.mpr c22
           have c22b1 : (t656 != 0) = false := bne_eq_false_iff_eq.mpr c22
           clear c22
           by_cases c23 : t658 = 0
           ·rw [if_pos c23] at H
            have c23b0 : (t658 == 0) = true := beq_iff_eq.mpr c23
            have c23b1 : (t658 != 0) = false := bne_eq_false_iff_eq.mpr c23
            clear c23
            by_cases c24 : t659 = 0
            ·rw [if_pos c24] at H
             have c24b0 : (t659 == 0) = true := beq_iff_eq.mpr c24
             have c24b1 : (t659 != 0) = false := bne_eq_false_iff_eq.mpr c24
             clear c24
             by_cases c25 : (Go.bits .or .u64 (Go.bits .or .u64 x0_1 1) 9223372036854775808) = 0
             ·rw [if_pos c25] at H
              exact absurd H (by simp)
             ·rw [if_neg c25] at H
              have c25b0 : ((Go.bits .or .u64 (Go.bits .or .u64 x0_1 1) 9223372036854775808) == 0) = false := beq_eq_false_iff_ne.mpr c25
              have c25b1 : ((Go.bits .or .u64 (Go.bits .or .u64 x0_1 1) 9223372036854775808) != 0) = true := bne_iff_ne.mpr c25
              have H' := Aside0.mk H
              clear H
              go_wp2_with (first | ((with_reducible refine gate_callee (f := 36) rfl ?_); refine goesL_ (some 60) rfl rfl Tryd.func36 (by kernel_rfl) rfl #[.int .u64 x0_1] rfl (by (try simp only [List.map_toArray, List.map_cons, List.map_nil]); first | done | rfl | (simp only [List.length_drop, List.length_take]; rfl)) ?_; (with_reducible refine (words_Reciprocal.calls x0_1 t656 t657 _ A17.out).mono ?_); rintro e w' ⟨rfl, ⟨nd, rfl⟩⟩; refine ⟨_, rfl, ?_⟩) | ((with_reducible refine gate_callee (f := 37) rfl ?_); refine goesL_ (some 70) rfl rfl Tryd.func37 (by kernel_rfl) rfl #[.int .u64 x1_1, .int .u64 a2, .int .u64 x0_1, .int .u64 t656] rfl (by (try simp only [List.map_toArray, List.map_cons, List.map_nil]); first | done | rfl | (simp only [List.length_drop, List.length_take]; rfl)) ?_; (with_reducible refine (words_ByReciprocal.calls x1_1 a2 x0_1 t656 t658 t659 t660 _ A19.out).mono ?_); rintro e w' ⟨rfl, ⟨nd, rfl⟩⟩; refine ⟨_, rfl, ?_⟩))
              go_roundg kj5
              case measure => have := HK1.out; have := HJ5.out; omega
              case rel => exact ⟨(Go.bits .or .u64 (Go.bits .or .u64 x0_1 1) 9223372036854775808), (Int.tmod x1_1 (Go.bits .or .u64 (Go.bits .or .u64 x0_1 1) 9223372036854775808)), (wrap64 (x7_1 + 1)), (by first | rfl | (simp; done) | (simp [*]; done)), (by first | rfl | (simp; done) | (simp [*]; done)), (by first | rfl | (simp; done) | (simp [*]; done)), H', ⟨by have := HK1.out; have := HJ5.out; omega⟩, ⟨by repeat (first | (with_reducible first | exact HB.out | apply below_alloc | apply pw_below_drewN | apply below_drew1) | exact HB.out)⟩⟩
            ·rw [if_neg c24] at H
             exact absurd H (by simp)
           ·rw [if_neg c23] at H
            exact absurd H (by simp)
          ·rw [if_neg c22] at H
           exact absurd H (by simp)
         ·rw [if_neg c21] at H
          exact absurd H (by simp)
        ·rw [if_neg c20] at H
         exact absurd H (by simp)
       ·rw [if_neg c18] at H
        have c18b0 : decide (x0_1 < 9223372036854775808) = false := decide_eq_false c18
        clear c18
        have HC26 := Aside0.mk H
        clear H
        go_upto_region 12 with (first | ((with_reducible refine gate_callee (f := 36) rfl ?_); refine goesL_ (some 60) rfl rfl Tryd.func36 (by kernel_rfl) rfl #[.int .u64 x0_1] rfl (by (try simp only [List.map_toArray, List.map_cons, List.map_nil]); first | done | rfl | (simp only [List.length_drop, List.length_take]; rfl)) ?_; (with_reducible refine (words_Reciprocal.calls x0_1 t656 t657 _ A17.out).mono ?_); rintro e w' ⟨rfl, ⟨nd, rfl⟩⟩; refine ⟨_, rfl, ?_⟩))
        (try simp only [Act.put, List.setIfInBounds_toArray, List.set_cons_zero, List.set_cons_succ])
        go_cut [99] (fun v99 wc => ∃ (kq : Nat) (x99_25 : Bool), v99 = .bool x99_25 ∧ Aside0 (reckonerlaw01_WordsInverses.j2 kq x0_1 x1_1 a2 x7_1 t656 x99_25 = some r) ∧ Aside0 (kq ≤ kj5) ∧ Aside0 (Below w.heap.size w wc))
        case first =>
         have H := HC26.out
         clear HC26
         by_cases c27 : t657 = 0
         ·rw [if_pos c27] at H
          have c27b0 : (t657 == 0) = true := beq_iff_eq.mpr c27
          have c27b1 : (t657 != 0) = false := bne_eq_false_iff_eq.mpr c27
          clear c27
          (first | rw [c27b0] | (simp only [i64_w, i32_w]; rw [c27b0]) | skip)
          replace H := Option.bind_eq_some_iff.mp H
          obtain ⟨t661, A280, H⟩ := H
          replace H : (reckonerlaw01_WordsInverses.j2 kj5 x0_1 x1_1 a2 x7_1 t656 (t656 != t661)) = some r := H
          have A28 := Aside0.mk A280
          clear A280
          have H' := Aside0.mk H
          clear H
          go_wp2_with (first | (go_at_call 38; (with_reducible refine (reckonerref01_Reciprocal.calls kj5 x0_1 t661 _ A28.out).mono ?_); rintro e w29 ⟨rfl, hb⟩; have n0_ := Aside0.mk (below_step (by repeat (first | (with_reducible first | exact HB.out | apply below_alloc | apply pw_below_drewN | apply below_drew1) | exact HB.out)) hb); clear HB; have HB := n0_; clear n0_; (try clear hb); (try clear hb2); (try clear hk); (try clear hi)))
          go_meet
          case rel => exact ⟨_, ((t656 != t661)), (by first | rfl | (simp; done) | (simp [*]; done)), H', ⟨by have := HK1.out; have := HJ5.out; first | omega | exact Nat.le_refl _⟩, ⟨by repeat (first | (with_reducible first | exact HB.out | apply below_alloc | apply pw_below_drewN | apply below_drew1) | exact HB.out)⟩⟩
         ·rw [if_neg c27] at H
          have c27b0 : (t657 == 0) = false := beq_eq_false_iff_ne.mpr c27
          have c27b1 : (t657 != 0) = true := bne_iff_ne.mpr c27
          (first | rw [c27b0] | (simp only [i64_w, i32_w]; rw [c27b0]) | skip)
          have H' := Aside0.mk H
          clear H
          go_wp2
          go_meet
          case rel => exact ⟨_, (true), (by first | rfl | (simp; done) | (simp [*]; done)), H', ⟨by have := HK1.out; have := HJ5.out; first | omega | exact Nat.le_refl _⟩, ⟨by repeat (first | (with_reducible first | exact HB.out | apply below_alloc | apply pw_below_drewN | apply below_drew1) | exact HB.out)⟩⟩
        case rest =>
         clear HC26
         try clear c1
         try clear c2
         try clear p2
         try clear c3
         try clear c4
         try clear c4b0
         try clear p6
         try clear c7
         try clear c7b0
         try clear c7b1
         try clear c8
         try clear c8b0
         try clear c8b1
         try clear c9
         try clear c9b0
         try clear c9b1
         try clear c10
         try clear c10b0
         try clear c10b1
         try clear c11
         try clear c11b0
         try clear c11b1
         try clear c13
         try clear c13b0
         try clear c13b1
         try clear c14
         try clear c14b0
         try clear c14b1
         try clear c16
         try clear c18
         try clear c18b0
         try clear c20
         try clear c20b0
         try clear c20b1
         try clear c21
         try clear c21b0
         try clear c21b1
         try clear c22
         try clear c22b0
         try clear c22b1
         try clear c23
         try clear c23b0
         try clear c23b1
         try clear c24
         try clear c24b0
         try clear c24b1
         try clear c25
         try clear c25b0
         try clear c25b1
         try clear c27
         try clear c27b0
         try clear c27b1
         try clear p2
         obtain ⟨kq, x99_25, rfl, HA, HJ25, HB⟩ := hcut
         cases kq with
         | zero => exact absurd HA.out (by simp [reckonerlaw01_WordsInverses.j2])
         | succ kj25 =>
          have H := HA.out
          clear HA
          simp only [reckonerlaw01_WordsInverses.j2] at H
          by_cases c30 : x99_25 = true
          ·subst c30
           have H1 : (none) = some r := by rw [if_pos rfl] at H; exact H
           clear H
           have H := H1
           clear H1
           exact absurd H (by simp)
          ·replace c30 := Bool.eq_false_iff.mpr c30
           subst c30
           have H1 : ((words_ByReciprocal.f x1_1 a2 x0_1 t656).bind fun bt662 => (if x1_1 ≥ x0_1 then (if bt662.2.2 = 1 then (if bt662.1 = 0 then (reckonerlaw01_WordsInverses.j3 kj25 x0_1 x1_1 a2 x7_1 t656 (bt662.2.1 != 0)) else (reckonerlaw01_WordsInverses.j3 kj25 x0_1 x1_1 a2 x7_1 t656 true)) else (reckonerlaw01_WordsInverses.j3 kj25 x0_1 x1_1 a2 x7_1 t656 true)) else ((reckonerref01_Narrow.f kj25 x1_1 a2 x0_1).bind fun bt668 => (if bt662.2.2 = 0 then (if bt662.1 = bt668.1 then (reckonerlaw01_WordsInverses.j4 kj25 x0_1 x1_1 a2 x7_1 t656 (bt662.2.1 != bt668.2)) else (reckonerlaw01_WordsInverses.j4 kj25 x0_1 x1_1 a2 x7_1 t656 true)) else (reckonerlaw01_WordsInverses.j4 kj25 x0_1 x1_1 a2 x7_1 t656 true))))) = some r := by rw [if_neg (show ¬ (false = true) by decide)] at H; exact H
           clear H
           have H := H1
           clear H1
           replace H := Option.bind_eq_some_iff.mp H
           obtain ⟨⟨t662, t663, t664⟩, A310, H⟩ := H
           replace H : (if x1_1 ≥ x0_1 then (if t664 = 1 then (if t662 = 0 then (reckonerlaw01_WordsInverses.j3 kj25 x0_1 x1_1 a2 x7_1 t656 (t663 != 0)) else (reckonerlaw01_WordsInverses.j3 kj25 x0_1 x1_1 a2 x7_1 t656 true)) else (reckonerlaw01_WordsInverses.j3 kj25 x0_1 x1_1 a2 x7_1 t656 true)) else ((reckonerref01_Narrow.f kj25 x1_1 a2 x0_1).bind fun bt668 => (if t664 = 0 then (if t662 = bt668.1 then (reckonerlaw01_WordsInverses.j4 kj25 x0_1 x1_1 a2 x7_1 t656 (t663 != bt668.2)) else (reckonerlaw01_WordsInverses.j4 kj25 x0_1 x1_1 a2 x7_1 t656 true)) else (reckonerlaw01_WordsInverses.j4 kj25 x0_1 x1_1 a2 x7_1 t656 true)))) = some r := H
           have A31 := Aside0.mk A310
           clear A310
           by_cases c32 : x1_1 ≥ x0_1
           ·rw [if_pos c32] at H
            have c32b0 : decide (x0_1 ≤ x1_1) = true := decide_eq_true c32
            clear c32
            have HC33 := Aside0.mk H
            clear H
            go_upto_region 16 with (first | ((with_reducible refine gate_callee (f := 37) rfl ?_); refine goesL_ (some 105) rfl rfl Tryd.func37 (by kernel_rfl) rfl #[.int .u64 x1_1, .int .u64 a2, .int .u64 x0_1, .int .u64 t656] rfl (by (try simp only [List.map_toArray, List.map_cons, List.map_nil]); first | done | rfl | (simp only [List.length_drop, List.length_take]; rfl)) ?_; (with_reducible refine (words_ByReciprocal.calls x1_1 a2 x0_1 t656 t662 t663 t664 _ A31.out).mono ?_); rintro e w' ⟨rfl, ⟨nd, rfl⟩⟩; refine ⟨_, rfl, ?_⟩))
            (try simp only [Act.put, List.setIfInBounds_toArray, List.set_cons_zero, List.set_cons_succ])
            go_cut [121] (fun v121 wc => ∃ (kq : Nat) (x121_32 : Bool), v121 = .bool x121_32 ∧ Aside0 (reckonerlaw01_WordsInverses.j3 kq x0_1 x1_1 a2 x7_1 t656 x121_32 = some r) ∧ Aside0 (kq ≤ kj25) ∧ Aside0 (Below w.heap.size w wc))
            case first =>
             have H := HC33.out
             clear HC33
             by_cases c34 : t664 = 1
             ·rw [if_pos c34] at H
              have c34b0 : (t664 == 1) = true := beq_iff_eq.mpr c34
              have c34b1 : (t664 != 1) = false := bne_eq_false_iff_eq.mpr c34
              clear c34
              (first | rw [c34b0] | (simp only [i64_w, i32_w]; rw [c34b0]) | skip)
              by_cases c35 : t662 = 0
              ·rw [if_pos c35] at H
               have c35b0 : (t662 == 0) = true := beq_iff_eq.mpr c35
               have c35b1 : (t662 != 0) = false := bne_eq_false_iff_eq.mpr c35
               clear c35
               have H' := Aside0.mk H
               clear H
               go_wp2
               go_meet
               case rel => exact ⟨_, ((t663 != 0)), (by first | rfl | (simp; done) | (simp [*]; done)), H', ⟨by have := HK1.out; have := HJ5.out; have := HJ25.out; first | omega | exact Nat.le_refl _⟩, ⟨by repeat (first | (with_reducible first | exact HB.out | apply below_alloc | apply pw_below_drewN | apply below_drew1) | exact HB.out)⟩⟩
              ·rw [if_neg c35] at H
               have c35b0 : (t662 == 0) = false := beq_eq_false_iff_ne.mpr c35
               have c35b1 : (t662 != 0) = true := bne_iff_ne.mpr c35
               have H' := Aside0.mk H
               clear H
               go_wp2
               go_meet
               case rel => exact ⟨_, (true), (by first | rfl | (simp; done) | (simp [*]; done)), H', ⟨by have := HK1.out; have := HJ5.out; have := HJ25.out; first | omega | exact Nat.le_refl _⟩, ⟨by repeat (first | (with_reducible first | exact HB.out | apply below_alloc | apply pw_below_drewN | apply below_drew1) | exact HB.out)⟩⟩
             ·rw [if_neg c34] at H
              have c34b0 : (t664 == 1) = false := beq_eq_false_iff_ne.mpr c34
              have c34b1 : (t664 != 1) = true := bne_iff_ne.mpr c34
              (first | rw [c34b0] | (simp only [i64_w, i32_w]; rw [c34b0]) | skip)
              have H' := Aside0.mk H
              clear H
              go_wp2
              go_meet
              case rel => exact ⟨_, (true), (by first | rfl | (simp; done) | (simp [*]; done)), H', ⟨by have := HK1.out; have := HJ5.out; have := HJ25.out; first | omega | exact Nat.le_refl _⟩, ⟨by repeat (first | (with_reducible first | exact HB.out | apply below_alloc | apply pw_below_drewN | apply below_drew1) | exact HB.out)⟩⟩
            case rest =>
             clear HC33
             try clear c1
             try clear c2
             try clear p2
             try clear c3
             try clear c4
             try clear c4b0
             try clear p6
             try clear c7
             try clear c7b0
             try clear c7b1
             try clear c8
             try clear c8b0
             try clear c8b1
             try clear c9
             try clear c9b0
             try clear c9b1
             try clear c10
             try clear c10b0
             try clear c10b1
             try clear c11
             try clear c11b0
             try clear c11b1
             try clear c13
             try clear c13b0
             try clear c13b1
             try clear c14
             try clear c14b0
             try clear c14b1
             try clear c16
             try clear c18
             try clear c18b0
             try clear c20
             try clear c20b0
             try clear c20b1
             try clear c21
             try clear c21b0
             try clear c21b1
             try clear c22
             try clear c22b0
             try clear c22b1
             try clear c23
             try clear c23b0
             try clear c23b1
             try clear c24
             try clear c24b0
             try clear c24b1
             try clear c25
             try clear c25b0
             try clear c25b1
             try clear c27
             try clear c27b0
             try clear c27b1
             try clear c30
             try clear c32
             try clear c32b0
             try clear c34
             try clear c34b0
             try clear c34b1
             try clear c35
             try clear c35b0
             try clear c35b1
             try clear p2
             try clear p6
             obtain ⟨kq, x121_32, rfl, HA, HJ32, HB⟩ := hcut
             cases kq with
             | zero => exact absurd HA.out (by simp [reckonerlaw01_WordsInverses.j3])
             | succ kj32 =>
              have H := HA.out
              clear HA
              simp only [reckonerlaw01_WordsInverses.j3] at H
              by_cases c36 : x121_32 = true
              ·subst c36
               have H1 : (none) = some r := by rw [if_pos rfl] at H; exact H
               clear H
               have H := H1
               clear H1
               exact absurd H (by simp)
              ·replace c36 := Bool.eq_false_iff.mpr c36
               subst c36
               have H1 : (if x0_1 = 0 then (none) else ((words_ByReciprocal.f (Int.tmod x1_1 x0_1) a2 x0_1 (Go.bits .xor .u64 t656 1)).bind fun bt665 => (if bt665.2.2 = 1 then (if bt665.1 = 0 then (if bt665.2.1 = 0 then (if (Go.bits .or .u64 (Go.bits .or .u64 x0_1 1) 9223372036854775808) = 0 then (none) else (reckonerlaw01_WordsInverses.l0 kj32 (Go.bits .or .u64 (Go.bits .or .u64 x0_1 1) 9223372036854775808) (Int.tmod x1_1 (Go.bits .or .u64 (Go.bits .or .u64 x0_1 1) 9223372036854775808)) a2 (wrap64 (x7_1 + 1)))) else (none)) else (none)) else (none)))) = some r := by rw [if_neg (show ¬ (false = true) by decide)] at H; exact H
               clear H
               have H := H1
               clear H1
               by_cases c37 : x0_1 = 0
               ·rw [if_pos c37] at H
                exact absurd H (by simp)
               ·rw [if_neg c37] at H
                have c37b0 : (x0_1 == 0) = false := beq_eq_false_iff_ne.mpr c37
                have c37b1 : (x0_1 != 0) = true := bne_iff_ne.mpr c37
                replace H := Option.bind_eq_some_iff.mp H
                obtain ⟨⟨t665, t666, t667⟩, A380, H⟩ := H
                replace H : (if t667 = 1 then (if t665 = 0 then (if t666 = 0 then (if (Go.bits .or .u64 (Go.bits .or .u64 x0_1 1) 9223372036854775808) = 0 then (none) else (reckonerlaw01_WordsInverses.l0 kj32 (Go.bits .or .u64 (Go.bits .or .u64 x0_1 1) 9223372036854775808) (Int.tmod x1_1 (Go.bits .or .u64 (Go.bits .or .u64 x0_1 1) 9223372036854775808)) a2 (wrap64 (x7_1 + 1)))) else (none)) else (none)) else (none)) = some r := H
                have A38 := Aside0.mk A380
                clear A380
                by_cases c39 : t667 = 1
                ·rw [if_pos c39] at H
                 have c39b0 : (t667 == 1) = true := beq_iff_eq.mpr c39
                 have c39b1 : (t667 != 1) = false := bne_eq_false_iff_eq.mpr c39
                 clear c39
                 by_cases c40 : t665 = 0
                 ·rw [if_pos c40] at H
                  have c40b0 : (t665 == 0) = true := beq_iff_eq.mpr c40
                  have c40b1 : (t665 != 0) = false := bne_eq_false_iff_eq.mpr c40
                  clear c40
                  by_cases c41 : t666 = 0
                  ·rw [if_pos c41] at H
                   have c41b0 : (t666 == 0) = true := beq_iff_eq.mpr c41
                   have c41b1 : (t666 != 0) = false := bne_eq_false_iff_eq.mpr c41
                   clear c41
                   by_cases c42 : (Go.bits .or .u64 (Go.bits .or .u64 x0_1 1) 9223372036854775808) = 0
                   ·rw [if_pos c42] at H
                    exact absurd H (by simp)
                   ·rw [if_neg c42] at H
                    have c42b0 : ((Go.bits .or .u64 (Go.bits .or .u64 x0_1 1) 9223372036854775808) == 0) = false := beq_eq_false_iff_ne.mpr c42
                    have c42b1 : ((Go.bits .or .u64 (Go.bits .or .u64 x0_1 1) 9223372036854775808) != 0) = true := bne_iff_ne.mpr c42
                    have H' := Aside0.mk H
                    clear H
                    go_wp2_with (first | ((with_reducible refine gate_callee (f := 37) rfl ?_); refine goesL_ (some 149) rfl rfl Tryd.func37 (by kernel_rfl) rfl #[.int .u64 (Int.tmod x1_1 x0_1), .int .u64 a2, .int .u64 x0_1, .int .u64 (Go.bits .xor .u64 t656 1)] rfl (by (try simp only [List.map_toArray, List.map_cons, List.map_nil]); first | done | rfl | (simp only [List.length_drop, List.length_take]; rfl)) ?_; (with_reducible refine (words_ByReciprocal.calls (Int.tmod x1_1 x0_1) a2 x0_1 (Go.bits .xor .u64 t656 1) t665 t666 t667 _ A38.out).mono ?_); rintro e w' ⟨rfl, ⟨nd, rfl⟩⟩; refine ⟨_, rfl, ?_⟩))
                    go_roundg kj32
                    case measure => have := HK1.out; have := HJ5.out; have := HJ25.out; have := HJ32.out; omega
                    case rel => exact ⟨(Go.bits .or .u64 (Go.bits .or .u64 x0_1 1) 9223372036854775808), (Int.tmod x1_1 (Go.bits .or .u64 (Go.bits .or .u64 x0_1 1) 9223372036854775808)), (wrap64 (x7_1 + 1)), (by first | rfl | (simp; done) | (simp [*]; done)), (by first | rfl | (simp; done) | (simp [*]; done)), (by first | rfl | (simp; done) | (simp [*]; done)), H', ⟨by have := HK1.out; have := HJ5.out; have := HJ25.out; have := HJ32.out; omega⟩, ⟨by repeat (first | (with_reducible first | exact HB.out | apply below_alloc | apply pw_below_drewN | apply below_drew1) | exact HB.out)⟩⟩
                  ·rw [if_neg c41] at H
                   exact absurd H (by simp)
                 ·rw [if_neg c40] at H
                  exact absurd H (by simp)
                ·rw [if_neg c39] at H
                 exact absurd H (by simp)
           ·rw [if_neg c32] at H
            have c32b0 : decide (x0_1 ≤ x1_1) = false := decide_eq_false c32
            clear c32
            replace H := Option.bind_eq_some_iff.mp H
            obtain ⟨⟨t668, t669⟩, A430, H⟩ := H
            replace H : (if t664 = 0 then (if t662 = t668 then (reckonerlaw01_WordsInverses.j4 kj25 x0_1 x1_1 a2 x7_1 t656 (t663 != t669)) else (reckonerlaw01_WordsInverses.j4 kj25 x0_1 x1_1 a2 x7_1 t656 true)) else (reckonerlaw01_WordsInverses.j4 kj25 x0_1 x1_1 a2 x7_1 t656 true)) = some r := H
            have A43 := Aside0.mk A430
            clear A430
            have HC44 := Aside0.mk H
            clear H
            go_upto_region 19 with (first | ((with_reducible refine gate_callee (f := 37) rfl ?_); refine goesL_ (some 105) rfl rfl Tryd.func37 (by kernel_rfl) rfl #[.int .u64 x1_1, .int .u64 a2, .int .u64 x0_1, .int .u64 t656] rfl (by (try simp only [List.map_toArray, List.map_cons, List.map_nil]); first | done | rfl | (simp only [List.length_drop, List.length_take]; rfl)) ?_; (with_reducible refine (words_ByReciprocal.calls x1_1 a2 x0_1 t656 t662 t663 t664 _ A31.out).mono ?_); rintro e w' ⟨rfl, ⟨nd, rfl⟩⟩; refine ⟨_, rfl, ?_⟩) | ((with_reducible refine gate_callee (f := 23) rfl ?_); refine goesL_ (some 126) rfl rfl Tryd.func23 (by kernel_rfl) rfl #[.int .u64 x1_1, .int .u64 a2, .int .u64 x0_1] rfl (by (try simp only [List.map_toArray, List.map_cons, List.map_nil]); first | done | rfl | (simp only [List.length_drop, List.length_take]; rfl)) ?_; (with_reducible refine (reckonerref01_Narrow.calls kj25 x1_1 a2 x0_1 t668 t669 _ A43.out).mono ?_); rintro e w45 ⟨rfl, hb⟩; refine ⟨_, rfl, ?_⟩; have n0_ := Aside0.mk (below_step (by repeat (first | (with_reducible first | exact HB.out | apply below_alloc | apply pw_below_drewN | apply below_drew1) | exact HB.out)) hb); clear HB; have HB := n0_; clear n0_; (try clear hb); (try clear hb2); (try clear hk); (try clear hi)))
            (try simp only [Act.put, List.setIfInBounds_toArray, List.set_cons_zero, List.set_cons_succ])
            go_cut [140] (fun v140 wc => ∃ (kq : Nat) (x140_43 : Bool), v140 = .bool x140_43 ∧ Aside0 (reckonerlaw01_WordsInverses.j4 kq x0_1 x1_1 a2 x7_1 t656 x140_43 = some r) ∧ Aside0 (kq ≤ kj25) ∧ Aside0 (Below w.heap.size w wc))
            case first =>
             have H := HC44.out
             clear HC44
             by_cases c46 : t664 = 0
             ·rw [if_pos c46] at H
              have c46b0 : (t664 == 0) = true := beq_iff_eq.mpr c46
              have c46b1 : (t664 != 0) = false := bne_eq_false_iff_eq.mpr c46
              clear c46
              (first | rw [c46b0] | (simp only [i64_w, i32_w]; rw [c46b0]) | skip)
              by_cases c47 : t662 = t668
              ·rw [if_pos c47] at H
               have c47b0 : (t662 == t668) = true := beq_iff_eq.mpr c47
               have c47b1 : (t662 != t668) = false := bne_eq_false_iff_eq.mpr c47
               clear c47
               have H' := Aside0.mk H
               clear H
               go_wp2
               go_meet
               case rel => exact ⟨_, ((t663 != t669)), (by first | rfl | (simp; done) | (simp [*]; done)), H', ⟨by have := HK1.out; have := HJ5.out; have := HJ25.out; first | omega | exact Nat.le_refl _⟩, ⟨by repeat (first | (with_reducible first | exact HB.out | apply below_alloc | apply pw_below_drewN | apply below_drew1) | exact HB.out)⟩⟩
              ·rw [if_neg c47] at H
               have c47b0 : (t662 == t668) = false := beq_eq_false_iff_ne.mpr c47
               have c47b1 : (t662 != t668) = true := bne_iff_ne.mpr c47
               have H' := Aside0.mk H
               clear H
               go_wp2
               go_meet
               case rel => exact ⟨_, (true), (by first | rfl | (simp; done) | (simp [*]; done)), H', ⟨by have := HK1.out; have := HJ5.out; have := HJ25.out; first | omega | exact Nat.le_refl _⟩, ⟨by repeat (first | (with_reducible first | exact HB.out | apply below_alloc | apply pw_below_drewN | apply below_drew1) | exact HB.out)⟩⟩
             ·rw [if_neg c46] at H
              have c46b0 : (t664 == 0) = false := beq_eq_false_iff_ne.mpr c46
              have c46b1 : (t664 != 0) = true := bne_iff_ne.mpr c46
              (first | rw [c46b0] | (simp only [i64_w, i32_w]; rw [c46b0]) | skip)
              have H' := Aside0.mk H
              clear H
              go_wp2
              go_meet
              case rel => exact ⟨_, (true), (by first | rfl | (simp; done) | (simp [*]; done)), H', ⟨by have := HK1.out; have := HJ5.out; have := HJ25.out; first | omega | exact Nat.le_refl _⟩, ⟨by repeat (first | (with_reducible first | exact HB.out | apply below_alloc | apply pw_below_drewN | apply below_drew1) | exact HB.out)⟩⟩
            case rest =>
             clear HC44
             try clear c1
             try clear c2
             try clear p2
             try clear c3
             try clear c4
             try clear c4b0
             try clear p6
             try clear c7
             try clear c7b0
             try clear c7b1
             try clear c8
             try clear c8b0
             try clear c8b1
             try clear c9
             try clear c9b0
             try clear c9b1
             try clear c10
             try clear c10b0
             try clear c10b1
             try clear c11
             try clear c11b0
             try clear c11b1
             try clear c13
             try clear c13b0
             try clear c13b1
             try clear c14
             try clear c14b0
             try clear c14b1
             try clear c16
             try clear c18
             try clear c18b0
             try clear c20
             try clear c20b0
             try clear c20b1
             try clear c21
             try clear c21b0
             try clear c21b1
             try clear c22
             try clear c22b0
             try clear c22b1
             try clear c23
             try clear c23b0
             try clear c23b1
             try clear c24
             try clear c24b0
             try clear c24b1
             try clear c25
             try clear c25b0
             try clear c25b1
             try clear c27
             try clear c27b0
             try clear c27b1
             try clear c30
             try clear c32
             try clear c32b0
             try clear c34
             try clear c34b0
             try clear c34b1
             try clear c35
             try clear c35b0
             try clear c35b1
             try clear c36
             try clear c37
             try clear c37b0
             try clear c37b1
             try clear c39
             try clear c39b0
             try clear c39b1
             try clear c40
             try clear c40b0
             try clear c40b1
             try clear c41
             try clear c41b0
             try clear c41b1
             try clear c42
             try clear c42b0
             try clear c42b1
             try clear c46
             try clear c46b0
             try clear c46b1
             try clear c47
             try clear c47b0
             try clear c47b1
             try clear p2
             try clear p6
             obtain ⟨kq, x140_43, rfl, HA, HJ43, HB⟩ := hcut
             cases kq with
             | zero => exact absurd HA.out (by simp [reckonerlaw01_WordsInverses.j4])
             | succ kj43 =>
              have H := HA.out
              clear HA
              simp only [reckonerlaw01_WordsInverses.j4] at H
              by_cases c48 : x140_43 = true
              ·subst c48
               have H1 : (none) = some r := by rw [if_pos rfl] at H; exact H
               clear H
               have H := H1
               clear H1
               exact absurd H (by simp)
              ·replace c48 := Bool.eq_false_iff.mpr c48
               subst c48
               have H1 : (if x0_1 = 0 then (none) else ((words_ByReciprocal.f (Int.tmod x1_1 x0_1) a2 x0_1 (Go.bits .xor .u64 t656 1)).bind fun bt670 => (if bt670.2.2 = 1 then (if bt670.1 = 0 then (if bt670.2.1 = 0 then (if (Go.bits .or .u64 (Go.bits .or .u64 x0_1 1) 9223372036854775808) = 0 then (none) else (reckonerlaw01_WordsInverses.l0 kj43 (Go.bits .or .u64 (Go.bits .or .u64 x0_1 1) 9223372036854775808) (Int.tmod x1_1 (Go.bits .or .u64 (Go.bits .or .u64 x0_1 1) 9223372036854775808)) a2 (wrap64 (x7_1 + 1)))) else (none)) else (none)) else (none)))) = some r := by rw [if_neg (show ¬ (false = true) by decide)] at H; exact H
               clear H
               have H := H1
               clear H1
               by_cases c49 : x0_1 = 0
               ·rw [if_pos c49] at H
                exact absurd H (by simp)
               ·rw [if_neg c49] at H
                have c49b0 : (x0_1 == 0) = false := beq_eq_false_iff_ne.mpr c49
                have c49b1 : (x0_1 != 0) = true := bne_iff_ne.mpr c49
                replace H := Option.bind_eq_some_iff.mp H
                obtain ⟨⟨t670, t671, t672⟩, A500, H⟩ := H
                replace H : (if t672 = 1 then (if t670 = 0 then (if t671 = 0 then (if (Go.bits .or .u64 (Go.bits .or .u64 x0_1 1) 9223372036854775808) = 0 then (none) else (reckonerlaw01_WordsInverses.l0 kj43 (Go.bits .or .u64 (Go.bits .or .u64 x0_1 1) 9223372036854775808) (Int.tmod x1_1 (Go.bits .or .u64 (Go.bits .or .u64 x0_1 1) 9223372036854775808)) a2 (wrap64 (x7_1 + 1)))) else (none)) else (none)) else (none)) = some r := H
                have A50 := Aside0.mk A500
                clear A500
                by_cases c51 : t672 = 1
                ·rw [if_pos c51] at H
                 have c51b0 : (t672 == 1) = true := beq_iff_eq.mpr c51
                 have c51b1 : (t672 != 1) = false := bne_eq_false_iff_eq.mpr c51
                 clear c51
                 by_cases c52 : t670 = 0
                 ·rw [if_pos c52] at H
                  have c52b0 : (t670 == 0) = true := beq_iff_eq.mpr c52
                  have c52b1 : (t670 != 0) = false := bne_eq_false_iff_eq.mpr c52
                  clear c52
                  by_cases c53 : t671 = 0
                  ·rw [if_pos c53] at H
                   have c53b0 : (t671 == 0) = true := beq_iff_eq.mpr c53
                   have c53b1 : (t671 != 0) = false := bne_eq_false_iff_eq.mpr c53
                   clear c53
                   by_cases c54 : (Go.bits .or .u64 (Go.bits .or .u64 x0_1 1) 9223372036854775808) = 0
                   ·rw [if_pos c54] at H
                    exact absurd H (by simp)
                   ·rw [if_neg c54] at H
                    have c54b0 : ((Go.bits .or .u64 (Go.bits .or .u64 x0_1 1) 9223372036854775808) == 0) = false := beq_eq_false_iff_ne.mpr c54
                    have c54b1 : ((Go.bits .or .u64 (Go.bits .or .u64 x0_1 1) 9223372036854775808) != 0) = true := bne_iff_ne.mpr c54
                    have H' := Aside0.mk H
                    clear H
                    go_wp2_with (first | ((with_reducible refine gate_callee (f := 37) rfl ?_); refine goesL_ (some 149) rfl rfl Tryd.func37 (by kernel_rfl) rfl #[.int .u64 (Int.tmod x1_1 x0_1), .int .u64 a2, .int .u64 x0_1, .int .u64 (Go.bits .xor .u64 t656 1)] rfl (by (try simp only [List.map_toArray, List.map_cons, List.map_nil]); first | done | rfl | (simp only [List.length_drop, List.length_take]; rfl)) ?_; (with_reducible refine (words_ByReciprocal.calls (Int.tmod x1_1 x0_1) a2 x0_1 (Go.bits .xor .u64 t656 1) t670 t671 t672 _ A50.out).mono ?_); rintro e w' ⟨rfl, ⟨nd, rfl⟩⟩; refine ⟨_, rfl, ?_⟩))
                    go_roundg kj43
                    case measure => have := HK1.out; have := HJ5.out; have := HJ25.out; have := HJ43.out; omega
                    case rel => exact ⟨(Go.bits .or .u64 (Go.bits .or .u64 x0_1 1) 9223372036854775808), (Int.tmod x1_1 (Go.bits .or .u64 (Go.bits .or .u64 x0_1 1) 9223372036854775808)), (wrap64 (x7_1 + 1)), (by first | rfl | (simp; done) | (simp [*]; done)), (by first | rfl | (simp; done) | (simp [*]; done)), (by first | rfl | (simp; done) | (simp [*]; done)), H', ⟨by have := HK1.out; have := HJ5.out; have := HJ25.out; have := HJ43.out; omega⟩, ⟨by repeat (first | (with_reducible first | exact HB.out | apply below_alloc | apply pw_below_drewN | apply below_drew1) | exact HB.out)⟩⟩
                  ·rw [if_neg c53] at H
                   exact absurd H (by simp)
                 ·rw [if_neg c52] at H
                  exact absurd H (by simp)
                ·rw [if_neg c51] at H
                 exact absurd H (by simp)
   ·rw [if_neg c4] at H
    have c4b0 : decide (x7_1 < 2) = false := decide_eq_false c4
    clear c4
    replace H := Option.bind_eq_some_iff.mp H
    obtain ⟨t651, A550, H⟩ := H
    replace H : (some t651) = some r := H
    have A55 := Aside0.mk A550
    clear A550
    obtain rfl := Option.some.inj H
    go_wp2_with (first | ((with_reducible refine gate_callee (f := 19) rfl ?_); refine goesL_ (some 169) rfl rfl Tryd.func19 (by kernel_rfl) rfl #[] rfl (by (try simp only [List.map_toArray, List.map_cons, List.map_nil]); first | done | rfl | (simp only [List.length_drop, List.length_take]; rfl)) ?_; (with_reducible refine (reckonerlaw01_awake.calls k1  t651 _ (Laid.below HLd.out (by repeat (first | (with_reducible first | exact HB.out | apply below_alloc | apply pw_below_drewN | apply below_drew1) | exact HB.out))) A55.out).mono ?_); rintro e w56 ⟨rfl, hb⟩; refine ⟨_, rfl, ?_⟩; have n0_ := Aside0.mk (below_step (by repeat (first | (with_reducible first | exact HB.out | apply below_alloc | apply pw_below_drewN | apply below_drew1) | exact HB.out)) hb); clear HB; have HB := n0_; clear n0_; (try clear hb); (try clear hb2); (try clear hk); (try clear hi)))
    go_ret
    exact ⟨by first | rfl | (simp [errW_none, errW_some] <;> rfl) | (simp [*, errW_none, errW_some] <;> rfl), by repeat (first | (with_reducible first | exact HB.out | apply below_alloc | apply pw_below_drewN | apply below_drew1) | exact HB.out)⟩
/-- THE ONE PURE STATEMENT of reckonerlaw01_WordsInverses: yours. -/
def reckonerlaw01_WordsInverses.Pure : Prop := ∀ (a0 : Int) (a1 : Int) (a2 : Int), (Lit.int .u64 a0).wf = true → (Lit.int .u64 a1).wf = true → (Lit.int .u64 a2).wf = true → ∃ k, reckonerlaw01_WordsInverses.f k a0 a1 a2 = some true
theorem reckonerlaw01_WordsInverses.walk (P : reckonerlaw01_WordsInverses.Pure) (a0 : Int) (a1 : Int) (a2 : Int) (w : World) (w0 : (Lit.int .u64 a0).wf = true) (w1 : (Lit.int .u64 a1).wf = true) (w2 : (Lit.int .u64 a2).wf = true) (hg : Laid w) :
    Calls Tryd.prog 7 #[.int .u64 a0, .int .u64 a1, .int .u64 a2] w fun e w' => e = .returned (.bool true) ∧ Below w.heap.size w w' := by
  obtain ⟨k, h⟩ := P a0 a1 a2 w0 w1 w2
  refine (reckonerlaw01_WordsInverses.calls k a0 a1 a2 true w hg h).mono ?_
  rintro e w' ⟨rfl, hd⟩
  exact ⟨rfl, hd⟩
end Go.Proofs.YtldefhhfcbmbpaaDoor.T
/- Values of rows of digits: no program here. -/
namespace Go.Proofs.YtldefhhfcbmbpaaDoor.Ex
set_option linter.unusedVariables false

/-- The value of a row of digits, the lowest first. -/
def valB (B : Int) : List Int → Int
  | [] => 0
  | x :: l => x + B * valB B l
/-- All are digits. -/
def inB (B : Int) (l : List Int) : Prop := ∀ x ∈ l, 0 ≤ x ∧ x < B
theorem inB_cons {B x : Int} {l : List Int} : inB B (x :: l) ↔ (0 ≤ x ∧ x < B) ∧ inB B l := by simp [inB]
theorem inB_nil {B : Int} : inB B [] := fun _ h => by cases h
theorem inB_append {B : Int} {a b : List Int} : inB B (a ++ b) ↔ inB B a ∧ inB B b := by
  constructor
  · exact fun h => ⟨fun x hx => h x (List.mem_append_left _ hx), fun x hx => h x (List.mem_append_right _ hx)⟩
  · rintro ⟨h1, h2⟩ x hx
    rcases List.mem_append.1 hx with h | h
    · exact h1 x h
    · exact h2 x h
theorem inB_take {B : Int} {l : List Int} (h : inB B l) (n : Nat) : inB B (l.take n) := fun x hx => h x (List.mem_of_mem_take hx)
theorem inB_drop {B : Int} {l : List Int} (h : inB B l) (n : Nat) : inB B (l.drop n) := fun x hx => h x (List.mem_of_mem_drop hx)
theorem inB_zeros {B : Int} (hB : 0 < B) (n : Nat) : inB B (List.replicate n 0) := fun x hx => by rw [List.eq_of_mem_replicate hx]; exact ⟨Int.le_refl 0, hB⟩
theorem inB_getD {B : Int} (hB : 0 < B) {l : List Int} (h : inB B l) (i : Nat) : 0 ≤ l.getD i 0 ∧ l.getD i 0 < B := by
  rw [List.getD_eq_getElem?_getD]
  cases hx : l[i]? with
  | none => exact ⟨Int.le_refl 0, hB⟩
  | some x => exact h x (List.mem_of_getElem? hx)
theorem inB_set {B : Int} {l : List Int} (h : inB B l) (i : Nat) {x : Int} (hx : 0 ≤ x ∧ x < B) : inB B (l.set i x) := fun y hy => by
  rcases List.mem_or_eq_of_mem_set hy with h1 | h1
  · exact h y h1
  · rw [h1]; exact hx
theorem valB_append (B : Int) : ∀ a b : List Int, valB B (a ++ b) = valB B a + B ^ a.length * valB B b
  | [], b => by simp [valB]
  | x :: a, b => by
    show x + B * valB B (a ++ b) = x + B * valB B a + B ^ (a.length + 1) * valB B b
    rw [valB_append B a b, Int.mul_add, Int.pow_succ, Int.mul_comm (B ^ a.length) B, Int.mul_assoc, Int.add_assoc]
theorem valB_zeros (B : Int) : ∀ n, valB B (List.replicate n 0) = 0
  | 0 => rfl
  | n + 1 => by simp [List.replicate_succ, valB, valB_zeros B n]
theorem valB_nonneg {B : Int} (hB : 0 < B) : ∀ {l : List Int}, inB B l → 0 ≤ valB B l
  | [], _ => Int.le_refl 0
  | x :: l, h => by
    have h1 := inB_cons.1 h
    have h2 := valB_nonneg hB h1.2
    have h3 := Int.mul_nonneg (Int.le_of_lt hB) h2
    show 0 ≤ x + B * valB B l
    omega
theorem valB_lt {B : Int} (hB : 0 < B) : ∀ {l : List Int}, inB B l → valB B l < B ^ l.length
  | [], _ => by simp [valB]
  | x :: l, h => by
    have h1 := inB_cons.1 h
    have h2 := valB_lt hB h1.2
    have h3 : B * (valB B l + 1) ≤ B * B ^ l.length := Int.mul_le_mul_of_nonneg_left h2 (Int.le_of_lt hB)
    rw [Int.mul_add, Int.mul_one] at h3
    show x + B * valB B l < B ^ (l.length + 1)
    rw [Int.pow_succ, Int.mul_comm (B ^ l.length)]
    omega
theorem valB_inj {B : Int} (hB : 0 < B) : ∀ {a b : List Int}, inB B a → inB B b → a.length = b.length → valB B a = valB B b → a = b
  | [], [], _, _, _, _ => rfl
  | x :: a, y :: b, ha, hb, hl, hv => by
    have h1 := inB_cons.1 ha
    have h2 := inB_cons.1 hb
    have hv' : x + B * valB B a = y + B * valB B b := hv
    have e1 : (x + B * valB B a) % B = x := by rw [Int.add_mul_emod_self_left]; exact Int.emod_eq_of_lt h1.1.1 h1.1.2
    have e2 : (y + B * valB B b) % B = y := by rw [Int.add_mul_emod_self_left]; exact Int.emod_eq_of_lt h2.1.1 h2.1.2
    have e3 : x = y := by rw [← e1, hv', e2]
    subst e3
    have e4 : B * valB B a = B * valB B b := by omega
    have e5 : valB B a = valB B b := Int.eq_of_mul_eq_mul_left (by omega) e4
    rw [valB_inj hB h1.2 h2.2 (by simpa using hl) e5]
  | [], _ :: _, _, _, hl, _ => by simp at hl
  | _ :: _, [], _, _, hl, _ => by simp at hl
theorem valB_split (B : Int) (l : List Int) (n : Nat) (h : n ≤ l.length) : valB B l = valB B (l.take n) + B ^ n * valB B (l.drop n) := by
  have h1 := valB_append B (l.take n) (l.drop n)
  rw [List.take_append_drop, List.length_take, Nat.min_eq_left h] at h1
  exact h1
theorem pow_posB {B : Int} (hB : 0 < B) (n : Nat) : 0 < B ^ n := Int.pow_pos hB
theorem valB_take {B : Int} (hB : 0 < B) {l : List Int} (hl : inB B l) (n : Nat) (h : n ≤ l.length) : valB B (l.take n) = valB B l % B ^ n := by
  have h1 := valB_lt hB (inB_take hl n)
  rw [List.length_take, Nat.min_eq_left h] at h1
  rw [valB_split B l n h, Int.add_mul_emod_self_left]
  exact (Int.emod_eq_of_lt (valB_nonneg hB (inB_take hl n)) h1).symm
theorem valB_drop {B : Int} (hB : 0 < B) {l : List Int} (hl : inB B l) (n : Nat) (h : n ≤ l.length) : valB B (l.drop n) = valB B l / B ^ n := by
  have h1 := valB_lt hB (inB_take hl n)
  rw [List.length_take, Nat.min_eq_left h] at h1
  have hp := pow_posB hB n
  rw [valB_split B l n h, Int.add_mul_ediv_left _ _ (by omega), Int.ediv_eq_zero_of_lt (valB_nonneg hB (inB_take hl n)) h1, Int.zero_add]
/-- A digit is set. -/
theorem valB_set (B : Int) : ∀ (l : List Int) (j : Nat) (x : Int), j < l.length → valB B (l.set j x) = valB B l + B ^ j * (x - l.getD j 0)
  | [], j, x, h => by simp at h
  | y :: l, 0, x, _ => by
    show x + B * valB B l = y + B * valB B l + B ^ 0 * (x - y)
    rw [Int.pow_zero, Int.one_mul]
    omega
  | y :: l, j + 1, x, h => by
    show y + B * valB B (l.set j x) = y + B * valB B l + B ^ (j + 1) * (x - l.getD j 0)
    rw [valB_set B l j x (by simpa using h), Int.mul_add, Int.pow_succ, Int.mul_comm (B ^ j) B, Int.mul_assoc]
    omega
theorem valB_take_succ (B : Int) (l : List Int) (i : Nat) (h : i < l.length) : valB B (l.take (i + 1)) = valB B (l.take i) + B ^ i * l.getD i 0 := by
  rw [List.take_succ_eq_append_getElem h, valB_append, List.length_take, Nat.min_eq_left (by omega)]
  simp [valB, List.getD_eq_getElem?_getD, List.getElem?_eq_getElem h]
/-- Two numbers of the form a + M b, a below M, are equal in both. -/
theorem div_unique {M a b a' b' : Int} (ha : 0 ≤ a) (ha' : a < M) (hb : 0 ≤ a') (hb' : a' < M) (h : a + M * b = a' + M * b') : a = a' ∧ b = b' := by
  have e1 : (a + M * b) % M = a := by rw [Int.add_mul_emod_self_left]; exact Int.emod_eq_of_lt ha ha'
  have e2 : (a' + M * b') % M = a' := by rw [Int.add_mul_emod_self_left]; exact Int.emod_eq_of_lt hb hb'
  have e3 : a = a' := by rw [← e1, h, e2]
  refine ⟨e3, ?_⟩
  subst e3
  exact Int.eq_of_mul_eq_mul_left (by omega) (by omega : M * b = M * b')
/-- The sum of n terms from i on, each times a power. -/
def sumB (B : Int) (t : Nat → Int) : Nat → Nat → Int
  | _, 0 => 0
  | i, n + 1 => t i + B * sumB B t (i + 1) n
theorem sumB_val (B : Int) (l : List Int) : ∀ n i, i + n = l.length → sumB B (fun j => l.getD j 0) i n = valB B (l.drop i)
  | 0, i, h => by rw [List.drop_of_length_le (by omega)]; rfl
  | n + 1, i, h => by
    have hi : i < l.length := by omega
    rw [List.drop_eq_getElem_cons hi]
    show l.getD i 0 + B * sumB B _ (i + 1) n = l[i] + B * valB B (l.drop (i + 1))
    rw [sumB_val B l n (i + 1) (by omega)]
    congr 1
    simp [List.getD_eq_getElem?_getD, List.getElem?_eq_getElem hi]
theorem sumB_add (B : Int) (t u : Nat → Int) : ∀ n i, sumB B (fun j => t j + u j) i n = sumB B t i n + sumB B u i n
  | 0, _ => rfl
  | n + 1, i => by
    show (t i + u i) + B * sumB B _ (i + 1) n = (t i + B * sumB B t (i + 1) n) + (u i + B * sumB B u (i + 1) n)
    rw [sumB_add B t u n (i + 1), Int.mul_add]
    omega
theorem sumB_smul (B : Int) (t : Nat → Int) (w : Int) : ∀ n i, sumB B (fun j => t j * w) i n = sumB B t i n * w
  | 0, _ => by simp [sumB]
  | n + 1, i => by
    show t i * w + B * sumB B _ (i + 1) n = (t i + B * sumB B t (i + 1) n) * w
    rw [sumB_smul B t w n (i + 1), Int.add_mul, Int.mul_assoc]
theorem sumB_all (B : Int) (l : List Int) : sumB B (fun j => l.getD j 0) 0 l.length = valB B l := by
  rw [sumB_val B l l.length 0 (by omega), List.drop_zero]
theorem getD_beyond (l : List Int) (i : Nat) (h : l.length ≤ i) : l.getD i 0 = 0 := by simp [List.getD_eq_getElem?_getD, List.getElem?_eq_none h]
theorem sumB_zero (B : Int) (t : Nat → Int) : ∀ n i, (∀ j, i ≤ j → j < i + n → t j = 0) → sumB B t i n = 0
  | 0, _, _ => rfl
  | n + 1, i, h => by
    show t i + B * sumB B t (i + 1) n = 0
    rw [h i (Nat.le_refl _) (by omega), sumB_zero B t n (i + 1) (fun j h1 h2 => h j (by omega) (by omega)), Int.mul_zero, Int.add_zero]
theorem sumB_app (B : Int) (t : Nat → Int) : ∀ n m i, sumB B t i (n + m) = sumB B t i n + B ^ n * sumB B t (i + n) m
  | 0, m, i => by simp [sumB]
  | n + 1, m, i => by
    rw [show n + 1 + m = (n + m) + 1 by omega]
    show t i + B * sumB B t (i + 1) (n + m) = t i + B * sumB B t (i + 1) n + B ^ (n + 1) * sumB B t (i + (n + 1)) m
    rw [sumB_app B t n m (i + 1), Int.mul_add, ← Int.mul_assoc, ← Int.pow_succ', show i + 1 + n = i + (n + 1) by omega]
    omega
/-- Beyond the end there is nothing. -/
theorem sumB_pad (B : Int) (l : List Int) (n : Nat) (h : l.length ≤ n) : sumB B (fun j => l.getD j 0) 0 n = valB B l := by
  obtain ⟨m, rfl⟩ : ∃ m, n = l.length + m := ⟨n - l.length, by omega⟩
  rw [sumB_app, sumB_all, sumB_zero B _ m _ (fun j h1 _ => getD_beyond l j (by omega)), Int.mul_zero, Int.add_zero]
/-- What a step for each word makes of what is carried: σ is 1, or -1 where it is borrowed. -/
theorem carryL_val (B : Int) (f : Nat → Int → Int × Int) (t : Nat → Int) (σ : Int) (I : Int → Prop) :
    ∀ n i c, I c → (∀ j, i ≤ j → j < i + n → ∀ c, I c → I (f j c).2 ∧ (0 ≤ (f j c).1 ∧ (f j c).1 < B) ∧ (f j c).1 + B * (σ * (f j c).2) = t j + σ * c) →
      I (carryL f n i c).2 ∧ inB B (carryL f n i c).1 ∧ valB B (carryL f n i c).1 + B ^ n * (σ * (carryL f n i c).2) = sumB B t i n + σ * c
  | 0, i, c, hc, _ => ⟨hc, inB_nil, by simp [carryL, valB, sumB]⟩
  | n + 1, i, c, hc, h => by
    obtain ⟨h1, h2, h3⟩ := h i (Nat.le_refl _) (by omega) c hc
    obtain ⟨k1, k2, k3⟩ := carryL_val B f t σ I n (i + 1) (f i c).2 h1 (fun j a b => h j (by omega) (by omega))
    refine ⟨k1, inB_cons.2 ⟨h2, k2⟩, ?_⟩
    show (f i c).1 + B * valB B (carryL f n (i + 1) (f i c).2).1 + B ^ (n + 1) * (σ * (carryL f n (i + 1) (f i c).2).2) = t i + B * sumB B t (i + 1) n + σ * c
    have e : B * (valB B (carryL f n (i + 1) (f i c).2).1 + B ^ n * (σ * (carryL f n (i + 1) (f i c).2).2)) = B * (sumB B t (i + 1) n + σ * (f i c).2) := by rw [k3]
    rw [Int.mul_add, Int.mul_add, ← Int.mul_assoc B (B ^ n), ← Int.pow_succ'] at e
    omega
end Go.Proofs.YtldefhhfcbmbpaaDoor.Ex
/- The values of what the functions on rows of words hand back: no program here. -/
namespace Go.Proofs.YtldefhhfcbmbpaaDoor.Ex
set_option linter.unusedVariables false

theorem inB_of_inW {l : List Int} (h : inW l) : inB W64 l := h
end Go.Proofs.YtldefhhfcbmbpaaDoor.Ex
/- What the reference's functions on digits hand back (printed in Tx1, Tx2). -/
namespace Go.Proofs.YtldefhhfcbmbpaaDoor.Ex
open Go.RowKit Go.Proofs.YtldefhhfcbmbpaaDoorW.PrintWords Go.Proofs.YtldefhhfcbmbpaaDoorW.PrintLast Go.Proofs.YtldefhhfcbmbpaaDoorW.PrintMore Go.Proofs.YtldefhhfcbmbpaaDoor.T
set_option linter.unusedVariables false
set_option linter.unusedSimpArgs false

/-- The base of the reference's digits. -/
def H32 : Int := 4294967296
theorem H32_eq : H32 = 4294967296 := rfl
theorem H32_pos : 0 < H32 := by decide
theorem H32_sq : H32 * H32 = W64 := by decide
theorem rd_nat (l : List Int) (i : Nat) : rd l (i : Int) = l.getD i 0 := by simp [rd]
theorem w64_nat (n : Nat) (h : n < 4611686018427387904) : wrap64 (n : Int) = (n : Int) := by unfold wrap64; omega
theorem w64_int (n : Int) (h0 : -4611686018427387904 ≤ n) (h : n < 4611686018427387904) : wrap64 n = n := by unfold wrap64; omega
theorem wrapW (q : Int) (h0 : 0 ≤ q) (h1 : q < 18446744073709551616) : IntKind.u64.wrap q = q := Int.emod_eq_of_lt h0 h1
theorem tmodH (q : Int) (h : 0 ≤ q) : Int.tmod q 4294967296 = q % H32 := Int.tmod_eq_emod_of_nonneg h
theorem tdivH (q : Int) (h : 0 ≤ q) : Int.tdiv q 4294967296 = q / H32 := Int.tdiv_eq_ediv_of_nonneg h
theorem Ev.now' {α : Type} {g : Nat → Option α} {r : α} (h : ∀ k, g (k + 1) = some r) : Ev g r := Ev.step h (Ev.now r)
/-! ### digits -/
def digitsL : List Int → List Int
  | [] => []
  | x :: l => x % H32 :: x / H32 :: digitsL l
theorem digitsL_length : ∀ l, (digitsL l).length = 2 * l.length
  | [] => rfl
  | x :: l => by simp [digitsL, digitsL_length l]; omega
theorem digitsL_in : ∀ {l}, inW l → inB H32 (digitsL l)
  | [], _ => inB_nil
  | x :: l, h => by
    have h1 := inW_cons.1 h
    have h2 := h1.1.1
    have h3 := h1.1.2
    rw [W64_eq] at h3
    exact inB_cons.2 ⟨by rw [H32_eq]; omega, inB_cons.2 ⟨by rw [H32_eq]; omega, digitsL_in h1.2⟩⟩
theorem digitsL_val : ∀ l, valB H32 (digitsL l) = valB W64 l
  | [] => rfl
  | x :: l => by
    show x % H32 + H32 * (x / H32 + H32 * valB H32 (digitsL l)) = x + W64 * valB W64 l
    rw [digitsL_val l, Int.mul_add, ← Int.mul_assoc, H32_sq, ← Int.add_assoc]
    have := Int.emod_add_mul_ediv x H32
    omega
theorem Digits_loop (l : List Int) (hl : inW l) (hn : l.length ≤ 1000000) : ∀ n i acc, i + n = l.length → acc.length = 2 * i → Ev (fun k => reckonerref01_Digits.l0 k l acc (i : Int)) (acc ++ digitsL (l.drop i))
  | 0, i, acc, h, _ => by
    rw [List.drop_of_length_le (by omega)]
    refine Ev.now' fun k => ?_
    rw [reckonerref01_Digits.l0, if_neg (by omega)]
    simp [digitsL]
  | n + 1, i, acc, h, ha => by
    have hi : i < l.length := by omega
    have ih := Digits_loop l hl hn n (i + 1) (acc ++ [l[i] % H32, l[i] / H32]) (by omega) (by simp [ha]; omega)
    have hx : isW l[i] := hl _ (List.getElem_mem _)
    have h1 := hx.1
    have h2 := hx.2
    rw [W64_eq] at h2
    rw [List.drop_eq_getElem_cons hi]
    have e : acc ++ digitsL (l[i] :: l.drop (i + 1)) = (acc ++ [l[i] % H32, l[i] / H32]) ++ digitsL (l.drop (i + 1)) := by simp [digitsL]
    rw [e]
    refine Ev.step (fun k => ?_) ih
    have hg : l.getD i 0 = l[i] := by simp [List.getD_eq_getElem?_getD, List.getElem?_eq_getElem hi]
    have e1 : wrap64 ((i : Int) + 1) = ((i + 1 : Nat) : Int) := by rw [← w64_nat (i + 1) (by omega)]; rfl
    rw [reckonerref01_Digits.l0, if_pos (by omega), if_pos (by omega), Option.bind_some, if_pos (by simp; omega), rd_nat, hg, e1, tmodH _ h1, tdivH _ h1, wrapW _ (by rw [H32_eq]; omega) (by rw [H32_eq]; omega)]
theorem Digits_ev (l : List Int) (hl : inW l) (hn : l.length ≤ 1000000) : Ev (fun k => reckonerref01_Digits.f k l) (digitsL l) := by
  have h := Digits_loop l hl hn l.length 0 [] (by omega) rfl
  rw [List.drop_zero, List.nil_append] at h
  exact h
/-! ### a row of digits -/
def rowL : List Int → List Int
  | a :: b :: l => (a + b * H32) :: rowL l
  | _ => []
theorem rowL_in : ∀ {d}, inB H32 d → inW (rowL d)
  | [], _ => inW_nil
  | [_], _ => inW_nil
  | a :: b :: l, h => by
    have h1 := inB_cons.1 h
    have h2 := inB_cons.1 h1.2
    have h3 := h1.1
    have h4 := h2.1
    rw [H32_eq] at h3 h4
    exact inW_cons.2 ⟨by unfold isW; rw [H32_eq, W64_eq]; omega, rowL_in h2.2⟩
theorem rowL_length : ∀ d, (rowL d).length = d.length / 2
  | [] => rfl
  | [_] => by simp [rowL]
  | a :: b :: l => by
    have h := rowL_length l
    show (rowL l).length + 1 = (l.length + 1 + 1) / 2
    omega
theorem rowL_val : ∀ d, d.length % 2 = 0 → valB W64 (rowL d) = valB H32 d
  | [], _ => rfl
  | [_], h => by simp at h
  | a :: b :: l, h => by
    show a + b * H32 + W64 * valB W64 (rowL l) = a + H32 * (b + H32 * valB H32 l)
    rw [rowL_val l (by simp at h; omega), Int.mul_add, ← Int.mul_assoc, H32_sq, Int.mul_comm b]
    omega
theorem Row_loop (d : List Int) (hd : inB H32 d) (hn : d.length ≤ 4000000) : ∀ n i acc, 2 * (i + n) = d.length ∨ 2 * (i + n) + 1 = d.length → acc.length = i → Ev (fun k => reckonerref01_Row.l0 k d acc ((2 * i : Nat) : Int)) (acc ++ rowL (d.drop (2 * i)))
  | 0, i, acc, h, _ => by
    have e : rowL (d.drop (2 * i)) = [] := by
      have h1 : (d.drop (2 * i)).length ≤ 1 := by rw [List.length_drop]; omega
      match hm : d.drop (2 * i), h1 with
      | [], _ => rfl
      | [_], _ => rfl
      | _ :: _ :: _, h1 => simp at h1
    rw [e, List.append_nil]
    refine Ev.now' fun k => ?_
    have e1 : wrap64 (((2 * i : Nat) : Int) + 1) = ((2 * i + 1 : Nat) : Int) := by rw [← w64_nat (2 * i + 1) (by omega)]; rfl
    rw [reckonerref01_Row.l0, e1, if_neg (by omega)]
  | n + 1, i, acc, h, ha => by
    have hi : 2 * i < d.length := by omega
    have hi1 : 2 * i + 1 < d.length := by omega
    have ih := Row_loop d hd hn n (i + 1) (acc ++ [d[2 * i] + d[2 * i + 1] * H32]) (by omega) (by simp [ha])
    have h1 := hd _ (List.getElem_mem hi)
    have h2 := hd _ (List.getElem_mem hi1)
    rw [H32_eq] at h1 h2
    rw [List.drop_eq_getElem_cons hi, List.drop_eq_getElem_cons hi1]
    have e : acc ++ rowL (d[2 * i] :: d[2 * i + 1] :: d.drop (2 * i + 1 + 1)) = (acc ++ [d[2 * i] + d[2 * i + 1] * H32]) ++ rowL (d.drop (2 * (i + 1))) := by simp [rowL, Nat.mul_add]
    rw [e]
    refine Ev.step (fun k => ?_) ih
    have hg : d.getD (2 * i) 0 = d[2 * i] := by simp [List.getD_eq_getElem?_getD, List.getElem?_eq_getElem hi]
    have hg1 : d.getD (2 * i + 1) 0 = d[2 * i + 1] := by simp [List.getD_eq_getElem?_getD, List.getElem?_eq_getElem hi1]
    have e1 : wrap64 (((2 * i : Nat) : Int) + 1) = ((2 * i + 1 : Nat) : Int) := by rw [← w64_nat (2 * i + 1) (by omega)]; rfl
    have e2 : wrap64 (((2 * i : Nat) : Int) + 2) = ((2 * (i + 1) : Nat) : Int) := by rw [← w64_nat (2 * (i + 1)) (by omega)]; rfl
    rw [reckonerref01_Row.l0, e1, if_pos (by omega), if_pos (by omega), if_pos (by omega), if_pos (by omega), if_pos (by omega), rd_nat, rd_nat, hg, hg1, e2, wrapW (d[2 * i + 1] * 4294967296) (by omega) (by omega), wrapW _ (by omega) (by omega)]
    rfl
theorem Row_ev (d : List Int) (hd : inB H32 d) (hn : d.length ≤ 4000000) : Ev (fun k => reckonerref01_Row.f k d) (rowL d) := by
  have h := Row_loop d hd hn (d.length / 2) 0 [] (by omega) rfl
  rw [List.drop_zero, List.nil_append] at h
  exact h
/-! ### a digit, 0 beyond the end -/
theorem digit_some (a : List Int) (i : Nat) : reckonerref01_digit.f a (i : Int) = some (a.getD i 0) := by
  unfold reckonerref01_digit.f
  by_cases h : i < a.length
  · rw [if_pos (by omega), if_pos (by omega), rd_nat]
  · rw [if_neg (by omega)]
    simp [List.getD_eq_getElem?_getD, List.getElem?_eq_none (by omega : a.length ≤ i)]
/-! ### sums -/
/-! ### differences -/
def minusS (a b : List Int) (i : Nat) (c : Int) : Int × Int := ((a.getD i 0 + H32 - b.getD i 0 - c) % H32, 1 - (a.getD i 0 + H32 - b.getD i 0 - c) / H32)
theorem minusS_ok {a b : List Int} (ha : inB H32 a) (hb : inB H32 b) (i : Nat) {c : Int} (hc : 0 ≤ c ∧ c ≤ 1) :
    (0 ≤ (minusS a b i c).2 ∧ (minusS a b i c).2 ≤ 1) ∧ (0 ≤ (minusS a b i c).1 ∧ (minusS a b i c).1 < H32) ∧ (minusS a b i c).1 + H32 * (-1 * (minusS a b i c).2) = (a.getD i 0 + b.getD i 0 * (-1)) + -1 * c := by
  have h1 := inB_getD H32_pos ha i
  have h2 := inB_getD H32_pos hb i
  unfold minusS
  simp only [H32_eq] at *
  omega
theorem Minus_loop (a b : List Int) (ha : inB H32 a) (hb : inB H32 b) (hn : a.length ≤ 4000000) : ∀ n i c (acc : List Int), i + n = a.length → acc.length = i → 0 ≤ c ∧ c ≤ 1 →
    Ev (fun k => reckonerref01_Minus.l0 k a b acc c (i : Int)) (acc ++ (carryL (minusS a b) n i c).1, ((carryL (minusS a b) n i c).2 == 1))
  | 0, i, c, acc, h, hacc, hc => by
    refine Ev.now' fun k => ?_
    rw [reckonerref01_Minus.l0, if_neg (by omega)]
    simp [carryL]
  | n + 1, i, c, acc, h, hacc, hc => by
    have q1 : acc.length < 17592186044416 := by omega
    have q2 : (i : Int) < (a.length : Int) := by omega
    have q2' : (0 : Int) ≤ (i : Int) := by omega
    have h1 := inB_getD H32_pos ha i
    have h2 := inB_getD H32_pos hb i
    rw [H32_eq] at h1 h2
    have q3 : IntKind.u64.wrap (a.getD i 0 + 4294967296) = a.getD i 0 + 4294967296 := wrapW _ (by omega) (by omega)
    have q4 : IntKind.u64.wrap (a.getD i 0 + 4294967296 - b.getD i 0) = a.getD i 0 + 4294967296 - b.getD i 0 := wrapW _ (by omega) (by omega)
    have q5 : 0 ≤ a.getD i 0 + 4294967296 - b.getD i 0 - c ∧ a.getD i 0 + 4294967296 - b.getD i 0 - c < 18446744073709551616 := by omega
    have q6 : 0 ≤ (a.getD i 0 + 4294967296 - b.getD i 0 - c) / H32 ∧ (a.getD i 0 + 4294967296 - b.getD i 0 - c) / H32 ≤ 1 := by rw [H32_eq]; omega
    have q7 : (a.getD i 0 + 4294967296 - b.getD i 0 - c) / H32 < 18446744073709551616 := by omega
    have q8 : 0 ≤ 1 - (a.getD i 0 + 4294967296 - b.getD i 0 - c) / H32 ∧ 1 - (a.getD i 0 + 4294967296 - b.getD i 0 - c) / H32 < 18446744073709551616 := by omega
    have e1 : wrap64 ((i : Int) + 1) = ((i + 1 : Nat) : Int) := by rw [← w64_nat (i + 1) (by omega)]; rfl
    obtain ⟨k1, k2, _⟩ := minusS_ok ha hb i hc
    have ih := Minus_loop a b ha hb hn n (i + 1) (minusS a b i c).2 (acc ++ [(minusS a b i c).1]) (by omega) (by simp [hacc]) k1
    have e : acc ++ (carryL (minusS a b) (n + 1) i c).1 = (acc ++ [(minusS a b i c).1]) ++ (carryL (minusS a b) n (i + 1) (minusS a b i c).2).1 := by simp [carryL]
    have e0 : (carryL (minusS a b) (n + 1) i c).2 = (carryL (minusS a b) n (i + 1) (minusS a b i c).2).2 := by simp [carryL]
    rw [e, e0]
    refine Ev.step (fun k => ?_) ih
    rw [reckonerref01_Minus.l0, if_pos q2, if_pos q2', digit_some, Option.bind_some, if_pos q1, e1, rd_nat, q3, q4, wrapW _ q5.1 q5.2, tmodH _ q5.1, tdivH _ q5.1, wrapW _ q6.1 q7, wrapW _ q8.1 q8.2]
    rfl
/-- A difference of digits, where b is not longer than a, and what was borrowed. -/
theorem Minus_ev (a b : List Int) (ha : inB H32 a) (hb : inB H32 b) (hn : a.length ≤ 4000000) (hl : b.length ≤ a.length) :
    ∃ r c, Ev (fun k => reckonerref01_Minus.f k a b) (r, (c == 1)) ∧ (0 ≤ c ∧ c ≤ 1) ∧ inB H32 r ∧ r.length = a.length ∧ valB H32 r - H32 ^ a.length * c = valB H32 a - valB H32 b := by
  have h := Minus_loop a b ha hb hn a.length 0 0 [] (by omega) rfl ⟨Int.le_refl 0, by decide⟩
  obtain ⟨k1, k2, k3⟩ := carryL_val H32 (minusS a b) (fun i => a.getD i 0 + b.getD i 0 * (-1)) (-1) (fun c => 0 ≤ c ∧ c ≤ 1) a.length 0 0 ⟨Int.le_refl 0, by decide⟩ (fun j _ _ c hc => minusS_ok ha hb j hc)
  rw [List.nil_append] at h
  refine ⟨_, _, h, k1, k2, carryL_length _ _ _ _, ?_⟩
  rw [sumB_add, sumB_smul, sumB_all, sumB_pad H32 b _ hl] at k3
  rw [Int.neg_mul, Int.one_mul, Int.mul_neg] at k3
  omega
/-! ### two rows the same -/
theorem Same_loop (a b : List Int) (hl : a.length = b.length) (hn : a.length ≤ 1000000) : ∀ n i, i + n = a.length → a.take i = b.take i → Ev (fun k => reckonerref01_Same.l0 k a b (i : Int)) (decide (a = b))
  | 0, i, h, ht => by
    refine Ev.now' fun k => ?_
    rw [List.take_of_length_le (by omega), List.take_of_length_le (by omega)] at ht
    rw [reckonerref01_Same.l0, if_neg (by omega), decide_eq_true ht]
  | n + 1, i, h, ht => by
    have e1 : wrap64 ((i : Int) + 1) = ((i + 1 : Nat) : Int) := by rw [← w64_nat (i + 1) (by omega)]; rfl
    have hi : i < a.length := by omega
    have hi' : i < b.length := by omega
    have ga : a.getD i 0 = a[i] := by simp [List.getD_eq_getElem?_getD, List.getElem?_eq_getElem hi]
    have gb : b.getD i 0 = b[i] := by simp [List.getD_eq_getElem?_getD, List.getElem?_eq_getElem hi']
    by_cases hs : a[i] = b[i]
    · refine Ev.step (fun k => ?_) (Same_loop a b hl hn n (i + 1) (by omega) ?_)
      · rw [reckonerref01_Same.l0, if_pos (by omega), if_pos (by omega), if_pos (by omega), rd_nat, rd_nat, ga, gb, if_pos hs, e1]
      · rw [List.take_succ_eq_append_getElem hi, List.take_succ_eq_append_getElem hi', ht, hs]
    · refine Ev.now' fun k => ?_
      rw [reckonerref01_Same.l0, if_pos (by omega), if_pos (by omega), if_pos (by omega), rd_nat, rd_nat, ga, gb, if_neg hs]
      rw [decide_eq_false]
      rintro rfl
      exact hs rfl
theorem same_ev (a b : List Int) (hn : a.length ≤ 1000000) : Ev (fun k => reckonerlaw01_same.f k a b) (decide (a = b)) := by
  have h : Ev (fun k => reckonerref01_Same.f k a b) (decide (a = b)) := by
    by_cases hl : a.length = b.length
    · refine Ev.congr (fun k => ?_) (Same_loop a b hl hn a.length 0 (by omega) rfl)
      show reckonerref01_Same.f k a b = _
      unfold reckonerref01_Same.f
      rw [if_pos (by omega)]
      rfl
    · refine Ev.congr (f := fun _ => some (decide (a = b))) (fun k => ?_) (Ev.now _)
      show reckonerref01_Same.f k a b = _
      unfold reckonerref01_Same.f
      rw [if_neg (by omega), decide_eq_false (fun e => hl (by rw [e]))]
  exact Ev.bind h (Ev.now _)
theorem same_true {a b : List Int} (h : a = b) (hn : a.length ≤ 1000000) : Ev (fun k => reckonerlaw01_same.f k a b) true := by
  have h1 := same_ev a b hn
  rw [decide_eq_true h] at h1
  exact h1
end Go.Proofs.YtldefhhfcbmbpaaDoor.Ex
/- The reference's Cut, Add, Sub (printed in Tx1, Tx2), and the row functions' results in values. -/
namespace Go.Proofs.YtldefhhfcbmbpaaDoor.Ex
open Go.RowKit Go.Proofs.YtldefhhfcbmbpaaDoorW.PrintWords Go.Proofs.YtldefhhfcbmbpaaDoorW.PrintLast Go.Proofs.YtldefhhfcbmbpaaDoorW.PrintMore Go.Proofs.YtldefhhfcbmbpaaDoor.T
set_option linter.unusedVariables false
set_option linter.unusedSimpArgs false

theorem H32_pow (n : Nat) : H32 ^ (2 * n) = W64 ^ n := by
  rw [Int.pow_mul, show H32 ^ 2 = W64 by decide]
theorem Ev.ite_pos {α : Type} {c : Nat → Prop} [∀ k, Decidable (c k)] {a b : Nat → Option α} {r : α} (h : ∀ k, c k) (ha : Ev a r) : Ev (fun k => if c k then a k else b k) r := Ev.congr (fun k => if_pos (h k)) ha
/-- The value of a row's two highest digits. -/
theorem getD_two {d : List Int} (n : Nat) (h : n + 2 ≤ d.length) : d.drop n = d.getD n 0 :: d.getD (n + 1) 0 :: d.drop (n + 2) := by
  have h1 : n < d.length := by omega
  have h2 : n + 1 < d.length := by omega
  rw [List.drop_eq_getElem_cons h1, List.drop_eq_getElem_cons h2]
  simp [List.getD_eq_getElem?_getD, List.getElem?_eq_getElem h1, List.getElem?_eq_getElem h2]
/-- What Cut makes of digits that are enough. -/
theorem Cut_done (d : List Int) (hd : inB H32 d) (n : Nat) (hn : n ≤ 1000000) (hm : d.length ≤ 4000000) (hl : 2 * n + 2 ≤ d.length) :
    Ev (fun k => reckonerref01_Cut.l0 k (n : Int) d) (rowL (d.take (2 * n)), d.getD (2 * n) 0 + d.getD (2 * n + 1) 0 * H32) := by
  have e1 : wrap64 (2 * (n : Int)) = ((2 * n : Nat) : Int) := by rw [← w64_nat (2 * n) (by omega)]; rfl
  have e2 : wrap64 (((2 * n : Nat) : Int) + 2) = ((2 * n + 2 : Nat) : Int) := by rw [← w64_nat (2 * n + 2) (by omega)]; rfl
  have e3 : wrap64 (((2 * n : Nat) : Int) + 1) = ((2 * n + 1 : Nat) : Int) := by rw [← w64_nat (2 * n + 1) (by omega)]; rfl
  have h1 := inB_getD H32_pos hd (2 * n)
  have h2 := inB_getD H32_pos hd (2 * n + 1)
  rw [H32_eq] at h1 h2
  have q1 : ¬ (d.length : Int) < ((2 * n + 2 : Nat) : Int) := by omega
  have q2 : (0 : Int) ≤ ((2 * n : Nat) : Int) := by omega
  have q3 : ((2 * n : Nat) : Int) ≤ (d.length : Int) := by omega
  have q4 : ((2 * n : Nat) : Int) < (d.length : Int) := by omega
  have q5 : (0 : Int) ≤ ((2 * n + 1 : Nat) : Int) := by omega
  have q6 : ((2 * n + 1 : Nat) : Int) < (d.length : Int) := by omega
  have q7 : IntKind.u64.wrap (d.getD (2 * n + 1) 0 * 4294967296) = d.getD (2 * n + 1) 0 * 4294967296 := wrapW _ (by omega) (by omega)
  have q8 : IntKind.u64.wrap (d.getD (2 * n) 0 + d.getD (2 * n + 1) 0 * 4294967296) = d.getD (2 * n) 0 + d.getD (2 * n + 1) 0 * 4294967296 := wrapW _ (by omega) (by omega)
  have hR := Row_ev (d.take (2 * n)) (inB_take hd _) (by rw [List.length_take]; omega)
  refine Ev.step (f := fun k => (reckonerref01_Row.f k (d.take (2 * n))).bind fun t => some (t, d.getD (2 * n) 0 + d.getD (2 * n + 1) 0 * H32)) (fun k => ?_) (Ev.bind hR (Ev.now _))
  rw [reckonerref01_Cut.l0, e1, e2, e3, if_neg q1, if_pos q2, if_pos q3, Int.toNat_natCast]
  simp only [if_pos q4, if_pos q5, if_pos q6, rd_nat, q7, q8]
  rfl
/-- Cut: the row of n words, and the word above it; what digits there are beyond that is left out. -/
theorem Cut_loop (n : Nat) (hn : n ≤ 1000000) : ∀ m (d : List Int), inB H32 d → d.length ≤ 4000000 → 2 * n + 2 - d.length = m →
    ∃ r t, Ev (fun k => reckonerref01_Cut.l0 k (n : Int) d) (r, t) ∧ inW r ∧ r.length = n ∧ isW t ∧ valB W64 r + W64 ^ n * t = valB H32 d % (W64 ^ n * W64)
  | 0, d, hd, hm, hl => by
    have h1 := inB_getD H32_pos hd (2 * n)
    have h2 := inB_getD H32_pos hd (2 * n + 1)
    have hl2 : 2 * n + 2 ≤ d.length := by omega
    have hlt : (d.take (2 * n)).length = 2 * n := by rw [List.length_take]; omega
    refine ⟨_, _, Cut_done d hd n hn hm hl2, rowL_in (inB_take hd _), by rw [rowL_length, hlt]; omega, ?_, ?_⟩
    · rw [H32_eq] at h1 h2
      unfold isW
      rw [H32_eq, W64_eq]
      omega
    · rw [rowL_val _ (by rw [hlt]; omega)]
      have e1 : W64 ^ n * W64 = H32 ^ (2 * n + 2) := by rw [show 2 * n + 2 = 2 * (n + 1) by omega, H32_pow, Int.pow_succ]
      rw [e1, ← valB_take H32_pos hd (2 * n + 2) hl2, valB_split H32 (d.take (2 * n + 2)) (2 * n) (by rw [List.length_take]; omega), List.take_take, Nat.min_eq_left (by omega : 2 * n ≤ 2 * n + 2), H32_pow]
      congr 1
      have e2 : (d.take (2 * n + 2)).drop (2 * n) = [d.getD (2 * n) 0, d.getD (2 * n + 1) 0] := by
        rw [List.drop_take, getD_two (2 * n) hl2]
        simp
      rw [e2]
      congr 1
      simp [valB, Int.mul_comm]
  | m + 1, d, hd, hm, hl => by
    have e1 : wrap64 (2 * (n : Int)) = ((2 * n : Nat) : Int) := by rw [← w64_nat (2 * n) (by omega)]; rfl
    have e2 : wrap64 (((2 * n : Nat) : Int) + 2) = ((2 * n + 2 : Nat) : Int) := by rw [← w64_nat (2 * n + 2) (by omega)]; rfl
    have q1 : (d.length : Int) < ((2 * n + 2 : Nat) : Int) := by omega
    have q2 : d.length < 17592186044416 := by omega
    have ho : inB H32 (d ++ [0]) := inB_append.2 ⟨hd, inB_cons.2 ⟨⟨Int.le_refl 0, H32_pos⟩, inB_nil⟩⟩
    obtain ⟨r, t, h1, h2⟩ := Cut_loop n hn m (d ++ [0]) ho (by simp; omega) (by simp; omega)
    refine ⟨r, t, Ev.step (fun k => ?_) h1, ?_⟩
    · rw [reckonerref01_Cut.l0, e1, e2, if_pos q1, if_pos q2]
    · have e3 : valB H32 (d ++ [0]) = valB H32 d := by rw [valB_append]; simp [valB]
      rw [e3] at h2
      exact h2
theorem Cut_ev (n : Nat) (hn : n ≤ 1000000) (d : List Int) (hd : inB H32 d) (hm : d.length ≤ 4000000) :
    ∃ r t, Ev (fun k => reckonerref01_Cut.f k d (n : Int)) (r, t) ∧ inW r ∧ r.length = n ∧ isW t ∧ valB W64 r + W64 ^ n * t = valB H32 d % (W64 ^ n * W64) := by
  obtain ⟨r, t, h1, h2⟩ := Cut_loop n hn _ d hd hm rfl
  refine ⟨r, t, ?_, h2⟩
  have q : (([] : List Int).length + d.length < 17592186044416) := by simp; omega
  refine Ev.congr (fun k => ?_) h1
  show reckonerref01_Cut.f k d (n : Int) = _
  unfold reckonerref01_Cut.f
  rw [if_pos q, List.nil_append]
/-- Two rows of words of one length with a word above them are the same if their values are. -/
theorem row_eq {a b : List Int} {s t : Int} {n : Nat} (ha : inW a) (hb : inW b) (hla : a.length = n) (hlb : b.length = n) (h : valB W64 a + W64 ^ n * s = valB W64 b + W64 ^ n * t) : a = b ∧ s = t := by
  have h1 := valB_nonneg W64_pos (inB_of_inW ha)
  have h2 := valB_lt W64_pos (inB_of_inW ha)
  have h3 := valB_nonneg W64_pos (inB_of_inW hb)
  have h4 := valB_lt W64_pos (inB_of_inW hb)
  rw [hla] at h2
  rw [hlb] at h4
  obtain ⟨e1, e2⟩ := div_unique h1 h2 h3 h4 h
  exact ⟨valB_inj W64_pos (inB_of_inW ha) (inB_of_inW hb) (hla.trans hlb.symm) e1, e2⟩
theorem pow_W64_pos (n : Nat) : 0 < W64 ^ n := pow_posB W64_pos n
end Go.Proofs.YtldefhhfcbmbpaaDoor.Ex
/- The reference's Word and Times (printed in Tx4, Tx5). -/
namespace Go.Proofs.YtldefhhfcbmbpaaDoor.Ex
open Go.RowKit Go.Proofs.YtldefhhfcbmbpaaDoorW.PrintWords Go.Proofs.YtldefhhfcbmbpaaDoorW.PrintLast Go.Proofs.YtldefhhfcbmbpaaDoorW.PrintMore Go.Proofs.YtldefhhfcbmbpaaDoor.T
set_option linter.unusedVariables false
set_option linter.unusedSimpArgs false

theorem w64_add (a b : Nat) (h : a + b < 4611686018427387904) : wrap64 ((a : Int) + (b : Int)) = ((a + b : Nat) : Int) := by rw [← Int.natCast_add]; exact w64_nat (a + b) h
theorem w64_sub1 (n : Nat) (h : n < 4611686018427387904) : wrap64 (((n + 1 : Nat) : Int) - 1) = (n : Int) := by rw [← w64_nat n h]; congr 1; omega
theorem w64_suc (n : Nat) (h : n + 1 < 4611686018427387904) : wrap64 ((n : Int) + 1) = ((n + 1 : Nat) : Int) := by rw [← w64_nat (n + 1) h]; rfl
theorem lin5 (u v o c p : Int) (h : u + v = c + o + p) : (u - o) + v = c + p := by omega
theorem Word_some (w : Int) (hw : isW w) : reckonerref01_Word.f w = some [w % H32, w / H32] := by
  have h0 := hw.1
  have h1 := hw.2
  rw [W64_eq] at h1
  have q : 0 ≤ w / H32 ∧ w / H32 < 18446744073709551616 := by rw [H32_eq]; omega
  unfold reckonerref01_Word.f
  rw [tmodH _ h0, tdivH _ h0, wrapW _ q.1 q.2]
theorem word_in (w : Int) (hw : isW w) : inB H32 [w % H32, w / H32] := digitsL_in (inW_cons.2 ⟨hw, inW_nil⟩)
theorem word_val (w : Int) : valB H32 [w % H32, w / H32] = w := by
  have h := digitsL_val [w]
  simpa [digitsL, valB] using h
/-- What holds of a product's digits between two rounds. -/
structure Prod (a b out : List Int) (i : Nat) : Prop where
  len : out.length = a.length + b.length
  dig : inB H32 out
  zero : ∀ j, i + b.length ≤ j → out.getD j 0 = 0
theorem getD_set (l : List Int) (i j : Nat) (x : Int) : (l.set i x).getD j 0 = if i = j ∧ i < l.length then x else l.getD j 0 := by
  simp only [List.getD_eq_getElem?_getD, List.getElem?_set]
  by_cases h : i = j
  · subst h
    by_cases h1 : i < l.length
    · simp [h1]
    · simp [h1]
  · simp [h]
def Good (a b r : List Int) : Prop := inB H32 r ∧ r.length = a.length + b.length ∧ valB H32 r = valB H32 a * valB H32 b
theorem Times_inner (a b : List Int) (ha : inB H32 a) (hb : inB H32 b) (hn : a.length ≤ 1000000) (hm : b.length ≤ 1000000) (i : Nat) (hi : i < a.length)
    (hO : ∀ out, Prod a b out (i + 1) → valB H32 out = valB H32 (a.take (i + 1)) * valB H32 b → ∃ r, Ev (fun k => reckonerref01_Times.l0 k a b out ((i + 1 : Nat) : Int)) r ∧ Good a b r) :
    ∀ (n kk : Nat) (out : List Int) (c : Int), kk + n = b.length → Prod a b out i → (0 ≤ c ∧ c < H32) → valB H32 out + H32 ^ (i + kk) * c = valB H32 (a.take i) * valB H32 b + H32 ^ i * (a.getD i 0 * valB H32 (b.take kk)) →
      ∃ r, Ev (fun k => reckonerref01_Times.l1 k a b out (i : Int) c (kk : Int)) r ∧ Good a b r
  | 0, kk, out, c, hk, hP, hc, hv => by
    have HV := Aside0.mk hv
    clear hv
    obtain rfl : kk = b.length := by omega
    have hlen := hP.len
    have q1 : i + b.length < out.length := by omega
    have q2 : ¬ (b.length : Int) < (b.length : Int) := by omega
    have q3 : (0 : Int) ≤ ((i + b.length : Nat) : Int) := by omega
    have q4 : ((i + b.length : Nat) : Int) < (out.length : Int) := by omega
    have e1 : wrap64 ((i : Int) + (b.length : Int)) = ((i + b.length : Nat) : Int) := w64_add i b.length (by omega)
    have e2 : wrap64 ((i : Int) + 1) = ((i + 1 : Nat) : Int) := by rw [← w64_nat (i + 1) (by omega)]; rfl
    have hz := hP.zero (i + b.length) (Nat.le_refl _)
    obtain ⟨r, h1, h2⟩ := hO (out.set (i + b.length) c) ⟨by rw [List.length_set]; exact hlen, inB_set hP.dig _ hc, fun j hj => by
        rw [getD_set, if_neg (by omega)]
        exact hP.zero j (by omega)⟩ (by
        rw [valB_set H32 out _ c q1, hz, Int.sub_zero, HV.out, valB_take_succ H32 a i hi, List.take_of_length_le (Nat.le_refl _), Int.add_mul, Int.mul_assoc])
    refine ⟨r, Ev.step (fun k => ?_) h1, h2⟩
    rw [reckonerref01_Times.l1, if_neg q2, e1, if_pos q3, if_pos q4, Int.toNat_natCast, e2]
  | n + 1, kk, out, c, hk, hP, hc, hv => by
    have HV := Aside0.mk hv
    clear hv
    have hlen := hP.len
    have hk' : kk + 1 + n = b.length := by omega
    have hjj : ∀ j, i + b.length ≤ j → ¬ (i + kk = j ∧ i + kk < out.length) := by omega
    have hkb : kk < b.length := by omega
    have e1 : wrap64 ((i : Int) + (kk : Int)) = ((i + kk : Nat) : Int) := w64_add i kk (by omega)
    have e2 : wrap64 ((kk : Int) + 1) = ((kk + 1 : Nat) : Int) := by rw [← w64_nat (kk + 1) (by omega)]; rfl
    have q1 : (kk : Int) < (b.length : Int) := by omega
    have q2 : (0 : Int) ≤ ((i + kk : Nat) : Int) := by omega
    have q3 : ((i + kk : Nat) : Int) < (out.length : Int) := by omega
    have q4 : (0 : Int) ≤ (i : Int) := by omega
    have q5 : (i : Int) < (a.length : Int) := by omega
    have q6 : (0 : Int) ≤ (kk : Int) := by omega
    have q7 : i + kk < out.length := by omega
    have h1 := inB_getD H32_pos ha i
    have h2 := inB_getD H32_pos hb kk
    have h3 := inB_getD H32_pos hP.dig (i + kk)
    rw [H32_eq] at h1 h2 h3 hc
    have hmul : a.getD i 0 * b.getD kk 0 ≤ 18446744065119617025 := Int.le_trans (Int.mul_le_mul (show a.getD i 0 ≤ 4294967295 by omega) (show b.getD kk 0 ≤ 4294967295 by omega) h2.1 (by decide)) (by decide)
    have hmul0 : 0 ≤ a.getD i 0 * b.getD kk 0 := Int.mul_nonneg h1.1 h2.1
    obtain ⟨p, hp⟩ : ∃ p, p = a.getD i 0 * b.getD kk 0 := ⟨_, rfl⟩
    rw [← hp] at hmul hmul0
    have HPP := Aside0.mk hp
    clear hp
    have w1 : IntKind.u64.wrap (c + out.getD (i + kk) 0) = c + out.getD (i + kk) 0 := wrapW _ (by omega) (by omega)
    have w2 : IntKind.u64.wrap p = p := wrapW _ (by omega) (by omega)
    have w3 : 0 ≤ c + out.getD (i + kk) 0 + p ∧ c + out.getD (i + kk) 0 + p < 18446744073709551616 := by omega
    have w4 : 0 ≤ (c + out.getD (i + kk) 0 + p) / H32 ∧ (c + out.getD (i + kk) 0 + p) / H32 < 4294967296 := by rw [H32_eq]; omega
    have w5 : (c + out.getD (i + kk) 0 + p) / H32 < 18446744073709551616 := by omega
    have w6 : 0 ≤ (c + out.getD (i + kk) 0 + p) % H32 ∧ (c + out.getD (i + kk) 0 + p) % H32 < H32 := by rw [H32_eq]; omega
    have hdm := Int.emod_add_mul_ediv (c + out.getD (i + kk) 0 + p) H32
    obtain ⟨r, k1, k2⟩ := Times_inner a b ha hb hn hm i hi hO n (kk + 1) (out.set (i + kk) ((c + out.getD (i + kk) 0 + p) % H32)) ((c + out.getD (i + kk) 0 + p) / H32) hk'
      ⟨by rw [List.length_set]; exact hlen, inB_set hP.dig _ w6, fun j hj => by rw [getD_set, if_neg (hjj j hj)]; exact hP.zero j hj⟩ w4 (by
        rw [valB_set H32 out _ _ q7, valB_take_succ H32 b kk hkb, Int.mul_add (a.getD i 0), Int.mul_add (H32 ^ i), ← Int.add_assoc, ← HV.out]
        have e4 : H32 ^ i * (a.getD i 0 * (H32 ^ kk * b.getD kk 0)) = H32 ^ (i + kk) * p := by
          rw [HPP.out, Int.pow_add, Int.mul_left_comm (a.getD i 0), ← Int.mul_assoc]
        have e5 : H32 ^ (i + (kk + 1)) = H32 ^ (i + kk) * H32 := by rw [← Nat.add_assoc, Int.pow_succ]
        have e6 : H32 ^ (i + kk) * ((c + out.getD (i + kk) 0 + p) % H32 - out.getD (i + kk) 0) + H32 ^ (i + kk) * H32 * ((c + out.getD (i + kk) 0 + p) / H32) = H32 ^ (i + kk) * c + H32 ^ (i + kk) * p := by
          rw [Int.mul_assoc, ← Int.mul_add, ← Int.mul_add, lin5 _ _ _ _ _ hdm]
        rw [e4, e5, Int.add_assoc (valB H32 out), e6, ← Int.add_assoc])
    refine ⟨r, Ev.step (fun k => ?_) k1, k2⟩
    rw [reckonerref01_Times.l1, if_pos q1, e1, if_pos q2, if_pos q3, if_pos q4, if_pos q5, if_pos q6, rd_nat, rd_nat, rd_nat, ← HPP.out, w1, w2, wrapW _ w3.1 w3.2, tmodH _ w3.1, tdivH _ w3.1, wrapW _ w4.1 w5, e2, Int.toNat_natCast]
theorem Times_outer (a b : List Int) (ha : inB H32 a) (hb : inB H32 b) (hn : a.length ≤ 1000000) (hm : b.length ≤ 1000000) : ∀ (m i : Nat) (out : List Int), i + m = a.length → Prod a b out i → valB H32 out = valB H32 (a.take i) * valB H32 b →
      ∃ r, Ev (fun k => reckonerref01_Times.l0 k a b out (i : Int)) r ∧ Good a b r
  | 0, i, out, hi, hP, hv => by
    have q0 : a.length ≤ i := by clear hv; omega
    have q1 : ¬ (i : Int) < (a.length : Int) := by clear hv; omega
    rw [List.take_of_length_le q0] at hv
    exact ⟨out, Ev.now' fun k => by rw [reckonerref01_Times.l0, if_neg q1], hP.dig, hP.len, hv⟩
  | m + 1, i, out, hi, hP, hv => by
    have q1 : (i : Int) < (a.length : Int) := by clear hv; omega
    have q2 : i < a.length := by clear hv; omega
    have q3 : i + 1 + m = a.length := by clear hv; omega
    obtain ⟨r, h1, h2⟩ := Times_inner a b ha hb hn hm i q2 (fun out hP hv => Times_outer a b ha hb hn hm m (i + 1) out q3 hP hv) b.length 0 out 0 (Nat.zero_add _) hP ⟨Int.le_refl 0, H32_pos⟩ (by
      rw [List.take_zero]
      simp [valB, hv])
    exact ⟨r, Ev.step (fun k => by rw [reckonerref01_Times.l0, if_pos q1]; rfl) h1, h2⟩
/-- A product of digits. -/
theorem Times_ev (a b : List Int) (ha : inB H32 a) (hb : inB H32 b) (hn : a.length ≤ 1000000) (hm : b.length ≤ 1000000) : ∃ r, Ev (fun k => reckonerref01_Times.f k a b) r ∧ Good a b r := by
  obtain ⟨r, h1, h2⟩ := Times_outer a b ha hb hn hm a.length 0 (List.replicate (a.length + b.length) 0) (by omega)
    ⟨by simp, inB_zeros H32_pos _, fun j _ => by
        simp only [List.getD_eq_getElem?_getD, List.getElem?_replicate]
        split <;> rfl⟩ (by rw [valB_zeros, List.take_zero]; simp [valB])
  have e1 : wrap64 ((a.length : Int) + (b.length : Int)) = ((a.length + b.length : Nat) : Int) := w64_add a.length b.length (by omega)
  have q1 : (0 : Int) ≤ ((a.length + b.length : Nat) : Int) := by omega
  have q2 : a.length + b.length ≤ 35184372088832 := by omega
  refine ⟨r, Ev.congr (fun k => ?_) h1, h2⟩
  show reckonerref01_Times.f k a b = _
  unfold reckonerref01_Times.f
  rw [e1, if_pos q1, Int.toNat_natCast, if_pos q2]
  rfl
end Go.Proofs.YtldefhhfcbmbpaaDoor.Ex
/- Values: a row divided by a word; a guess of a digit. No program here. -/
namespace Go.Proofs.YtldefhhfcbmbpaaDoor.Ex
set_option linter.unusedVariables false

/-- A row divided by a word: the quotient's row and the rest. -/
theorem div_val (w : Int) (l : List Int) (hl : inW l) (hw0 : 0 < w) (hw : isW w) : ∀ n c, n ≤ l.length → 0 ≤ c → c < w →
    inW (downL (divS w l) n c).1 ∧ (0 ≤ (downL (divS w l) n c).2 ∧ (downL (divS w l) n c).2 < w) ∧ valB W64 (downL (divS w l) n c).1 * w + (downL (divS w l) n c).2 = valB W64 (l.take n) + W64 ^ n * c
  | 0, c, _, h0, h1 => ⟨inW_nil, ⟨h0, h1⟩, by simp [downL, valB]⟩
  | n + 1, c, hn, h0, h1 => by
    have hx := isW_get hl n
    have hx0 := hx.1
    have hx1 := hx.2
    have hd := Int.emod_add_mul_ediv (c * W64 + l.getD n 0) w
    have hr0 := Int.emod_nonneg (c * W64 + l.getD n 0) (by omega : w ≠ 0)
    have hr1 := Int.emod_lt_of_pos (c * W64 + l.getD n 0) hw0
    have hn0 : 0 ≤ c * W64 + l.getD n 0 := Int.add_nonneg (Int.mul_nonneg h0 (by decide)) hx0
    have hq0 := Int.ediv_nonneg hn0 (by omega : 0 ≤ w)
    have hq1 : (c * W64 + l.getD n 0) / w < W64 := by
      rw [Int.ediv_lt_iff_lt_mul hw0]
      have h2 : (c + 1) * W64 ≤ w * W64 := Int.mul_le_mul_of_nonneg_right (by omega) (by decide)
      rw [Int.add_mul, Int.one_mul] at h2
      rw [Int.mul_comm W64]
      omega
    obtain ⟨k1, k2, k3⟩ := div_val w l hl hw0 hw n ((c * W64 + l.getD n 0) % w) (by omega) hr0 hr1
    have hlen := downL_length (divS w l) n ((c * W64 + l.getD n 0) % w)
    refine ⟨inW_append.2 ⟨k1, inW_cons.2 ⟨⟨hq0, hq1⟩, inW_nil⟩⟩, k2, ?_⟩
    show valB W64 ((downL (divS w l) n ((c * W64 + l.getD n 0) % w)).1 ++ [(c * W64 + l.getD n 0) / w]) * w + (downL (divS w l) n ((c * W64 + l.getD n 0) % w)).2 = _
    rw [valB_append, hlen, valB_take_succ W64 l n (by omega), Int.pow_succ]
    simp only [valB, Int.mul_zero, Int.add_zero]
    generalize (c * W64 + l.getD n 0) / w = q at *
    generalize (c * W64 + l.getD n 0) % w = r at *
    generalize valB W64 (downL (divS w l) n r).1 = V at *
    generalize (downL (divS w l) n r).2 = S at *
    generalize valB W64 (l.take n) = L at *
    generalize l.getD n 0 = x at *
    generalize W64 ^ n = P at *
    clear hl hq0 hq1 hr0 hr1 hn0 k1 k2 hlen hx hx0 hx1 h0 h1 hn hw hw0
    have e : P * (r + w * q) = P * (c * W64 + x) := by rw [hd]
    grind
/-- A guess by the highest digits is not less than the true digit. -/
theorem guess_ge {P W b bt bl top low : Int} (hP : 0 < P) (hW : W = low + P * top) (hlow : low < P) (hb : b = bl + P * bt) (hbl : 0 ≤ bl) (hbt : 0 < bt) (hW0 : 0 ≤ W) : W / b ≤ top / bt := by
  have hb0 : 0 < b := by have := Int.mul_pos hP hbt; omega
  rw [Int.le_ediv_iff_mul_le hbt]
  have h1 : W / b * b ≤ W := Int.ediv_mul_le W (by omega)
  have ht : 0 ≤ W / b := Int.ediv_nonneg hW0 (by omega)
  generalize W / b = t at *
  have h2 : 0 ≤ t * bl := Int.mul_nonneg ht hbl
  have h3 : t * b = t * bl + P * (t * bt) := by rw [hb]; grind
  have h4 : P * (t * bt) < P * (top + 1) := by rw [Int.mul_add]; omega
  have h5 := Int.lt_of_mul_lt_mul_left h4 (by omega)
  omega
/-- The last digit's part of a value. -/
theorem valB_last (B : Int) (l : List Int) (n : Nat) (h : l.length = n + 1) : valB B l = valB B (l.take n) + B ^ n * l.getD n 0 := by
  have h1 := valB_take_succ B l n (by omega)
  rw [List.take_of_length_le (by omega)] at h1
  exact h1
end Go.Proofs.YtldefhhfcbmbpaaDoor.Ex
/- The reference's Short, one and Divide (printed in Tx6). -/
namespace Go.Proofs.YtldefhhfcbmbpaaDoor.Ex
open Go.RowKit Go.Proofs.YtldefhhfcbmbpaaDoorW.PrintWords Go.Proofs.YtldefhhfcbmbpaaDoorW.PrintLast Go.Proofs.YtldefhhfcbmbpaaDoorW.PrintMore Go.Proofs.YtldefhhfcbmbpaaDoor.T
set_option linter.unusedVariables false
set_option linter.unusedSimpArgs false


/-! ### Short -/
theorem Short_stop (a : List Int) (n : Nat) (hn : n ≤ a.length) : (if 0 ≤ (n : Int) then (if (n : Int) ≤ (a.length : Int) then (some (a.take ((n : Int) : Int).toNat)) else (none)) else (none)) = some (a.take n) := by
  rw [if_pos (by omega), if_pos (by omega), Int.toNat_natCast]
theorem Short_loop (a : List Int) (hn : a.length ≤ 4000000) : ∀ n, n ≤ a.length → valB H32 (a.take n) = valB H32 a →
    ∃ m, m ≤ a.length ∧ Ev (fun k => reckonerref01_Short.l0 k a (n : Int)) (a.take m) ∧ valB H32 (a.take m) = valB H32 a ∧ (m = 0 ∨ a.getD (m - 1) 0 ≠ 0)
  | 0, h, hv => ⟨0, h, Ev.now' fun k => by
      have q : ¬ (((0 : Nat) : Int) > 0) := by decide
      rw [reckonerref01_Short.l0, if_neg q]
      exact Short_stop a 0 h, hv, Or.inl rfl⟩
  | n + 1, h, hv => by
    have q1 : (((n + 1 : Nat) : Int) > 0) := by omega
    have q2 : (0 : Int) ≤ (n : Int) := by omega
    have q3 : (n : Int) < (a.length : Int) := by omega
    have e1 := w64_sub1 n (by omega)
    by_cases hz : a.getD n 0 = 0
    · obtain ⟨m, m1, m2, m3⟩ := Short_loop a hn n (by omega) (by rw [← hv, valB_take_succ H32 a n (by omega), hz, Int.mul_zero, Int.add_zero])
      refine ⟨m, m1, Ev.step (fun k => ?_) m2, m3⟩
      rw [reckonerref01_Short.l0, if_pos q1, e1, if_pos q2, if_pos q3, rd_nat, if_pos hz]
    · refine ⟨n + 1, h, Ev.now' fun k => ?_, hv, Or.inr hz⟩
      rw [reckonerref01_Short.l0, if_pos q1, e1, if_pos q2, if_pos q3, rd_nat, if_neg hz]
      exact Short_stop a (n + 1) h
theorem Short_ev (a : List Int) (hn : a.length ≤ 4000000) : ∃ m, m ≤ a.length ∧ Ev (fun k => reckonerref01_Short.f k a) (a.take m) ∧ valB H32 (a.take m) = valB H32 a ∧ (m = 0 ∨ a.getD (m - 1) 0 ≠ 0) :=
  Short_loop a hn a.length (Nat.le_refl _) (by rw [List.take_of_length_le (Nat.le_refl _)])
/-! ### by one digit -/
def oneL (a : List Int) (b : Int) : Nat → List Int → Int → List Int × Int
  | 0, q, r => (q, r)
  | m + 1, q, r => oneL a b m (q.set m ((r * H32 + a.getD m 0) / b)) ((r * H32 + a.getD m 0) % b)
theorem oneL_val (a : List Int) (b : Int) (ha : inB H32 a) (hb0 : 0 < b) (hb1 : b < H32) : ∀ m q r, m ≤ q.length → m ≤ a.length → inB H32 q → (∀ j, j < m → q.getD j 0 = 0) → 0 ≤ r → r < b →
    inB H32 (oneL a b m q r).1 ∧ (oneL a b m q r).1.length = q.length ∧ 0 ≤ (oneL a b m q r).2 ∧ (oneL a b m q r).2 < b ∧ valB H32 (oneL a b m q r).1 * b + (oneL a b m q r).2 = valB H32 q * b + H32 ^ m * r + valB H32 (a.take m)
  | 0, q, r, _, _, hq, _, h0, h1 => ⟨hq, rfl, h0, h1, by simp [oneL, valB]⟩
  | m + 1, q, r, hm, hn, hq, hz, h0, h1 => by
    have hx := inB_getD H32_pos ha m
    have hx0 := hx.1
    have hx1 := hx.2
    have hd := Int.emod_add_mul_ediv (r * H32 + a.getD m 0) b
    have hr0 := Int.emod_nonneg (r * H32 + a.getD m 0) (by omega : b ≠ 0)
    have hr1 := Int.emod_lt_of_pos (r * H32 + a.getD m 0) hb0
    have hn0 : 0 ≤ r * H32 + a.getD m 0 := Int.add_nonneg (Int.mul_nonneg h0 (by decide)) hx0
    have hq0 := Int.ediv_nonneg hn0 (by omega : 0 ≤ b)
    have hq1 : (r * H32 + a.getD m 0) / b < H32 := by
      rw [Int.ediv_lt_iff_lt_mul hb0]
      have h2 : (r + 1) * H32 ≤ b * H32 := Int.mul_le_mul_of_nonneg_right (by omega) (by decide)
      rw [Int.add_mul, Int.one_mul] at h2
      rw [Int.mul_comm H32]
      omega
    obtain ⟨k1, k2, k3, k4, k5⟩ := oneL_val a b ha hb0 hb1 m (q.set m ((r * H32 + a.getD m 0) / b)) ((r * H32 + a.getD m 0) % b) (by rw [List.length_set]; omega) (by omega) (inB_set hq m ⟨hq0, hq1⟩) (fun j hj => by
      rw [getD_set, if_neg (by omega)]
      exact hz j (by omega)) hr0 hr1
    rw [List.length_set] at k2
    refine ⟨k1, k2, k3, k4, ?_⟩
    show valB H32 (oneL a b m (q.set m ((r * H32 + a.getD m 0) / b)) ((r * H32 + a.getD m 0) % b)).1 * b + (oneL a b m (q.set m ((r * H32 + a.getD m 0) / b)) ((r * H32 + a.getD m 0) % b)).2 = _
    rw [k5, valB_set H32 q m _ (by omega), hz m (by omega), valB_take_succ H32 a m (by omega), Int.pow_succ, Int.sub_zero]
    generalize (r * H32 + a.getD m 0) / b = t at *
    generalize (r * H32 + a.getD m 0) % b = s at *
    generalize valB H32 q = V at *
    generalize valB H32 (a.take m) = L at *
    generalize a.getD m 0 = x at *
    generalize H32 ^ m = P at *
    clear k1 k2 k3 k4 k5 hx hx0 hx1 hr0 hr1 hn0 hq0 hq1 hz h0 h1 hq hm hn ha hb0 hb1
    have e : P * (s + b * t) = P * (r * H32 + x) := by rw [hd]
    grind
/-- What one step of such a division calculates. -/
theorem one_step (a : List Int) (b : Int) (ha : inB H32 a) (hb0 : 0 < b) (hb1 : b < H32) (m : Nat) (r : Int) (h0 : 0 ≤ r) (h1 : r < b) :
    IntKind.u64.wrap (Int.tdiv (IntKind.u64.wrap ((IntKind.u64.wrap (r * 4294967296)) + (a.getD m 0))) b) = (r * H32 + a.getD m 0) / b ∧
    Int.tmod (IntKind.u64.wrap ((IntKind.u64.wrap (r * 4294967296)) + (a.getD m 0))) b = (r * H32 + a.getD m 0) % b := by
  have hx := inB_getD H32_pos ha m
  rw [H32_eq] at hx hb1 ⊢
  have w1 : IntKind.u64.wrap (r * 4294967296) = r * 4294967296 := wrapW _ (by omega) (by omega)
  have w2 : IntKind.u64.wrap (r * 4294967296 + a.getD m 0) = r * 4294967296 + a.getD m 0 := wrapW _ (by omega) (by omega)
  have hn0 : 0 ≤ r * 4294967296 + a.getD m 0 := by omega
  have hn1 : r * 4294967296 + a.getD m 0 < 18446744073709551616 := by omega
  rw [w1, w2, Int.tdiv_eq_ediv_of_nonneg hn0, Int.tmod_eq_emod_of_nonneg hn0]
  have hq0 := Int.ediv_nonneg hn0 (by omega : 0 ≤ b)
  have hq1 := Int.ediv_le_self b hn0
  exact ⟨wrapW _ hq0 (by omega), rfl⟩
theorem one_loop (a : List Int) (b : Int) (ha : inB H32 a) (hb0 : 0 < b) (hb1 : b < H32) (hn : a.length ≤ 4000000) : ∀ m q r, m ≤ q.length → m ≤ a.length → 0 ≤ r → r < b →
    Ev (fun k => reckonerref01_one.l0 k a b q r ((m : Int) - 1)) ((oneL a b m q r).1, [(oneL a b m q r).2])
  | 0, q, r, _, _, _, _ => Ev.now' fun k => by
      have q1 : ¬ ((((0 : Nat) : Int) - 1) ≥ 0) := by decide
      rw [reckonerref01_one.l0, if_neg q1]
      rfl
  | m + 1, q, r, hm, hl, h0, h1 => by
    have e0 : (((m + 1 : Nat) : Int) - 1) = (m : Int) := by omega
    have q1 : ((m : Int) ≥ 0) := by omega
    have q2 : (0 : Int) ≤ (m : Int) := by omega
    have q3 : (m : Int) < (a.length : Int) := by omega
    have q4 : ¬ b = 0 := by omega
    have q5 : (m : Int) < (q.length : Int) := by omega
    have e1 : wrap64 ((m : Int) - 1) = (m : Int) - 1 := w64_int _ (by omega) (by omega)
    obtain ⟨s1, s2⟩ := one_step a b ha hb0 hb1 m r h0 h1
    have ih := one_loop a b ha hb0 hb1 hn m (q.set m ((r * H32 + a.getD m 0) / b)) ((r * H32 + a.getD m 0) % b) (by rw [List.length_set]; omega) (by omega) (Int.emod_nonneg _ q4) (Int.emod_lt_of_pos _ hb0)
    refine Ev.step (fun k => ?_) ih
    rw [e0, reckonerref01_one.l0, if_pos q1, if_pos q2, if_pos q3, if_neg q4, if_pos q5, rd_nat, s1, s2, e1, Int.toNat_natCast]
theorem getD_zeros (n j : Nat) : (List.replicate n (0 : Int)).getD j 0 = 0 := by
  simp only [List.getD_eq_getElem?_getD, List.getElem?_replicate]
  split <;> rfl
theorem one_ev (a : List Int) (b : Int) (ha : inB H32 a) (hb0 : 0 < b) (hb1 : b < H32) (hn : a.length ≤ 4000000) :
    ∃ q r, Ev (fun k => reckonerref01_one.f k a b) (q, [r]) ∧ inB H32 q ∧ q.length = a.length ∧ 0 ≤ r ∧ r < b ∧ valB H32 q * b + r = valB H32 a := by
  have hl : a.length ≤ (List.replicate a.length (0 : Int)).length := by simp
  have h := one_loop a b ha hb0 hb1 hn a.length (List.replicate a.length 0) 0 hl (Nat.le_refl _) (Int.le_refl 0) hb0
  obtain ⟨k1, k2, k3, k4, k5⟩ := oneL_val a b ha hb0 hb1 a.length (List.replicate a.length 0) 0 hl (Nat.le_refl _) (inB_zeros H32_pos _) (fun j _ => getD_zeros _ j) (Int.le_refl 0) hb0
  rw [valB_zeros, Int.zero_mul, Int.mul_zero, List.take_of_length_le (Nat.le_refl _)] at k5
  refine ⟨_, _, Ev.congr (fun k => ?_) h, k1, by rw [k2]; simp, k3, k4, by omega⟩
  have q1 : (0 : Int) ≤ (a.length : Int) := by omega
  have q2 : a.length ≤ 35184372088832 := by omega
  have e1 : wrap64 ((a.length : Int) - 1) = (a.length : Int) - 1 := w64_int _ (by omega) (by omega)
  show reckonerref01_one.f k a b = _
  unfold reckonerref01_one.f
  rw [if_pos q1, Int.toNat_natCast, if_pos q2, e1]
/-! ### Divide -/
def DivGood (A B : Int) (la : Nat) (R : List Int × List Int) : Prop := inB H32 R.1 ∧ inB H32 R.2 ∧ R.1.length ≤ la + 2 ∧ R.2.length ≤ la + 2 ∧ A = valB H32 R.1 * B + valB H32 R.2 ∧ valB H32 R.2 < B
/-- The remainder is divided by the scale again. -/
theorem down_loop (r : List Int) (s : Int) (Q : List Int) (ha : inB H32 r) (hb0 : 0 < s) (hb1 : s < H32) (hn : r.length ≤ 4000000) : ∀ m q t, m ≤ q.length → m ≤ r.length → 0 ≤ t → t < s →
    Ev (fun k => reckonerref01_Divide.l4 k s Q r q t ((m : Int) - 1)) (Q, (oneL r s m q t).1)
  | 0, q, t, _, _, _, _ => Ev.now' fun k => by
      have q1 : ¬ ((((0 : Nat) : Int) - 1) ≥ 0) := by decide
      rw [reckonerref01_Divide.l4, if_neg q1]
      rfl
  | m + 1, q, t, hm, hl, h0, h1 => by
    have e0 : (((m + 1 : Nat) : Int) - 1) = (m : Int) := by omega
    have q1 : ((m : Int) ≥ 0) := by omega
    have q2 : (0 : Int) ≤ (m : Int) := by omega
    have q3 : (m : Int) < (r.length : Int) := by omega
    have q4 : ¬ s = 0 := by omega
    have q5 : (m : Int) < (q.length : Int) := by omega
    have e1 : wrap64 ((m : Int) - 1) = (m : Int) - 1 := w64_int _ (by omega) (by omega)
    obtain ⟨s1, s2⟩ := one_step r s ha hb0 hb1 m t h0 h1
    have ih := down_loop r s Q ha hb0 hb1 hn m (q.set m ((t * H32 + r.getD m 0) / s)) ((t * H32 + r.getD m 0) % s) (by rw [List.length_set]; omega) (by omega) (Int.emod_nonneg _ q4) (Int.emod_lt_of_pos _ hb0)
    refine Ev.step (fun k => ?_) ih
    rw [e0, reckonerref01_Divide.l4, if_pos q1, if_pos q2, if_pos q3, if_neg q4, if_pos q5, rd_nat, s1, s2, e1, Int.toNat_natCast]
/-- The end: what is left of the scaled number is the scaled remainder. -/
theorem Div_end (x0 b q : List Int) (s A B : Int) (n : Int) (la : Nat) (i : Int) (hi : i < 0) (hx : inB H32 x0) (hq : inB H32 q) (hs0 : 0 < s) (hs1 : s < H32) (hl : x0.length ≤ la + 2) (hla : la ≤ 1000000) (hlq : q.length ≤ la + 2)
    (hv : A * s = valB H32 q * (B * s) + valB H32 x0) (hlt : valB H32 x0 < B * s) : ∃ R, Ev (fun k => reckonerref01_Divide.l1 k x0 b s n q i) R ∧ DivGood A B la R := by
  obtain ⟨m, m1, m2, m3, _⟩ := Short_ev x0 (by omega)
  have hr := inB_take hx m
  have hrl : (x0.take m).length = m := by rw [List.length_take]; omega
  have hz : (x0.take m).length ≤ (List.replicate (x0.take m).length (0 : Int)).length := by simp
  have h := down_loop (x0.take m) s q hr hs0 hs1 (by omega) (x0.take m).length (List.replicate (x0.take m).length 0) 0 hz (Nat.le_refl _) (Int.le_refl 0) hs0
  obtain ⟨k1, k2, k3, k4, k5⟩ := oneL_val (x0.take m) s hr hs0 hs1 (x0.take m).length (List.replicate (x0.take m).length 0) 0 hz (Nat.le_refl _) (inB_zeros H32_pos _) (fun j _ => getD_zeros _ j) (Int.le_refl 0) hs0
  rw [valB_zeros, Int.zero_mul, Int.mul_zero, List.take_of_length_le (Nat.le_refl _), m3] at k5
  rw [List.length_replicate] at k2
  refine ⟨_, Ev.step (f := fun k => (reckonerref01_Short.f k x0).bind fun t421 => (if 0 ≤ (t421.length : Int) then (if ((t421.length : Int) : Int).toNat ≤ 35184372088832 then (reckonerref01_Divide.l4 k s q t421 (List.replicate ((t421.length : Int) : Int).toNat 0) 0 (wrap64 ((t421.length : Int) - 1))) else (none)) else (none))) (fun k => ?_) (Ev.bind m2 (Ev.congr (fun k => ?_) h)), ?_⟩
  · have q1 : ¬ (i ≥ 0) := by omega
    rw [reckonerref01_Divide.l1, if_neg q1]
  · have q1 : (0 : Int) ≤ ((x0.take m).length : Int) := by omega
    have q2 : (x0.take m).length ≤ 35184372088832 := by omega
    have e1 : wrap64 (((x0.take m).length : Int) - 1) = ((x0.take m).length : Int) - 1 := w64_int _ (by omega) (by omega)
    rw [if_pos q1, Int.toNat_natCast, if_pos q2, e1]
  · generalize (oneL (x0.take m) s (x0.take m).length (List.replicate (x0.take m).length 0) 0).1 = D at *
    generalize (oneL (x0.take m) s (x0.take m).length (List.replicate (x0.take m).length 0) 0).2 = E at *
    have hDl : D.length ≤ la + 2 := by omega
    -- what the scale leaves is 0
    have e0 : s * (valB H32 D) + E = s * (A - valB H32 q * B) + 0 := by clear h m2 m3 hr hrl hz k1 k2; grind
    obtain ⟨e1, e2⟩ := div_unique (M := s) (a := E) (b := valB H32 D) (a' := 0) (b' := A - valB H32 q * B) k3 k4 (Int.le_refl 0) hs0 (by omega)
    refine ⟨hq, k1, hlq, hDl, by show A = valB H32 q * B + valB H32 D; omega, ?_⟩
    have e3 : valB H32 D * s < B * s := by omega
    exact Int.lt_of_mul_lt_mul_right e3 (by omega)
end Go.Proofs.YtldefhhfcbmbpaaDoor.Ex
/- The reference's Divide: the loops. -/
namespace Go.Proofs.YtldefhhfcbmbpaaDoor.Ex
open Go.RowKit Go.Proofs.YtldefhhfcbmbpaaDoorW.PrintWords Go.Proofs.YtldefhhfcbmbpaaDoorW.PrintLast Go.Proofs.YtldefhhfcbmbpaaDoorW.PrintMore Go.Proofs.YtldefhhfcbmbpaaDoor.T
set_option linter.unusedVariables false
set_option linter.unusedSimpArgs false

/-- A row with a window written anew. -/
def putL (x : List Int) (i : Nat) (r : List Int) : List Int := x.take i ++ r ++ x.drop (i + r.length)
theorem putL_length (x : List Int) (i : Nat) (r : List Int) (h : i + r.length ≤ x.length) : (putL x i r).length = x.length := by
  unfold putL
  simp only [List.length_append, List.length_take, List.length_drop]
  omega
theorem putL_in {x : List Int} {i : Nat} {r : List Int} (hx : inB H32 x) (hr : inB H32 r) : inB H32 (putL x i r) := inB_append.2 ⟨inB_append.2 ⟨inB_take hx i, hr⟩, inB_drop hx _⟩
theorem putL_take (x : List Int) (i : Nat) (r : List Int) (h : i ≤ x.length) : (putL x i r).take i = x.take i := by
  unfold putL
  rw [List.append_assoc, List.take_append_of_le_length (by rw [List.length_take]; omega), List.take_take, Nat.min_self]
theorem putL_drop (x : List Int) (i : Nat) (r : List Int) (h : i ≤ x.length) : (putL x i r).drop i = r ++ x.drop (i + r.length) := by
  unfold putL
  rw [List.append_assoc, List.drop_append_of_le_length (by rw [List.length_take]; omega), List.drop_take]
  simp
theorem putL_set (x r : List Int) (i kk : Nat) (hk : kk < r.length) (h : i + r.length ≤ x.length) : (putL x i (r.take kk)).set (i + kk) (r.getD kk 0) = putL x i (r.take (kk + 1)) := by
  unfold putL
  have e1 : (r.take kk).length = kk := by rw [List.length_take]; omega
  have e2 : (r.take (kk + 1)).length = kk + 1 := by rw [List.length_take]; omega
  have e3 : (x.take i ++ r.take kk).length = i + kk := by simp only [List.length_append, List.length_take]; omega
  have e4 : i + kk < x.length := by omega
  have e5 : r.take (kk + 1) = r.take kk ++ [r.getD kk 0] := by
    rw [List.take_succ_eq_append_getElem hk]
    simp only [List.getD_eq_getElem?_getD, List.getElem?_eq_getElem hk, Option.getD_some]
  rw [e1, e2, List.set_append_right _ _ (by omega), e3, Nat.sub_self, List.drop_eq_getElem_cons e4, e5, List.set_cons_zero]
  simp only [List.append_assoc, List.cons_append, List.nil_append]
  rfl
theorem putL_zero (x : List Int) (i : Nat) : putL x i [] = x := by simp [putL]
/-- The window is written. -/
theorem Div_put (x b q : List Int) (s g : Int) (i n : Nat) (r : List Int) (hr : r.length = n + 1) (hi : i + n < x.length) (hq : i < q.length) (hx : x.length ≤ 2000000) {P : List Int × List Int → Prop}
    (hO : ∃ R, Ev (fun k => reckonerref01_Divide.l1 k (putL x i r) b s (n : Int) (q.set i g) ((i : Int) - 1)) R ∧ P R) : ∀ m kk, kk + m = n + 1 → ∃ R, Ev (fun k => reckonerref01_Divide.l3 k (putL x i (r.take kk)) b s (n : Int) q (i : Int) g r (kk : Int)) R ∧ P R
  | 0, kk, hk => by
    obtain rfl : kk = n + 1 := by omega
    obtain ⟨R, h1, h2⟩ := hO
    rw [List.take_of_length_le (by omega)]
    have q1 : ¬ (((n + 1 : Nat) : Int) ≤ (n : Int)) := by omega
    have q2 : (0 : Int) ≤ (i : Int) := by omega
    have q3 : (i : Int) < (q.length : Int) := by omega
    have e1 : wrap64 ((i : Int) - 1) = (i : Int) - 1 := w64_int _ (by omega) (by omega)
    refine ⟨R, Ev.step (fun k => ?_) h1, h2⟩
    rw [reckonerref01_Divide.l3, if_neg q1, if_pos q2, if_pos q3, e1, Int.toNat_natCast]
  | m + 1, kk, hk => by
    obtain ⟨R, h1, h2⟩ := Div_put x b q s g i n r hr hi hq hx hO m (kk + 1) (by omega)
    have hlen : (putL x i (r.take kk)).length = x.length := putL_length x i _ (by rw [List.length_take]; omega)
    have q1 : ((kk : Int) ≤ (n : Int)) := by omega
    have q2 : (0 : Int) ≤ (kk : Int) := by omega
    have q3 : (kk : Int) < (r.length : Int) := by omega
    have e1 : wrap64 ((i : Int) + (kk : Int)) = ((i + kk : Nat) : Int) := w64_add i kk (by omega)
    have q4 : (0 : Int) ≤ ((i + kk : Nat) : Int) := by omega
    have q5 : ((i + kk : Nat) : Int) < ((putL x i (r.take kk)).length : Int) := by omega
    have e2 := w64_suc kk (by omega)
    refine ⟨R, Ev.step (fun k => ?_) h1, h2⟩
    rw [reckonerref01_Divide.l3, if_pos q1, if_pos q2, if_pos q3, e1, if_pos q4, if_pos q5, rd_nat, Int.toNat_natCast, putL_set x r i kk (by omega) (by omega), e2]
theorem fit_zero {W t B R P : Int} (h : R - P * 1 = W - B * t) (h1 : t * B ≤ W) (hr : R < P) : False := by
  rw [Int.mul_one, Int.mul_comm B t] at h
  omega
theorem fit_more {W t B R : Int} {d : Int} (h : R = W - B * (t + d)) (hd : 1 ≤ d) (h1 : W < (t + 1) * B) (hB : 0 ≤ B) (hr : 0 ≤ R) : False := by
  have h3 : (t + 1) * B ≤ (t + d) * B := Int.mul_le_mul_of_nonneg_right (by omega) hB
  rw [Int.mul_comm B] at h
  omega
theorem bit_zero {c : Int} (h : 0 ≤ c ∧ c ≤ 1) (h1 : c ≠ 1) : c = 0 := by omega
theorem bit_one {c : Int} (h : 0 ≤ c ∧ c ≤ 1) (h1 : c ≠ 0) : c = 1 := by omega
theorem add_nat_nonneg {t : Int} (h : 0 ≤ t) (d : Nat) : 0 ≤ t + (d : Int) := by omega
theorem suc_ge (d : Nat) : 1 ≤ ((d + 1 : Nat) : Int) := by omega
theorem suc_lt {t M : Int} {d : Nat} (h : t + ((d + 1 : Nat) : Int) < M) : t + (d : Int) < M := by omega
theorem suc_pred {t : Int} {d : Nat} (h0 : 0 ≤ t) (h : t + ((d + 1 : Nat) : Int) < H32) : IntKind.u64.wrap (t + ((d + 1 : Nat) : Int) - 1) = t + (d : Int) := by
  rw [H32_eq] at h
  rw [wrapW _ (by omega) (by omega)]
  omega
/-- One round: the product is taken from the window. -/
theorem Div_round (x b : List Int) (i n : Nat) (g : Int) (hx : inB H32 x) (hb : inB H32 b) (hbn : b.length = n) (hi : i + n < x.length) (hxl : x.length ≤ 1000000) (hg0 : 0 ≤ g) (hg1 : g < H32) :
    ∃ r c, Ev (fun k => (reckonerref01_Times.f k b [g]).bind fun t407 => reckonerref01_Minus.f k ((x.take (i + n + 1)).drop i) t407) (r, (c == 1)) ∧ (0 ≤ c ∧ c ≤ 1) ∧ inB H32 r ∧ r.length = n + 1 ∧ valB H32 r - H32 ^ (n + 1) * c = valB H32 ((x.take (i + n + 1)).drop i) - valB H32 b * g := by
  have hwin : inB H32 ((x.take (i + n + 1)).drop i) := inB_drop (inB_take hx _) _
  have hwl : ((x.take (i + n + 1)).drop i).length = n + 1 := by rw [List.length_drop, List.length_take]; omega
  have hg : inB H32 [g] := inB_cons.2 ⟨⟨hg0, hg1⟩, inB_nil⟩
  obtain ⟨p, p1, p2, p3, p4⟩ := Times_ev b [g] hb hg (by omega) (by simp)
  have hpl : p.length = n + 1 := by rw [p3, hbn]; rfl
  obtain ⟨r, c, r1, r2, r3, r4, r5⟩ := Minus_ev ((x.take (i + n + 1)).drop i) p hwin p2 (by clear p4; omega) (by clear p4; omega)
  rw [hwl] at r4 r5
  have hv : valB H32 [g] = g := by simp [valB]
  rw [p4, hv] at r5
  exact ⟨r, c, Ev.bind p1 r1, r2, r3, r4, r5⟩
theorem Div_l2 (x b q : List Int) (s g : Int) (i n : Nat) (hi : i + n < x.length) (hxl : x.length ≤ 1000000) (k : Nat) : reckonerref01_Divide.l2 (k + 1) x b s (n : Int) q (i : Int) g = ((reckonerref01_Times.f k b [g]).bind fun t407 => reckonerref01_Minus.f k ((x.take (i + n + 1)).drop i) t407).bind fun bt414 => (if bt414.2 = true then (reckonerref01_Divide.l2 k x b s (n : Int) q (i : Int) (IntKind.u64.wrap (g - 1))) else (reckonerref01_Divide.l3 k x b s (n : Int) q (i : Int) g bt414.1 0)) := by
  have e1 : wrap64 ((i : Int) + (n : Int)) = ((i + n : Nat) : Int) := w64_add i n (by omega)
  have e2 := w64_suc (i + n) (by omega)
  have q1 : (0 : Int) ≤ (i : Int) := by omega
  have q2 : (i : Int) ≤ ((i + n + 1 : Nat) : Int) := by omega
  have q3 : ((i + n + 1 : Nat) : Int) ≤ (x.length : Int) := by omega
  rw [reckonerref01_Divide.l2, Option.bind_assoc]
  congr 1
  funext t407
  rw [e1, e2, if_pos q1, if_pos q2, if_pos q3, Int.toNat_natCast, Int.toNat_natCast]
/-- The guess is made less until it fits. -/
theorem Div_guess (x b q : List Int) (s : Int) (i n : Nat) (hx : inB H32 x) (hb : inB H32 b) (hbn : b.length = n) (hi : i + n < x.length) (hxl : x.length ≤ 1000000) (hb0 : 0 < valB H32 b) (W t : Int) (hW : W = valB H32 ((x.take (i + n + 1)).drop i)) (ht0 : 0 ≤ t) (ht1 : t * valB H32 b ≤ W) (ht2 : W < (t + 1) * valB H32 b) {P : List Int × List Int → Prop}
    (hO : ∀ r, inB H32 r → r.length = n + 1 → valB H32 r = W - t * valB H32 b → ∃ R, Ev (fun k => reckonerref01_Divide.l3 k x b s (n : Int) q (i : Int) t r 0) R ∧ P R) :
    ∀ d : Nat, t + d < H32 → ∃ R, Ev (fun k => reckonerref01_Divide.l2 k x b s (n : Int) q (i : Int) (t + d)) R ∧ P R
  | 0, hd => by
    have e5 : t + ((0 : Nat) : Int) = t := Int.add_zero t
    rw [e5] at hd ⊢
    obtain ⟨r, c, r1, r2, r3, r4, r5⟩ := Div_round x b i n t hx hb hbn hi hxl ht0 hd
    rw [← hW] at r5
    have hr1 := valB_lt H32_pos r3
    rw [r4] at hr1
    have hc1 : c ≠ 1 := fun hc => fit_zero (by rw [hc] at r5; exact r5) ht1 hr1
    have hc0 : c = 0 := bit_zero r2 hc1
    rw [hc0, Int.mul_zero, Int.sub_zero, Int.mul_comm (valB H32 b)] at r5
    obtain ⟨R, h1, h2⟩ := hO r r3 r4 r5
    refine ⟨R, Ev.step (Div_l2 x b q s t i n hi hxl) (Ev.bind r1 ?_), h2⟩
    have e4 : (c == 1) = false := by rw [hc0]; rfl
    simp only [e4, Bool.false_eq_true, if_false]
    exact h1
  | d + 1, hd => by
    have hg0 : 0 ≤ t + ((d + 1 : Nat) : Int) := add_nat_nonneg ht0 _
    obtain ⟨r, c, r1, r2, r3, r4, r5⟩ := Div_round x b i n (t + ((d + 1 : Nat) : Int)) hx hb hbn hi hxl hg0 hd
    rw [← hW] at r5
    have hr0 := valB_nonneg H32_pos r3
    have hc0 : c ≠ 0 := fun hc => fit_more (d := ((d + 1 : Nat) : Int)) (by rw [hc, Int.mul_zero, Int.sub_zero] at r5; exact r5) (suc_ge d) ht2 (Int.le_of_lt hb0) hr0
    have hc1 : c = 1 := bit_one r2 hc0
    have hd' : t + (d : Int) < H32 := suc_lt hd
    obtain ⟨R, h1, h2⟩ := Div_guess x b q s i n hx hb hbn hi hxl hb0 W t hW ht0 ht1 ht2 hO d hd'
    refine ⟨R, Ev.step (Div_l2 x b q s (t + ((d + 1 : Nat) : Int)) i n hi hxl) (Ev.bind r1 ?_), h2⟩
    have e3 := suc_pred ht0 hd
    have e4 : (c == 1) = true := by rw [hc1]; rfl
    simp only [e3, e4, if_true]
    exact h1
end Go.Proofs.YtldefhhfcbmbpaaDoor.Ex
/- The reference's Divide: the digits from above, the scale, the whole. -/
namespace Go.Proofs.YtldefhhfcbmbpaaDoor.Ex
open Go.RowKit Go.Proofs.YtldefhhfcbmbpaaDoorW.PrintWords Go.Proofs.YtldefhhfcbmbpaaDoorW.PrintLast Go.Proofs.YtldefhhfcbmbpaaDoorW.PrintMore Go.Proofs.YtldefhhfcbmbpaaDoor.T
set_option linter.unusedVariables false
set_option linter.unusedSimpArgs false

theorem valB_drop_succ (B : Int) (x : List Int) (i : Nat) (h : i < x.length) : valB B (x.drop i) = x.getD i 0 + B * valB B (x.drop (i + 1)) := by
  rw [List.drop_eq_getElem_cons h]
  simp [valB, List.getD_eq_getElem?_getD, List.getElem?_eq_getElem h]
theorem mn_eq (a b : Int) : mn a b = min a b := by first | rfl | (unfold mn; omega) | (unfold mn; split <;> omega)
theorem mx_eq (a b : Int) : mx a b = max a b := by first | rfl | (unfold mx; omega) | (unfold mx; split <;> omega)
/-- The guess of a round: not less than the true digit, and a digit. -/
theorem round_guess (x b : List Int) (i n : Nat) (hx : inB H32 x) (hb : inB H32 b) (hbn : b.length = n + 1) (hi : i + (n + 1) < x.length) (hbt : b.getD n 0 ≠ 0) (W : Int) (hW : W = valB H32 ((x.take (i + (n + 1) + 1)).drop i)) (hlt : W < H32 * valB H32 b) :
    ∃ d : Nat, mn (IntKind.u64.wrap (Int.tdiv (IntKind.u64.wrap ((IntKind.u64.wrap ((x.getD (i + (n + 1)) 0) * 4294967296)) + (x.getD (i + n) 0))) (b.getD n 0))) 4294967295 = W / valB H32 b + (d : Int) ∧ W / valB H32 b + (d : Int) < H32 ∧ 0 ≤ W / valB H32 b := by
  have hwin : inB H32 ((x.take (i + (n + 1) + 1)).drop i) := inB_drop (inB_take hx _) _
  have hwl : ((x.take (i + (n + 1) + 1)).drop i).length = n + 2 := by rw [List.length_drop, List.length_take]; omega
  have g1 : ((x.take (i + (n + 1) + 1)).drop i).getD n 0 = x.getD (i + n) 0 := by
    simp only [List.getD_eq_getElem?_getD, List.getElem?_drop, List.getElem?_take]
    rw [if_pos (by omega)]
  have g2 : ((x.take (i + (n + 1) + 1)).drop i).getD (n + 1) 0 = x.getD (i + (n + 1)) 0 := by
    simp only [List.getD_eq_getElem?_getD, List.getElem?_drop, List.getElem?_take]
    rw [if_pos (by omega)]
  have hW0 : 0 ≤ W := by rw [hW]; exact valB_nonneg H32_pos hwin
  have hb1 := inB_getD H32_pos hb n
  have hbv := valB_last H32 b n hbn
  have hbl := valB_nonneg H32_pos (inB_take hb n)
  have hp := pow_posB H32_pos n
  -- the window: low digits and the two highest
  have w1 := valB_last H32 ((x.take (i + (n + 1) + 1)).drop i) (n + 1) hwl
  have w2 := valB_take_succ H32 ((x.take (i + (n + 1) + 1)).drop i) n (by omega)
  rw [g2] at w1
  rw [g1] at w2
  have wl := valB_lt H32_pos (inB_take hwin n)
  rw [List.length_take, Nat.min_eq_left (by omega)] at wl
  generalize valB H32 (((x.take (i + (n + 1) + 1)).drop i).take n) = low at *
  have hWt : W = low + H32 ^ n * (x.getD (i + (n + 1)) 0 * H32 + x.getD (i + n) 0) := by
    rw [hW, w1, w2, Int.pow_succ]
    grind
  have hge := guess_ge hp hWt wl hbv hbl (by omega) hW0
  have hb0 : 0 < valB H32 b := by
    have := Int.mul_pos hp (by omega : 0 < b.getD n 0)
    omega
  have ht0 : 0 ≤ W / valB H32 b := Int.ediv_nonneg hW0 (by omega)
  have ht1 : W / valB H32 b < H32 := (Int.ediv_lt_iff_lt_mul hb0).2 hlt
  have hx1 := inB_getD H32_pos hx (i + (n + 1))
  have hx2 := inB_getD H32_pos hx (i + n)
  clear hW w1 w2 wl hWt g1 g2 hwin hwl hbv hlt hW0
  rw [H32_eq] at hx1 hx2
  have k1 : IntKind.u64.wrap (x.getD (i + (n + 1)) 0 * 4294967296) = x.getD (i + (n + 1)) 0 * 4294967296 := wrapW _ (by omega) (by omega)
  have k2 : IntKind.u64.wrap (x.getD (i + (n + 1)) 0 * 4294967296 + x.getD (i + n) 0) = x.getD (i + (n + 1)) 0 * 4294967296 + x.getD (i + n) 0 := wrapW _ (by omega) (by omega)
  have k3 : 0 ≤ x.getD (i + (n + 1)) 0 * 4294967296 + x.getD (i + n) 0 := by omega
  have k4 : x.getD (i + (n + 1)) 0 * 4294967296 + x.getD (i + n) 0 < 18446744073709551616 := by omega
  have hge' : W / valB H32 b ≤ (x.getD (i + (n + 1)) 0 * 4294967296 + x.getD (i + n) 0) / b.getD n 0 := hge
  clear hge
  rw [k1, k2, Int.tdiv_eq_ediv_of_nonneg k3]
  generalize x.getD (i + (n + 1)) 0 * 4294967296 + x.getD (i + n) 0 = top at *
  have k5 := Int.ediv_nonneg k3 (by omega : 0 ≤ b.getD n 0)
  have k6 := Int.ediv_le_self (b.getD n 0) k3
  rw [wrapW _ k5 (by omega), mn_eq]
  generalize W / valB H32 b = t at *
  generalize top / b.getD n 0 = g at *
  rw [H32_eq] at ht1 ⊢
  exact ⟨(min g 4294967295 - t).toNat, by omega, by omega, ht0⟩
theorem div_sum (D Bv t Q P L : Int) : Q * Bv + (L + P * D) = (Q + P * t) * Bv + (L + P * (D - t * Bv)) := by grind
theorem pow_leB {n m : Nat} (h : n ≤ m) : H32 ^ n ≤ H32 ^ m := by
  obtain ⟨d, rfl⟩ : ∃ d, m = n + d := ⟨m - n, by omega⟩
  rw [Int.pow_add]
  have h1 := pow_posB H32_pos n
  have h2 := pow_posB H32_pos d
  have h3 : H32 ^ n * 1 ≤ H32 ^ n * H32 ^ d := Int.mul_le_mul_of_nonneg_left (by omega) (by omega)
  omega
theorem next_lt {x D B : Int} (hx : 0 ≤ x ∧ x < H32) (hD : D < B) : x + H32 * D < H32 * B := by
  have h1 : H32 * (D + 1) ≤ H32 * B := Int.mul_le_mul_of_nonneg_left (by omega) (by decide)
  rw [Int.mul_add, Int.mul_one] at h1
  omega
theorem next_pow {D B P : Int} (h : D < H32 * B) (hB : B < P) : D < H32 * P := by
  have h1 : H32 * B ≤ H32 * P := Int.mul_le_mul_of_nonneg_left (by omega) (by decide)
  omega
theorem pos_of_lt {D B : Int} (h0 : 0 ≤ D) (h : D < B) : 0 < B := by omega
theorem rest_lt {D B : Int} (h0 : 0 < B) : D - D / B * B < B := by
  have h1 := Int.emod_add_mul_ediv D B
  have h2 := Int.emod_lt_of_pos D h0
  rw [Int.mul_comm B] at h1
  omega
/-- What the window is, and what is above it. -/
theorem window (x b : List Int) (i n : Nat) (hx : inB H32 x) (hb : inB H32 b) (hbn : b.length = n + 1) (hi : i + (n + 1) < x.length) (hlt : valB H32 (x.drop (i + 1)) < valB H32 b) :
    0 < valB H32 b ∧ valB H32 (x.drop i) < H32 * valB H32 b ∧ valB H32 (x.drop i) = valB H32 ((x.take (i + (n + 1) + 1)).drop i) ∧ valB H32 (x.drop (i + (n + 1 + 1))) = 0 := by
  have hlB := valB_lt H32_pos hb
  rw [hbn] at hlB
  have hd0 := valB_nonneg H32_pos (inB_drop hx (i + 1))
  have hxi := inB_getD H32_pos hx i
  have hDlt : valB H32 (x.drop i) < H32 * valB H32 b := by
    rw [valB_drop_succ H32 x i (by clear hlt hlB; omega)]
    exact next_lt hxi hlt
  have hD0 := valB_nonneg H32_pos (inB_drop hx i)
  have hpow : H32 ^ (n + 1 + 1) = H32 * H32 ^ (n + 1) := by rw [Int.pow_succ, Int.mul_comm]
  have hDp : valB H32 (x.drop i) < H32 ^ (n + 1 + 1) := by
    rw [hpow]
    exact next_pow hDlt hlB
  have hdl : n + 1 + 1 ≤ (x.drop i).length := by rw [List.length_drop]; clear hDp hDlt hlB hlt hd0; omega
  have hwe : (x.take (i + (n + 1) + 1)).drop i = (x.drop i).take (n + 1 + 1) := by
    rw [List.drop_take]
    congr 1
    clear hDp hDlt hlB hlt hd0
    omega
  refine ⟨pos_of_lt hd0 hlt, hDlt, ?_, ?_⟩
  · rw [hwe, valB_take H32_pos (inB_drop hx i) _ hdl]
    exact (Int.emod_eq_of_lt hD0 hDp).symm
  · rw [← List.drop_drop, valB_drop H32_pos (inB_drop hx i) _ hdl]
    exact Int.ediv_eq_zero_of_lt hD0 hDp
theorem Div_main (A B s : Int) (b : List Int) (n la : Nat) (hb : inB H32 b) (hbn : b.length = n + 1) (hbt : b.getD n 0 ≠ 0) (hB : valB H32 b = B * s) (hs0 : 0 < s) (hs1 : s < H32) (hla : la ≤ 900000) :
    ∀ (m : Nat) (x q : List Int), inB H32 x → x.length = la + 2 → inB H32 q → q.length ≤ la + 2 → m ≤ q.length → m + (n + 1) ≤ x.length → (∀ j, j < m → q.getD j 0 = 0) → valB H32 (x.drop m) < valB H32 b → A * s = valB H32 q * (B * s) + valB H32 x →
      ∃ R, Ev (fun k => reckonerref01_Divide.l1 k x b s ((n + 1 : Nat) : Int) q ((m : Int) - 1)) R ∧ DivGood A B la R
  | 0, x, q, hx, hxl, hq, hql, _, _, _, hlt, hv => Div_end x b q s A B _ la _ (by decide) hx hq hs0 hs1 (by omega) (by omega) hql hv (by rw [← hB]; rw [List.drop_zero] at hlt; exact hlt)
  | i + 1, x, q, hx, hxl, hq, hql, hmq, hmx, hz, hlt, hv => by
    have hV := Aside0.mk hv
    clear hv
    have hi2 : i + (n + 1) < x.length := (by omega : ∀ a b c : Nat, a + 1 + (b + 1) ≤ c → a + (b + 1) < c) i n _ hmx
    obtain ⟨hbp, hDlt, hW, hup⟩ := window x b i n hx hb hbn hi2 hlt
    have hlen : x.length ≤ 1000000 := (by omega : ∀ a b : Nat, a = b + 2 → b ≤ 900000 → a ≤ 1000000) _ _ hxl hla
    have hqi' : i < q.length := hmq
    have hix : i ≤ x.length := (by omega : ∀ a b c : Nat, a + b < c → a ≤ c) i (n + 1) _ hi2
    obtain ⟨d, d1, d2, d3⟩ := round_guess x b i n hx hb hbn hi2 hbt (valB H32 (x.drop i)) hW hDlt
    have hsp := valB_split H32 x i hix
    have hqi : q.getD i 0 = 0 := hz i (Nat.lt_succ_self i)
    have hrl := rest_lt (D := valB H32 (x.drop i)) hbp
    have hdig : 0 ≤ valB H32 (x.drop i) / valB H32 b ∧ valB H32 (x.drop i) / valB H32 b < H32 := ⟨d3, Int.lt_of_le_of_lt (Int.le_add_of_nonneg_right (Int.natCast_nonneg d)) d2⟩
    obtain ⟨R, h1, h2⟩ := Div_guess x b q s i (n + 1) hx hb hbn hi2 hlen hbp (valB H32 (x.drop i)) (valB H32 (x.drop i) / valB H32 b) hW d3 (Int.ediv_mul_le _ (Int.ne_of_gt hbp)) (Int.lt_ediv_add_one_mul_self _ hbp) (P := DivGood A B la) (fun r r1 r2 r3 => by
      have hir : i + r.length ≤ x.length := by rw [r2]; exact hi2
      have hpl : (putL x i r).length = x.length := putL_length x i r hir
      have hput := putL_drop x i r hix
      have hpt := putL_take x i r hix
      have hpv := valB_split H32 (putL x i r) i (by rw [hpl]; exact hix)
      have hpd : valB H32 ((putL x i r).drop i) = valB H32 r := by
        rw [hput, valB_append, r2, hup, Int.mul_zero, Int.add_zero]
      rw [hpt, hpd] at hpv
      obtain ⟨R, h1, h2⟩ := Div_main A B s b n la hb hbn hbt hB hs0 hs1 hla i (putL x i r) (q.set i (valB H32 (x.drop i) / valB H32 b)) (putL_in hx r1) (hpl.trans hxl) (inB_set hq i hdig) (by rw [List.length_set]; exact hql) (by rw [List.length_set]; exact Nat.le_of_lt hqi') (by rw [hpl]; exact Nat.le_of_lt hi2)
        (fun j hj => by
          rw [getD_set, if_neg (fun h => Nat.ne_of_gt hj h.1)]
          exact hz j (Nat.lt_succ_of_lt hj)) (by rw [hpd, r3]; exact hrl) (by
          rw [hV.out, valB_set H32 q i _ hqi', hqi, Int.sub_zero, hpv, r3, hsp, ← hB]
          exact div_sum _ _ _ _ _ _)
      have h3 := Div_put x b q s (valB H32 (x.drop i) / valB H32 b) i (n + 1) r r2 hi2 hqi' (Nat.le_trans hlen (by decide)) ⟨R, h1, h2⟩ (n + 2) 0 (by omega)
      rw [List.take_zero, putL_zero] at h3
      exact h3) d d2
    refine ⟨R, Ev.step (fun k => ?_) h1, h2⟩
    clear h1 h2 hW hup hDlt hlt hsp hrl hdig hbp
    have e0 : (((i + 1 : Nat) : Int) - 1) = (i : Int) := (by omega : ∀ a : Nat, (((a + 1 : Nat) : Int) - 1) = (a : Int)) i
    have e1 : wrap64 ((i : Int) + ((n + 1 : Nat) : Int)) = ((i + (n + 1) : Nat) : Int) := w64_add i (n + 1) (Nat.lt_of_lt_of_le hi2 (Nat.le_trans hlen (by decide)))
    have e2 : wrap64 (((i + (n + 1) : Nat) : Int) - 1) = ((i + n : Nat) : Int) := w64_sub1 (i + n) ((by omega : ∀ a b c : Nat, a + (b + 1) < c → c ≤ 1000000 → a + b < 4611686018427387904) i n _ hi2 hlen)
    have e3 : wrap64 (((n + 1 : Nat) : Int) - 1) = (n : Int) := w64_sub1 n ((by omega : ∀ a b c : Nat, a + (b + 1) < c → c ≤ 1000000 → b < 4611686018427387904) i n _ hi2 hlen)
    have q1 : ((i : Int) ≥ 0) := Int.natCast_nonneg _
    have q2 : (0 : Int) ≤ ((i + (n + 1) : Nat) : Int) := Int.natCast_nonneg _
    have q3 : ((i + (n + 1) : Nat) : Int) < (x.length : Int) := Int.ofNat_lt.2 hi2
    have q4 : (0 : Int) ≤ ((i + n : Nat) : Int) := Int.natCast_nonneg _
    have q5 : ((i + n : Nat) : Int) < (x.length : Int) := Int.ofNat_lt.2 (Nat.lt_trans (Nat.lt_succ_self (i + n)) hi2)
    have q6 : (0 : Int) ≤ (n : Int) := Int.natCast_nonneg _
    have q7 : (n : Int) < (b.length : Int) := Int.ofNat_lt.2 (by rw [hbn]; exact Nat.lt_succ_self n)
    rw [e0, reckonerref01_Divide.l1, if_pos q1, e1, if_pos q2, if_pos q3, e2, if_pos q4, if_pos q5, e3, if_pos q6, if_pos q7, rd_nat, rd_nat, rd_nat, if_neg hbt, d1]
/-- Both are multiplied by the scale, and the digits are made. -/
theorem Div_scaled (a b : List Int) (s : Int) (ha : inB H32 a) (hb : inB H32 b) (hla : a.length ≤ 400000) (hlb : b.length ≤ 400000) (hb0 : 0 < valB H32 b) (hs0 : 0 < s) (hs1 : s < H32) :
    ∃ R, Ev (fun k => (reckonerref01_Times.f k a (([s] : List Int))).bind fun t383 => (if t383.length < 17592186044416 then ((some (t383 ++ [0] : List Int)).bind fun y386 => ((reckonerref01_Times.f k b (([s] : List Int))).bind fun t392 => ((reckonerref01_Short.f k t392).bind fun t395 => (if 0 ≤ (mx 0 (wrap64 ((y386.length : Int) - (t395.length : Int)))) then (if (mx 0 (wrap64 ((y386.length : Int) - (t395.length : Int))) : Int).toNat ≤ 35184372088832 then (reckonerref01_Divide.l1 k y386 t395 s (t395.length : Int) (List.replicate (mx 0 (wrap64 ((y386.length : Int) - (t395.length : Int))) : Int).toNat 0) (wrap64 ((wrap64 ((y386.length : Int) - (t395.length : Int))) - 1))) else (none)) else (none))))) else (none))) R ∧ DivGood (valB H32 a) (valB H32 b) a.length R := by
  have hs : inB H32 [s] := inB_cons.2 ⟨⟨by omega, hs1⟩, inB_nil⟩
  obtain ⟨x, x1, x2, x3, x4⟩ := Times_ev a [s] ha hs (by omega) (by simp)
  obtain ⟨c, c1, c2, c3, c4⟩ := Times_ev b [s] hb hs (by omega) (by simp)
  have hxl : x.length = a.length + 1 := x3
  have hcl : c.length = b.length + 1 := c3
  have hx4 : valB H32 x = valB H32 a * s := by rw [x4]; simp [valB]
  have hc4 : valB H32 c = valB H32 b * s := by rw [c4]; simp [valB]
  obtain ⟨m, m1, m2, m3, m4⟩ := Short_ev c (by omega)
  have hcv : 0 < valB H32 c := by rw [hc4]; exact Int.mul_pos hb0 hs0
  have hm0 : m ≠ 0 := by
    rintro rfl
    rw [List.take_zero] at m3
    have : valB H32 [] = 0 := rfl
    omega
  obtain ⟨n, rfl⟩ : ∃ n, m = n + 1 := ⟨m - 1, by omega⟩
  have hbt : (c.take (n + 1)).getD n 0 ≠ 0 := by
    have h1 : (c.take (n + 1)).getD n 0 = c.getD n 0 := by
      simp only [List.getD_eq_getElem?_getD, List.getElem?_take]
      rw [if_pos (by omega)]
    rw [h1]
    exact m4.resolve_left hm0
  have hcl2 : (c.take (n + 1)).length = n + 1 := by rw [List.length_take]; omega
  have hyl : (x ++ [0]).length = a.length + 2 := by simp [hxl]
  have hyi : inB H32 (x ++ [0]) := inB_append.2 ⟨x2, inB_cons.2 ⟨⟨Int.le_refl 0, H32_pos⟩, inB_nil⟩⟩
  have hyv : valB H32 (x ++ [0]) = valB H32 a * s := by rw [valB_append, hx4]; simp [valB]
  have hBv : valB H32 (c.take (n + 1)) = valB H32 b * s := by rw [m3, hc4]
  have htop : H32 ^ n ≤ valB H32 (c.take (n + 1)) := by
    have h1 := valB_last H32 (c.take (n + 1)) n hcl2
    have h2 := valB_nonneg H32_pos (inB_take (inB_take c2 (n + 1)) n)
    have h3 := inB_getD H32_pos (inB_take c2 (n + 1)) n
    have h4 : H32 ^ n * 1 ≤ H32 ^ n * (c.take (n + 1)).getD n 0 := Int.mul_le_mul_of_nonneg_left (by omega) (Int.le_of_lt (pow_posB H32_pos n))
    omega
  have main : ∃ R, Ev (fun k => reckonerref01_Divide.l1 k (x ++ [0]) (c.take (n + 1)) s ((n + 1 : Nat) : Int) (List.replicate (a.length + 2 - (n + 1)) 0) (((a.length + 2 : Nat) : Int) - ((n + 1 : Nat) : Int) - 1)) R ∧ DivGood (valB H32 a) (valB H32 b) a.length R := by
    by_cases hle : n + 1 ≤ a.length + 2
    · have e1 : (((a.length + 2 : Nat) : Int) - ((n + 1 : Nat) : Int) - 1) = ((a.length + 2 - (n + 1) : Nat) : Int) - 1 := by omega
      rw [e1]
      refine Div_main (valB H32 a) (valB H32 b) s (c.take (n + 1)) n a.length (inB_take c2 _) hcl2 hbt hBv hs0 hs1 (by omega) (a.length + 2 - (n + 1)) (x ++ [0]) (List.replicate (a.length + 2 - (n + 1)) 0) hyi hyl (inB_zeros H32_pos _) (by rw [List.length_replicate]; omega) (by rw [List.length_replicate]; exact Nat.le_refl _) (by omega) (fun j _ => getD_zeros _ j) ?_ (by rw [valB_zeros, hyv]; omega)
      have h1 : valB H32 ((x ++ [0]).drop (a.length + 2 - (n + 1))) = valB H32 (x.drop (a.length + 2 - (n + 1))) := by
        rw [List.drop_append_of_le_length (by omega), valB_append]
        simp [valB]
      have h2 := valB_lt H32_pos (inB_drop x2 (a.length + 2 - (n + 1)))
      have h3 : (x.drop (a.length + 2 - (n + 1))).length = n := by rw [List.length_drop]; omega
      rw [h3] at h2
      rw [h1]
      omega
    · refine Div_end (x ++ [0]) (c.take (n + 1)) _ s (valB H32 a) (valB H32 b) _ a.length _ (by omega) hyi (inB_zeros H32_pos _) hs0 hs1 (by omega) (by omega) (by rw [List.length_replicate]; omega) (by rw [valB_zeros, hyv]; omega) ?_
      have h2 := valB_lt H32_pos hyi
      rw [hyl] at h2
      have h3 : H32 ^ (a.length + 2) ≤ H32 ^ n := pow_leB (by omega)
      rw [← hBv]
      omega
  obtain ⟨R, h1, h2⟩ := main
  refine ⟨R, Ev.bind x1 (Ev.ite_pos (fun _ => by omega) (Ev.bind (Ev.now _) (Ev.bind c1 (Ev.bind m2 (Ev.congr (fun k => ?_) h1))))), h2⟩
  have e0 : wrap64 (((x ++ [0]).length : Int) - ((c.take (n + 1)).length : Int)) = ((a.length + 2 : Nat) : Int) - ((n + 1 : Nat) : Int) := by
    rw [hyl, hcl2]
    exact w64_int _ (by omega) (by omega)
  have e2 : wrap64 (((a.length + 2 : Nat) : Int) - ((n + 1 : Nat) : Int) - 1) = ((a.length + 2 : Nat) : Int) - ((n + 1 : Nat) : Int) - 1 := w64_int _ (by omega) (by omega)
  have e3 : mx 0 (((a.length + 2 : Nat) : Int) - ((n + 1 : Nat) : Int)) = ((a.length + 2 - (n + 1) : Nat) : Int) := by rw [mx_eq]; omega
  have q1 : (0 : Int) ≤ ((a.length + 2 - (n + 1) : Nat) : Int) := by omega
  have q2 : a.length + 2 - (n + 1) ≤ 35184372088832 := by omega
  rw [e0, e2, e3, if_pos q1, Int.toNat_natCast, if_pos q2, hcl2]
/-- The scale is made. -/
theorem Div_scale (a b : List Int) (n : Nat) (ha : inB H32 a) (hb : inB H32 b) (hla : a.length ≤ 400000) (hlb : b.length ≤ 400000) (hbn : b.length = n + 1) (hbt : b.getD n 0 ≠ 0) (hb0 : 0 < valB H32 b) : ∀ (d : Nat) (s : Int), 0 < s → s < H32 → H32 - s ≤ d →
    ∃ R, Ev (fun k => reckonerref01_Divide.l0 k a b s) R ∧ DivGood (valB H32 a) (valB H32 b) a.length R
  | 0, s, h0, h1, hd => by omega
  | d + 1, s, h0, h1, hd => by
    have hx := inB_getD H32_pos hb n
    have e1 : wrap64 ((b.length : Int) - 1) = (n : Int) := by rw [hbn]; exact w64_sub1 n (by omega)
    have q1 : (0 : Int) ≤ (n : Int) := by omega
    have q2 : (n : Int) < (b.length : Int) := by omega
    have p0 : 1 * s ≤ b.getD n 0 * s := Int.mul_le_mul_of_nonneg_right (by omega) (by omega)
    have p1 : b.getD n 0 * s ≤ 4294967295 * 4294967295 := by
      rw [H32_eq] at hx h1
      exact Int.mul_le_mul (by omega) (by omega) (by omega) (by decide)
    have w1 : IntKind.u64.wrap (b.getD n 0 * s) = b.getD n 0 * s := wrapW _ (by omega) (by omega)
    by_cases hc : b.getD n 0 * s < 2147483648
    · have hs2 : 2 * s < H32 := by rw [H32_eq]; omega
      have w2 : IntKind.u64.wrap (2 * s) = 2 * s := wrapW _ (by omega) (by rw [H32_eq] at hs2; omega)
      obtain ⟨R, k1, k2⟩ := Div_scale a b n ha hb hla hlb hbn hbt hb0 d (2 * s) (by omega) hs2 (by omega)
      refine ⟨R, Ev.step (fun k => ?_) k1, k2⟩
      rw [reckonerref01_Divide.l0, e1, if_pos q1, if_pos q2, rd_nat, w1, if_pos hc, w2]
    · obtain ⟨R, k1, k2⟩ := Div_scaled a b s ha hb hla hlb hb0 h0 h1
      refine ⟨R, Ev.step (fun k => ?_) k1, k2⟩
      rw [reckonerref01_Divide.l0, e1, if_pos q1, if_pos q2, rd_nat, w1, if_neg hc]
/-- A quotient and a remainder of digits. -/
theorem Divide_ev (a b : List Int) (ha : inB H32 a) (hb : inB H32 b) (hla : a.length ≤ 400000) (hlb : b.length ≤ 400000) (hb0 : 0 < valB H32 b) :
    ∃ R, Ev (fun k => reckonerref01_Divide.f k a b) R ∧ DivGood (valB H32 a) (valB H32 b) a.length R := by
  obtain ⟨m, m1, m2, m3, m4⟩ := Short_ev b (by omega)
  have hm0 : m ≠ 0 := by
    rintro rfl
    rw [List.take_zero] at m3
    have : valB H32 [] = 0 := rfl
    omega
  obtain ⟨n, rfl⟩ : ∃ n, m = n + 1 := ⟨m - 1, by omega⟩
  have hbt : (b.take (n + 1)).getD n 0 ≠ 0 := by
    have h1 : (b.take (n + 1)).getD n 0 = b.getD n 0 := by
      simp only [List.getD_eq_getElem?_getD, List.getElem?_take]
      rw [if_pos (by omega)]
    rw [h1]
    exact m4.resolve_left hm0
  have hbl : (b.take (n + 1)).length = n + 1 := by rw [List.length_take]; omega
  have hbi := inB_take hb (n + 1)
  rw [← m3]
  by_cases hn : n = 0
  · subst hn
    have hx := inB_getD H32_pos hbi 0
    obtain ⟨q, r, r1, r2, r3, r4, r5, r6⟩ := one_ev a ((b.take (0 + 1)).getD 0 0) ha (by omega) hx.2 (by omega)
    have hv : valB H32 (b.take (0 + 1)) = (b.take (0 + 1)).getD 0 0 := by
      have h1 := valB_last H32 (b.take (0 + 1)) 0 hbl
      rw [List.take_zero] at h1
      simpa [valB] using h1
    refine ⟨(q, [r]), Ev.bind m2 (Ev.congr (f := fun k => (reckonerref01_one.f k a ((b.take (0 + 1)).getD 0 0)).bind fun bt373 => (some (bt373.1, bt373.2))) (fun k => ?_) (Ev.bind r1 (Ev.now _))), r2, inB_cons.2 ⟨⟨r4, by omega⟩, inB_nil⟩, by show q.length ≤ _; omega, by show ([r] : List Int).length ≤ _; simp, ?_, ?_⟩
    · have q1 : (((b.take (0 + 1)).length : Int) = 1) := by omega
      have q2 : (0 : Int) < ((b.take (0 + 1)).length : Int) := by omega
      have e1 : rd (b.take (0 + 1)) 0 = (b.take (0 + 1)).getD 0 0 := rd_nat _ 0
      rw [if_pos q1, if_pos q2, e1]
    · show valB H32 a = valB H32 q * valB H32 (b.take (0 + 1)) + valB H32 [r]
      rw [hv, show valB H32 [r] = r by simp [valB]]
      exact r6.symm
    · show valB H32 [r] < _
      rw [hv, show valB H32 [r] = r by simp [valB]]
      exact r5
  · obtain ⟨R, h1, h2⟩ := Div_scale a (b.take (n + 1)) n ha hbi hla (by omega) hbl hbt (by rw [m3]; exact hb0) 4294967296 1 (by decide) (by decide) (by rw [H32_eq]; omega)
    refine ⟨R, Ev.bind m2 (Ev.congr (fun k => ?_) h1), h2⟩
    have q1 : ¬ (((b.take (n + 1)).length : Int) = 1) := by omega
    rw [if_neg q1]
end Go.Proofs.YtldefhhfcbmbpaaDoor.Ex
/- What every law asks beside: awake; the law's few and equal. -/
namespace Go.Proofs.YtldefhhfcbmbpaaDoor.Ex
open Go.RowKit Go.Proofs.YtldefhhfcbmbpaaDoorW.PrintWords Go.Proofs.YtldefhhfcbmbpaaDoorW.PrintLast Go.Proofs.YtldefhhfcbmbpaaDoorW.PrintMore Go.Proofs.YtldefhhfcbmbpaaDoor.T
set_option linter.unusedVariables false
set_option linter.unusedSimpArgs false

theorem isW_of_wf {x : Int} (h : (Lit.int .u64 x).wf = true) : isW x := by
  have h1 : 0 ≤ x ∧ x ≤ 18446744073709551615 := by
    simp [Lit.wf, IntKind.min, IntKind.max, IntKind.signed, IntKind.bits] at h
    omega
  unfold isW
  rw [W64_eq]
  omega
theorem aw1 : words_Add.f [18446744073709551615] [1] 0 = some ([0], 1, 0) := by kernel_rfl
theorem aw2 : words_Sub.f [0] [1] 0 = some ([18446744073709551615], 1, 0) := by kernel_rfl
theorem aw3 : words_MulWord.f [18446744073709551615] 18446744073709551615 18446744073709551615 = some ([0], 18446744073709551615, 0) := by kernel_rfl
theorem aw4 : words_DivWord.f [0] 3 1 = some ([6148914691236517205], 1, 0) := by kernel_rfl
theorem aw5 : words_Right.f [3] 1 = some ([1], 9223372036854775808, 0) := by kernel_rfl
theorem aw6 : words_Inverse.f 3 = some (12297829382473034411, 0) := by kernel_rfl
theorem aw7 : words_Reciprocal.f 9223372036854775808 = some (18446744073709551615, 0) := by kernel_rfl
theorem awake_ev : Ev (fun k => reckonerlaw01_awake.f k) true := by
  obtain ⟨k1, h1⟩ := same_true (a := [0]) (b := [0]) rfl (by decide)
  obtain ⟨k2, h2⟩ := same_true (a := [18446744073709551615]) (b := [18446744073709551615]) rfl (by decide)
  obtain ⟨k3, h3⟩ := same_true (a := [6148914691236517205]) (b := [6148914691236517205]) rfl (by decide)
  obtain ⟨k4, h4⟩ := same_true (a := [1]) (b := [1]) rfl (by decide)
  refine ⟨max (max k1 k2) (max k3 k4), fun k hk => ?_⟩
  have e1 : reckonerlaw01_same.f k [0] [0] = some true := h1 k (by omega)
  have e2 : reckonerlaw01_same.f k [18446744073709551615] [18446744073709551615] = some true := h2 k (by omega)
  have e3 : reckonerlaw01_same.f k [6148914691236517205] [6148914691236517205] = some true := h3 k (by omega)
  have e4 : reckonerlaw01_same.f k [1] [1] = some true := h4 k (by omega)
  show reckonerlaw01_awake.f k = some true
  unfold reckonerlaw01_awake.f
  simp only [aw1, aw2, aw3, aw4, aw5, aw6, aw7, Option.bind_some, e1, e2, e3, e4, if_true]
  rfl
end Go.Proofs.YtldefhhfcbmbpaaDoor.Ex
/- WordsDivides: the plain law. -/
namespace Go.Proofs.YtldefhhfcbmbpaaDoor.Ex
open Go.RowKit Go.Proofs.YtldefhhfcbmbpaaDoorW.PrintWords Go.Proofs.YtldefhhfcbmbpaaDoorW.PrintLast Go.Proofs.YtldefhhfcbmbpaaDoorW.PrintMore Go.Proofs.YtldefhhfcbmbpaaDoor.T
set_option linter.unusedVariables false
set_option linter.unusedSimpArgs false

theorem quot_lt {V Q w R P h : Int} (h0 : V + P * h = Q * w + R) (hV : V < P) (hR : 0 ≤ R) (hw : h < w) (hP : 0 < P) (hw0 : 0 < w) : Q < P := by
  have h1 : P * (h + 1) ≤ P * w := Int.mul_le_mul_of_nonneg_left (by omega) (by omega)
  rw [Int.mul_add, Int.mul_one] at h1
  have h2 : Q * w < P * w := by omega
  exact Int.lt_of_mul_lt_mul_right h2 (by omega)
theorem pow_le_mul {Q P : Int} (h : Q < P) (hP : 0 < P) : Q < P * W64 := by
  have h1 : P * 1 ≤ P * W64 := Int.mul_le_mul_of_nonneg_left (by decide) (by omega)
  omega
theorem comm_eq {Q w R V S : Int} (h : V * w + S = Q * w + R) : S + w * V = R + w * Q := by grind
/-- The reference's quotient by a word is the program's. -/
theorem DivWord_ev (x : List Int) (w high : Int) (hx : inW x) (hw : isW w) (hh : isW high) (hlt : high < w) (hn : x.length ≤ 4096) :
    Ev (fun k => reckonerref01_DivWord.f k x w high) (downL (divS w x) x.length high) := by
  have d1 := Digits_ev x hx (by omega)
  have ww := Word_some w hw
  have wh := Word_some high hh
  have w0 : 0 < w := Int.lt_of_le_of_lt hh.1 hlt
  have ha : inB H32 (digitsL x ++ [high % H32, high / H32]) := inB_append.2 ⟨digitsL_in hx, word_in high hh⟩
  have hal : (digitsL x ++ [high % H32, high / H32]).length = 2 * x.length + 2 := by simp [digitsL_length]
  have hav : valB H32 (digitsL x ++ [high % H32, high / H32]) = valB W64 x + W64 ^ x.length * high := by rw [valB_append, digitsL_val, digitsL_length, H32_pow, word_val]
  obtain ⟨R, r1, r2, r3, r4, r5, r6, r7⟩ := Divide_ev (digitsL x ++ [high % H32, high / H32]) [w % H32, w / H32] ha (word_in w hw) (by rw [hal]; omega) (by simp) (by rw [word_val]; exact w0)
  rw [word_val] at r6 r7
  rw [hal] at r4 r5
  rw [hav] at r6
  have hx1 := valB_lt W64_pos (inB_of_inW hx)
  have hP := pow_W64_pos x.length
  have hR0 := valB_nonneg H32_pos r3
  have hQ0 := valB_nonneg H32_pos r2
  have hQ1 := quot_lt r6 hx1 hR0 hlt hP w0
  obtain ⟨row, t, c1, c2, c3, c4, c5⟩ := Cut_ev x.length (by omega) R.1 r2 (by omega)
  obtain ⟨row2, rest, b1, b2, b3, b4, b5⟩ := Cut_ev 0 (by omega) R.2 r3 (by omega)
  rw [Int.emod_eq_of_lt hQ0 (pow_le_mul hQ1 hP)] at c5
  have hRW : valB H32 R.2 < W64 ^ 0 * W64 := by rw [Int.pow_zero, Int.one_mul]; exact Int.lt_trans r7 hw.2
  rw [Int.emod_eq_of_lt hR0 hRW] at b5
  have hrow2 : row2 = [] := List.eq_nil_of_length_eq_zero b3
  have hrest : rest = valB H32 R.2 := by
    rw [hrow2, Int.pow_zero, Int.one_mul] at b5
    rw [← b5]
    exact (Int.zero_add rest).symm
  obtain ⟨v1, v2, v3⟩ := div_val w x hx w0 hw x.length high (Nat.le_refl _) hh.1 hlt
  rw [List.take_of_length_le (Nat.le_refl _), r6] at v3
  obtain ⟨e1, e2⟩ := div_unique v2.1 v2.2 hR0 r7 (comm_eq v3)
  have hlen := downL_length (divS w x) x.length high
  have hc5 : valB W64 row + W64 ^ x.length * t = valB W64 (downL (divS w x) x.length high).1 + W64 ^ x.length * 0 := by rw [c5, e2, Int.mul_zero, Int.add_zero]
  obtain ⟨f1, f2⟩ := row_eq c2 v1 c3 hlen hc5
  have hE : downL (divS w x) x.length high = (row, rest) := by rw [f1, hrest, ← e1]
  rw [hE]
  have q1 : (digitsL x).length + ([high % H32, high / H32] : List Int).length < 17592186044416 := by rw [digitsL_length]; simp only [List.length_cons, List.length_nil]; omega
  have q2 : ([] : List Int).length + R.2.length < 17592186044416 := by simp only [List.length_nil]; omega
  refine Ev.bind d1 ?_
  simp only [ww, wh, Option.bind_some]
  refine Ev.ite_pos (fun _ => q1) (Ev.bind r1 (Ev.bind c1 (Ev.ite_pos (fun _ => q2) (Ev.bind (show Ev (fun k => reckonerref01_Cut.f k ([] ++ R.2) 0) (row2, rest) from b1) (Ev.now (row, rest))))))
theorem Narrow_ev (high low w : Int) (hl : isW low) (hw : isW w) (hh : isW high) (hlt : high < w) :
    Ev (fun k => reckonerref01_Narrow.f k high low w) ((high * W64 + low) / w, (high * W64 + low) % w) := by
  have h := DivWord_ev [low] w high (inW_cons.2 ⟨hl, inW_nil⟩) hw hh hlt (by simp)
  exact Ev.bind h (Ev.now _)
end Go.Proofs.YtldefhhfcbmbpaaDoor.Ex
/- WordsShifts: the plain law. -/
namespace Go.Proofs.YtldefhhfcbmbpaaDoor.Ex
open Go.RowKit Go.Proofs.YtldefhhfcbmbpaaDoorW.PrintWords Go.Proofs.YtldefhhfcbmbpaaDoorW.PrintLast Go.Proofs.YtldefhhfcbmbpaaDoorW.PrintMore Go.Proofs.YtldefhhfcbmbpaaDoor.T
set_option linter.unusedVariables false
set_option linter.unusedSimpArgs false

theorem pow2_lt (n : Nat) (h : n ≤ 63) : isW ((2 : Int) ^ n) := by
  have h1 : 2 ^ n < 2 ^ 64 := Nat.pow_lt_pow_right (by decide) (by omega)
  have h2 : (2 : Int) ^ n = ((2 ^ n : Nat) : Int) := by simp
  have h3 : 2 ^ n < 18446744073709551616 := h1
  unfold isW
  rw [h2, W64_eq]
  exact ⟨Int.natCast_nonneg _, Int.ofNat_lt.2 h3⟩
theorem shl_one (s : Int) (h0 : 0 ≤ s) (h1 : s ≤ 63) : shl .u64 1 s = 2 ^ s.toNat := by
  have h := pow2_lt s.toNat (by omega)
  have h2 := h.2
  rw [W64_eq] at h2
  rw [← shl_small (rfl : shl .u64 1 s = shl .u64 1 s) (show s ≤ ((64 : Nat) : Int) by omega), Int.one_mul]
  exact wrapW _ h.1 h2
end Go.Proofs.YtldefhhfcbmbpaaDoor.Ex
/- WordsInverses: the plain law. -/
namespace Go.Proofs.YtldefhhfcbmbpaaDoor.Ex
open Go.RowKit Go.Proofs.YtldefhhfcbmbpaaDoorW.PrintWords Go.Proofs.YtldefhhfcbmbpaaDoorW.PrintLast Go.Proofs.YtldefhhfcbmbpaaDoorW.PrintMore Go.Proofs.YtldefhhfcbmbpaaDoor.T
set_option linter.unusedVariables false
set_option linter.unusedSimpArgs false

/-! ### the inverse -/
/-- A step doubles the bits that are right. -/
theorem inv_step (w v P : Int) (hP : ∃ c, W64 = P * P * c) (h : ∃ t, w * v = 1 + P * t) : ∃ t, w * invS w v = 1 + (P * P) * t := by
  obtain ⟨c, hc⟩ := hP
  obtain ⟨t, ht⟩ := h
  have hd := Int.emod_add_mul_ediv (v * (2 - w * v)) W64
  unfold invS
  refine ⟨- (t * t) - w * (c * (v * (2 - w * v) / W64)), ?_⟩
  generalize v * (2 - w * v) / W64 = y at *
  have e : v * (2 - w * v) % W64 = v * (2 - w * v) - P * P * c * y := by rw [← hc]; omega
  rw [e]
  generalize v * (2 - w * v) % W64 = z at *
  clear hd e hc
  grind
theorem invS_in (w v : Int) : isW (invS w v) := ⟨Int.emod_nonneg _ (by decide), Int.emod_lt_of_pos _ W64_pos⟩
theorem small_inv : ∀ r : Nat, r < 16 → r % 2 = 1 → (r : Int) * smalls.getD r 0 % 16 = 1 := by decide
theorem Inverse_ok (w : Int) (hw : isW w) (ho : w % 2 = 1) : ∃ v, words_Inverse.f w = some (v, 0) ∧ isW v ∧ ∃ t, w * v = 1 + W64 * t := by
  have n0 : ¬ w % 2 = 0 := by omega
  have hr : ((w % 16).toNat : Int) = w % 16 := by omega
  have h0 := small_inv (w % 16).toNat (by omega) (by omega)
  rw [hr] at h0
  have hd := Int.emod_add_mul_ediv w 16
  have h1 : ∃ t, w * smalls.getD (w % 16).toNat 0 = 1 + 16 * t := by
    generalize smalls.getD (w % 16).toNat 0 = s at *
    have hd2 := Int.emod_add_mul_ediv (w % 16 * s) 16
    rw [h0] at hd2
    refine ⟨(w % 16 * s) / 16 + w / 16 * s, ?_⟩
    generalize (w % 16 * s) / 16 = a at *
    generalize w / 16 = b at *
    generalize w % 16 = c at *
    clear h0 hr n0 ho hw
    grind
  refine ⟨invN w 4 (smalls.getD (w % 16).toNat 0), by unfold words_Inverse.f; rw [if_pos hw, if_neg n0], ?_, ?_⟩
  · show isW (invS w (invS w (invS w (invS w _))))
    exact invS_in w _
  · show ∃ t, w * invS w (invS w (invS w (invS w _))) = 1 + W64 * t
    have h2 := inv_step w _ 16 ⟨72057594037927936, by decide⟩ h1
    have h3 := inv_step w _ (16 * 16) ⟨281474976710656, by decide⟩ h2
    have h4 := inv_step w _ (16 * 16 * (16 * 16)) ⟨4294967296, by decide⟩ h3
    have h5 := inv_step w _ (16 * 16 * (16 * 16) * (16 * 16 * (16 * 16))) ⟨1, by decide⟩ h4
    obtain ⟨t, ht⟩ := h5
    exact ⟨t, ht⟩
theorem inv_unique {w v1 v2 : Int} (h1 : isW v1) (h2 : isW v2) (e1 : ∃ t, w * v1 = 1 + W64 * t) (e2 : ∃ t, w * v2 = 1 + W64 * t) : v1 = v2 := by
  obtain ⟨t1, e1⟩ := e1
  obtain ⟨t2, e2⟩ := e2
  have h : v1 + W64 * (v1 * t2) = v2 + W64 * (v2 * t1) := by grind
  exact (div_unique h1.1 h1.2 h2.1 h2.2 h).1
/-- A bit of a product, from the word that it leaves. -/
theorem bit_of (x t P Q : Int) (hP : 1 < P) (hx : x = 1 + P * t) (hQ : W64 = P * (2 * Q)) : Int.tmod ((x % W64) / P) 2 = t % 2 := by
  have h0 : 0 ≤ x % W64 := Int.emod_nonneg _ (by decide)
  have hd := Int.emod_add_mul_ediv x W64
  have e1 : x % W64 = 1 + P * (t - 2 * (Q * (x / W64))) := by
    generalize x / W64 = y at *
    generalize x % W64 = z at *
    rw [hQ, hx] at hd
    clear h0
    grind
  have h2 : 0 ≤ (x % W64) / P := Int.ediv_nonneg h0 (by omega)
  rw [Int.tmod_eq_emod_of_nonneg h2, e1, Int.add_mul_ediv_left _ _ (by omega), Int.ediv_eq_zero_of_lt (by decide) hP, Int.zero_add]
  omega
theorem RInv_loop (w : Int) (ho : w % 2 = 1) : ∀ (m i : Nat) (v : Int), i + m = 64 → 1 ≤ i → 0 ≤ v → v < 2 ^ i → (∃ t, w * v = 1 + 2 ^ i * t) → ∃ r, Ev (fun k => reckonerref01_Inverse.l0 k w v (i : Int)) r ∧ isW r ∧ ∃ t, w * r = 1 + W64 * t
  | 0, i, v, hi, h1, v0, v1, ht => by
    obtain rfl : i = 64 := by omega
    have q1 : ¬ (((64 : Nat) : Int) < 64) := by decide
    have hW : (2 : Int) ^ 64 = W64 := by decide
    rw [hW] at v1 ht
    exact ⟨v, Ev.now' fun k => by rw [reckonerref01_Inverse.l0, if_neg q1], ⟨v0, v1⟩, ht⟩
  | m + 1, i, v, hi, h1, v0, v1, ht => by
    obtain ⟨t, ht⟩ := ht
    have q1 : ((i : Int) < 64) := by omega
    have q2 : ¬ ((i : Int) = 0) := by omega
    have q3 : (0 : Int) ≤ (i : Int) := by omega
    have e1 := w64_suc i (by omega)
    have hP : (1 : Int) < 2 ^ i := by
      have h2 : 2 ^ 1 ≤ 2 ^ i := Nat.pow_le_pow_right (by decide) h1
      have h3 : (2 : Int) ^ i = ((2 ^ i : Nat) : Int) := by simp
      have h4 : (1 : Nat) < 2 ^ i := by omega
      rw [h3]
      exact Int.ofNat_lt.2 h4
    have hQ : W64 = 2 ^ i * (2 * 2 ^ (63 - i)) := by
      have h2 : (2 : Int) * 2 ^ (63 - i) = 2 ^ (64 - i) := by rw [show 64 - i = (63 - i) + 1 by omega, Int.pow_succ, Int.mul_comm]
      rw [h2, ← Int.pow_add, show i + (64 - i) = 64 by omega]
      decide
    have hs : shr .u64 (IntKind.u64.wrap (w * v)) (i : Int) = (w * v % W64) / 2 ^ i := by
      rw [wrap64_eq]
      exact (shr_small rfl (show (i : Int) ≤ ((64 : Nat) : Int) by omega)).symm
    have hb := bit_of (w * v) t (2 ^ i) (2 ^ (63 - i)) hP ht hQ
    have hl : shl .u64 1 (i : Int) = 2 ^ i := shl_one (i : Int) (by omega) (by omega)
    have hpw := pow2_lt i (by omega)
    have hs1 : (2 : Int) ^ (i + 1) = 2 * 2 ^ i := by rw [Int.pow_succ, Int.mul_comm]
    by_cases hz : t % 2 = 0
    · obtain ⟨r, r1, r2⟩ := RInv_loop w ho m (i + 1) v (by omega) (by omega) v0 (by rw [hs1]; omega) ⟨t / 2, by
        have h2 : t = 2 * (t / 2) := by omega
        rw [ht, hs1]
        generalize t / 2 = y at h2
        generalize (2 : Int) ^ i = P
        subst h2
        grind⟩
      refine ⟨r, Ev.step (fun k => ?_) r1, r2⟩
      rw [reckonerref01_Inverse.l0, if_pos q1, if_neg q2, if_pos q3, hs, hb, if_pos hz, e1]
    · have hwv : IntKind.u64.wrap (v + 2 ^ i) = v + 2 ^ i := by
        have h2 : (2 : Int) ^ i * 2 ≤ W64 := by
          rw [hQ]
          have h3 : (0 : Int) < 2 ^ (63 - i) := Int.pow_pos (by decide)
          exact Int.mul_le_mul_of_nonneg_left (by omega) (by omega)
        rw [W64_eq] at h2
        exact wrapW _ (by omega) (by omega)
      obtain ⟨r, r1, r2⟩ := RInv_loop w ho m (i + 1) (v + 2 ^ i) (by omega) (by omega) (by omega) (by rw [hs1]; omega) ⟨(t + w) / 2, by
        have h2 : t + w = 2 * ((t + w) / 2) := by omega
        rw [hs1, Int.mul_add, ht]
        generalize (t + w) / 2 = y at h2
        generalize (2 : Int) ^ i = P
        have h4 : t = 2 * y - w := by omega
        subst h4
        grind⟩
      refine ⟨r, Ev.step (fun k => ?_) r1, r2⟩
      rw [reckonerref01_Inverse.l0, if_pos q1, if_neg q2, if_pos q3, hs, hb, if_neg hz, hl, hwv, e1]
theorem RInverse_ev (w : Int) (ho : w % 2 = 1) : ∃ r, Ev (fun k => reckonerref01_Inverse.f k w) r ∧ isW r ∧ ∃ t, w * r = 1 + W64 * t := by
  obtain ⟨r, r1, r2⟩ := RInv_loop w ho 63 1 1 rfl (by decide) (by decide) (by decide) ⟨w / 2, by
    rw [Int.mul_one, Int.pow_one]
    omega⟩
  refine ⟨r, ?_, r2⟩
  refine Ev.step (f := fun k => reckonerref01_Inverse.l0 k w 1 ((1 : Nat) : Int)) (fun k => ?_) r1
  show reckonerref01_Inverse.l0 (k + 1) w 0 0 = _
  have h1 : ¬ (Int.tmod (shr .u64 (IntKind.u64.wrap (w * 0)) 0) 2 = 1) := by rw [Int.mul_zero]; decide
  have h2 : IntKind.u64.wrap (0 + (shl .u64 1 0)) = 1 := by kernel_rfl
  have h3 : wrap64 (0 + 1) = ((1 : Nat) : Int) := by kernel_rfl
  rw [reckonerref01_Inverse.l0, if_pos (by decide), if_pos rfl, if_pos (by decide), if_neg h1, h2, h3]
/-! ### the reciprocal -/
theorem xor_in (d : Int) (h0 : 9223372036854775808 ≤ d) (h1 : d < W64) : isW (18446744073709551615 - d) ∧ 18446744073709551615 - d < d ∧ isW 18446744073709551615 ∧ isW d := by
  unfold isW
  rw [W64_eq] at *
  omega
theorem Reciprocal_some (d : Int) (h0 : 9223372036854775808 ≤ d) (h1 : d < W64) : words_Reciprocal.f d = some (recipV d, 0) := by
  obtain ⟨x1, x2, x3, x4⟩ := xor_in d h0 h1
  have hn : ¬ d < 9223372036854775808 := by omega
  unfold words_Reciprocal.f words_reciprocal.f bits_Div64.f
  rw [if_neg hn, xor_all d x4, if_pos ⟨⟨x1.1, x2⟩, x3, h1⟩]
  rfl
theorem RReciprocal_ev (d : Int) (h0 : 9223372036854775808 ≤ d) (h1 : d < W64) : Ev (fun k => reckonerref01_Reciprocal.f k d) (recipV d) := by
  obtain ⟨x1, x2, x3, x4⟩ := xor_in d h0 h1
  have h := Narrow_ev (18446744073709551615 - d) 18446744073709551615 d x3 x4 x1 x2
  show Ev (fun k => (reckonerref01_Narrow.f k (Go.bits .xor .u64 18446744073709551615 d) 18446744073709551615 d).bind fun bt596 => (some bt596.1)) (recipV d)
  rw [xor_all d x4]
  exact Ev.bind h (Ev.now _)
/-! ### the law -/
theorem or_in (w : Int) (hw : isW w) : isW (Go.bits .or .u64 (Go.bits .or .u64 w 1) 9223372036854775808) ∧ 0 < Go.bits .or .u64 (Go.bits .or .u64 w 1) 9223372036854775808 := by
  obtain ⟨x, rfl⟩ := Int.eq_ofNat_of_zero_le hw.1
  have h1 := hw.2
  rw [W64_eq] at h1
  have e1 := bits_or_u64_nat x 1 (by omega) (by omega)
  have h2 : x ||| 1 < 2 ^ 64 := Nat.or_lt_two_pow (by omega) (by decide)
  have e2 := bits_or_u64_nat (x ||| 1) 9223372036854775808 (by omega) (by omega)
  have h3 : (x ||| 1) ||| 9223372036854775808 < 2 ^ 64 := Nat.or_lt_two_pow h2 (by decide)
  have h4 : 9223372036854775808 ≤ (x ||| 1) ||| 9223372036854775808 := Nat.right_le_or
  have e3 : ((1 : Nat) : Int) = 1 := rfl
  have e4 : ((9223372036854775808 : Nat) : Int) = 9223372036854775808 := rfl
  rw [e3] at e1
  rw [e4] at e2
  rw [e1, e2]
  unfold isW
  rw [W64_eq]
  omega
theorem xor_one (r : Int) (hr : isW r) : isW (Go.bits .xor .u64 r 1) ∧ Go.bits .xor .u64 r 1 ≠ r := by
  obtain ⟨x, rfl⟩ := Int.eq_ofNat_of_zero_le hr.1
  have h1 := hr.2
  rw [W64_eq] at h1
  have e1 := bits_xor_u64_nat x 1 (by omega) (by omega)
  have e3 : ((1 : Nat) : Int) = 1 := rfl
  rw [e3] at e1
  have h2 : x ^^^ 1 < 2 ^ 64 := Nat.xor_lt_two_pow (by omega) (by decide)
  have h3 : (x ^^^ 1) ≠ x := by
    intro h
    have h4 : (x ^^^ 1).testBit 0 = x.testBit 0 := by rw [h]
    rw [Nat.testBit_xor] at h4
    cases hb : x.testBit 0 <;> rw [hb] at h4 <;> simp at h4
  rw [e1]
  unfold isW
  rw [W64_eq]
  omega
theorem by_bad (a0 a1 a2 a3 : Int) (h0 : isW a0) (h1 : isW a1) (h2 : isW a2) (h3 : isW a3) (h : a2 < 9223372036854775808 ∨ a3 ≠ recipV a2 ∨ a2 ≤ a0) : words_ByReciprocal.f a0 a1 a2 a3 = some (0, 0, 1) := by
  unfold words_ByReciprocal.f
  rw [if_pos ⟨h0, h1, h2, h3⟩]
  by_cases c1 : a2 < 9223372036854775808
  · rw [if_pos c1]
  · rw [if_neg c1]
    by_cases c2 : a3 = recipV a2
    · rw [if_pos c2, if_pos (by rcases h with h | h | h <;> first | exact absurd h c1 | exact absurd c2 h | exact h)]
    · rw [if_neg c2]
theorem Inverses_j1 (w high low : Int) (r : Nat) (hw : isW w) (hh : isW high) (hl : isW low)
    (nx : Ev (fun k => if (Go.bits .or .u64 (Go.bits .or .u64 w 1) 9223372036854775808) = 0 then (none) else (reckonerlaw01_WordsInverses.l0 k (Go.bits .or .u64 (Go.bits .or .u64 w 1) 9223372036854775808) (Int.tmod high (Go.bits .or .u64 (Go.bits .or .u64 w 1) 9223372036854775808)) low (wrap64 ((r : Int) + 1)))) true) :
    Ev (fun k => reckonerlaw01_WordsInverses.j1 k w high low (r : Int) false) true := by
  by_cases hs : w < 9223372036854775808
  · have f1 : words_Reciprocal.f w = some (0, 1) := by unfold words_Reciprocal.f; rw [if_pos hs]
    have f2 := by_bad high low w 0 hh hl hw ⟨Int.le_refl 0, W64_pos⟩ (Or.inl hs)
    refine Ev.step (fun k => ?_) nx
    rw [reckonerlaw01_WordsInverses.j1, if_neg (by decide), f1, Option.bind_some, if_pos hs, f2, Option.bind_some, if_pos rfl, if_pos rfl, if_pos rfl, if_pos rfl, if_pos rfl]
  · have hs0 : 9223372036854775808 ≤ w := by omega
    have f1 := Reciprocal_some w hs0 hw.2
    have e1 := RReciprocal_ev w hs0 hw.2
    have hR := (recip_ok w hs0 hw.2).1
    have hx := xor_one (recipV w) hR
    have hw0 : ¬ w = 0 := by omega
    have hm : isW (Int.tmod high w) := by
      rw [Int.tmod_eq_emod_of_nonneg hh.1]
      exact ⟨Int.emod_nonneg _ hw0, Int.lt_trans (Int.emod_lt_of_pos _ (by omega)) hw.2⟩
    have f3 := by_bad (Int.tmod high w) low w (Go.bits .xor .u64 (recipV w) 1) hm hl hw hx.1 (Or.inr (Or.inl hx.2))
    have t0 : ¬ (false = true) := by decide
    refine Ev.step (f := fun k => (reckonerref01_Reciprocal.f k w).bind fun t608 => (reckonerlaw01_WordsInverses.j2 k w high low (r : Int) (recipV w) (recipV w != t608))) (fun k => ?_) (Ev.bind e1 ?_)
    · show reckonerlaw01_WordsInverses.j1 (k + 1) w high low (r : Int) false = _
      rw [reckonerlaw01_WordsInverses.j1, if_neg t0, f1, Option.bind_some, if_neg hs, if_pos rfl]
    · have hb : (recipV w != recipV w) = false := bne_self_eq_false _
      rw [hb]
      by_cases hge : w ≤ high
      · have f2 := by_bad high low w (recipV w) hh hl hw hR (Or.inr (Or.inr hge))
        refine Ev.step (f := fun k => reckonerlaw01_WordsInverses.j3 k w high low (r : Int) (recipV w) false) (fun k => ?_) (Ev.step (fun k => ?_) nx)
        · show reckonerlaw01_WordsInverses.j2 (k + 1) w high low (r : Int) (recipV w) false = _
          rw [reckonerlaw01_WordsInverses.j2, if_neg t0, f2, Option.bind_some, if_pos hge, if_pos rfl, if_pos rfl]
          rfl
        · show reckonerlaw01_WordsInverses.j3 (k + 1) w high low (r : Int) (recipV w) false = _
          rw [reckonerlaw01_WordsInverses.j3, if_neg t0, if_neg hw0, f3, Option.bind_some, if_pos rfl, if_pos rfl, if_pos rfl]
      · have hlt : high < w := by omega
        have f2 : words_ByReciprocal.f high low w (recipV w) = some ((high * W64 + low) / w, (high * W64 + low) % w, 0) := by
          unfold words_ByReciprocal.f
          rw [if_pos ⟨hh, hl, hw, hR⟩, if_neg hs, if_pos rfl, if_neg hge]
        have rn := Narrow_ev high low w hl hw hh hlt
        have hb2 : ((high * W64 + low) % w != (high * W64 + low) % w) = false := bne_self_eq_false _
        refine Ev.step (f := fun k => (reckonerref01_Narrow.f k high low w).bind fun bt615 => (if ((high * W64 + low) / w) = bt615.1 then (reckonerlaw01_WordsInverses.j4 k w high low (r : Int) (recipV w) ((high * W64 + low) % w != bt615.2)) else (reckonerlaw01_WordsInverses.j4 k w high low (r : Int) (recipV w) true))) (fun k => ?_) (Ev.bind rn ?_)
        · show reckonerlaw01_WordsInverses.j2 (k + 1) w high low (r : Int) (recipV w) false = _
          rw [reckonerlaw01_WordsInverses.j2, if_neg t0, f2, Option.bind_some, if_neg hge]
          simp only [if_true]
        · simp only [hb2, if_true]
          refine Ev.step (fun k => ?_) nx
          rw [reckonerlaw01_WordsInverses.j4, if_neg t0, if_neg hw0, f3, Option.bind_some, if_pos rfl, if_pos rfl, if_pos rfl]
theorem Inverses_loop : ∀ (m r : Nat), r + m = 2 → ∀ (w high low : Int), isW w → isW high → isW low → Ev (fun k => reckonerlaw01_WordsInverses.l0 k w high low (r : Int)) true
  | 0, r, hr, w, high, low, hw, hh, hl => by
    have hr3 : ¬ (r : Int) < 2 := by omega
    refine Ev.step (f := fun k => (reckonerlaw01_awake.f k).bind fun t => some t) (fun k => ?_) (Ev.bind awake_ev (Ev.now true))
    show reckonerlaw01_WordsInverses.l0 (k + 1) w high low (r : Int) = _
    rw [reckonerlaw01_WordsInverses.l0, if_neg hr3]
  | m + 1, r, hr, w, high, low, hw, hh, hl => by
    have hr3 : (r : Int) < 2 := by omega
    obtain ⟨o1, o2⟩ := or_in w hw
    have nx : Ev (fun k => if (Go.bits .or .u64 (Go.bits .or .u64 w 1) 9223372036854775808) = 0 then (none) else (reckonerlaw01_WordsInverses.l0 k (Go.bits .or .u64 (Go.bits .or .u64 w 1) 9223372036854775808) (Int.tmod high (Go.bits .or .u64 (Go.bits .or .u64 w 1) 9223372036854775808)) low (wrap64 ((r : Int) + 1)))) true := by
      generalize Go.bits .or .u64 (Go.bits .or .u64 w 1) 9223372036854775808 = v at *
      have hv0 : ¬ v = 0 := by omega
      have hm : isW (Int.tmod high v) := by
        rw [Int.tmod_eq_emod_of_nonneg hh.1]
        exact ⟨Int.emod_nonneg _ hv0, Int.lt_trans (Int.emod_lt_of_pos _ o2) o1.2⟩
      refine Ev.congr (fun k => ?_) (Inverses_loop m (r + 1) (by omega) v (Int.tmod high v) low o1 hm hl)
      rw [if_neg hv0, w64_suc r (by omega)]
    have hj := Inverses_j1 w high low r hw hh hl nx
    have ht : Int.tmod w 2 = w % 2 := Int.tmod_eq_emod_of_nonneg hw.1
    by_cases he : w % 2 = 0
    · have fi : words_Inverse.f w = some (0, 1) := by unfold words_Inverse.f; rw [if_pos hw, if_pos he]
      refine Ev.step (fun k => ?_) hj
      have h1 : ¬ ((0 : Int) = 1) := by decide
      rw [reckonerlaw01_WordsInverses.l0, if_pos hr3, fi, Option.bind_some, ht, he, if_pos rfl, if_pos rfl, if_pos rfl, if_neg h1]
    · obtain ⟨v, v1, v2, v3⟩ := Inverse_ok w hw (by omega)
      obtain ⟨u, u1, u2, u3⟩ := RInverse_ev w (by omega)
      obtain rfl := inv_unique v2 u2 v3 u3
      have ho : w % 2 = 1 := by omega
      refine Ev.step (f := fun k => (reckonerref01_Inverse.f k w).bind fun t602 => (reckonerlaw01_WordsInverses.j1 k w high low (r : Int) (v != t602))) (fun k => ?_) (Ev.bind u1 ?_)
      · show reckonerlaw01_WordsInverses.l0 (k + 1) w high low (r : Int) = _
        have h1 : ¬ ((1 : Int) = 0) := by decide
        rw [reckonerlaw01_WordsInverses.l0, if_pos hr3, v1, Option.bind_some, ht, ho, if_neg h1, if_pos rfl, if_pos rfl]
      · have hb : (v != v) = false := bne_self_eq_false _
        rw [hb]
        exact hj
theorem pureInverses : reckonerlaw01_WordsInverses.Pure := by
  intro a0 a1 a2 h0 h1 h2
  obtain ⟨k, hk⟩ := (Inverses_loop 2 0 rfl a0 a1 a2 (isW_of_wf h0) (isW_of_wf h1) (isW_of_wf h2)).rounds
  exact ⟨k, hk⟩
end Go.Proofs.YtldefhhfcbmbpaaDoor.Ex
-- PRINTED by print.py: the row of the law reckonerlaw01_WordsInverses, out of its Pure (the session's) and the printed walk. Not trusted: Lean checks it.
namespace Go.Proofs.YtldefhhfcbmbpaaDoor.wordsInverses
open Go.Proofs.YtldefhhfcbmbpaaDoor.Ex
open Go.ChangeShapes Go.WideShapes Go.ChangeAt Go.RowKit
open Go.ChangeMaps (open_string shut_string)
set_option linter.unusedVariables false
theorem own : ownKnob Tryd.prog.godebug = none := by kernel_rfl
theorem gT : Tryd.prog.globalNamed "reckoner/words.small" = some 0 := by kernel_rfl
theorem gTType : (Tryd.prog.globals[0]?).map (·.type) = some 82 := by kernel_rfl
theorem gCellsE : Tryd.prog.cellsOf 23 = 1 := by kernel_rfl
theorem gCells : Tryd.prog.cellsOf 82 = 16 := by kernel_rfl
/-- A world in which the table lies as its initialiser lays it. -/
noncomputable def laidWorld (os : Os) : World :=
  { World.holding Tryd.prog os ⟨#[], #[], []⟩ with heap := (World.holding Tryd.prog os ⟨#[], #[], []⟩).heap.modify 0 fun
      | .cells _ t frozen => .cells (smalls.map fun z => Value.int .u64 z).toArray t frozen
      | o => o }
theorem laid_met (os : Os) (args : Array Value) : laidMet Tryd.prog Rows.wordsInversesRow.laid ((laidWorld os).forCall (fun _ _ => 0) ⟨#[], args, []⟩).memory :=
  laidMet_of_run' 8 (by kernel_rfl) (by kernel_rfl)
theorem witness_row (os : Os) {H : Type} (enc : TypeId × Value → H) :
    (OpenSpec.ofChange Rows.wordsInversesSpec).preRow enc Tryd.prog Tryd.f7 Rows.wordsInversesRow.domain false Rows.wordsInversesRow.laid ((laidWorld os).forCall (fun _ _ => 0) ⟨#[], #[.int .u64 0, .int .u64 0, .int .u64 0], []⟩).memory #[.int .u64 0, .int .u64 0, .int .u64 0] := by
  have hw : (DataW.whole enc Tryd.prog ((laidWorld os).forCall (fun _ _ => 0) ⟨#[], #[.int .u64 0, .int .u64 0, .int .u64 0], []⟩).memory Tryd.f7.params.toList (OpenSpec.ofChange Rows.wordsInversesSpec).vars false (#[.int .u64 0, .int .u64 0, .int .u64 0] : Array Value).toList 8).map (fun x => (x.1, x.2.1)) =
      some ([.lit (.int .u64 0), .lit (.int .u64 0), .lit (.int .u64 0)], []) := by kernel_rfl
  obtain ⟨⟨x1, x2, x3⟩, hx, hx1⟩ := Option.map_eq_some_iff.1 hw
  simp only [Prod.mk.injEq] at hx1
  obtain ⟨rfl, rfl⟩ := hx1
  exact OpenSpec.preRow_of_cond 8 hx (by kernel_rfl) (fun k hk => by cases hk) (by kernel_rfl) (laid_met os _)
set_option maxRecDepth 100000 in
theorem lifted (os : Os) (started : os.Started) (H : Type) (enc : TypeId × Value → H) (F : Stop.Interp) :
    ReturnsInHanded {} Tryd.checked os 7 .any ((OpenSpec.ofChange Rows.wordsInversesSpec).preRow enc Tryd.prog Tryd.f7 Rows.wordsInversesRow.domain false Rows.wordsInversesRow.laid) (((OpenSpec.ofChange Rows.wordsInversesSpec).at F).post enc Tryd.prog Tryd.f7 false true false false) := by
  refine returnsInHanded_of_row (C := Tryd.checked) (s := OpenSpec.ofChange Rows.wordsInversesSpec) own started (by kernel_rfl) Tryd.func7
    (witness_row_at (enc := enc) (C := Tryd.checked) false (laidWorld os) #[.int .u64 0, .int .u64 0, .int .u64 0] rfl (by kernel_rfl) (by kernel_rfl) (by kernel_rfl) (witness_row os enc)) ?_
  intro W base args ds gs before hval0 hW hcnd _ hsz0 hL _ _
  have htab : Lib.TabIs Tryd.prog W "reckoner/words.small" .u64 smalls := Lib.tabIs_of_head gT gTType Tryd.underlying82 Tryd.underlying23 gCellsE gCells hL
  have hg : Laid W := fun i hi => htab.cell gT i hi
  have hsz : (DataW.weightsEach Tryd.prog (Tryd.f7.params.toList ++ (OpenSpec.ofChange Rows.wordsInversesSpec).bare.plain.varTypes Tryd.prog) (ds ++ gs)).all (· ≤ reachBytes) = true := hsz0
  have hval : ∀ (j : Nat) t v, Tryd.f7.params[j]? = some t → args[j]? = some v → Value.okWide Tryd.prog W .any base t v := hval0
  have hW' := hW
  obtain ⟨p, q, hA0, hV, rfl, hfz, hnd⟩ := hW
  have hA : DataW.TrodAll enc Tryd.prog W 0 (fun _ => true) true Tryd.f7.params.toList args.toList ds p := hA0
  rw [Tryd.params7] at hA hval hsz
  obtain ⟨v0, vs0, d0, ds0, p0, q0, hargs, rfl, rfl, h0, r0⟩ := trodAll_cons hA
  obtain ⟨v1, vs1, d1, ds1, p1, q1, rfl, rfl, rfl, h1, r1⟩ := trodAll_cons r0
  obtain ⟨v2, vs2, d2, ds2, p2, q2, rfl, rfl, rfl, h2, r2⟩ := trodAll_cons r1
  obtain ⟨rfl, rfl, rfl⟩ := trodAll_nil r2
  obtain rfl : args = #[v0, v1, v2] := by cases args; simp_all
  obtain ⟨rfl, rfl⟩ := trodVars_none hV
  obtain ⟨a0, rfl, rfl, rfl, w0⟩ := open_int Tryd.underlying23 (hval 0 23 v0 rfl rfl) h0
  obtain ⟨a1, rfl, rfl, rfl, w1⟩ := open_int Tryd.underlying23 (hval 1 23 v1 rfl rfl) h1
  obtain ⟨a2, rfl, rfl, rfl, w2⟩ := open_int Tryd.underlying23 (hval 2 23 v2 rfl rfl) h2
  clear hA0 hval0 hsz0 hsz
  refine (T.reckonerlaw01_WordsInverses.walk pureInverses a0 a1 a2 W w0 w1 w2 hg).mono fun e W' ⟨he, bel⟩ => ?_
  subst he
  exact ⟨_, rfl, _, _, _, [], _, [], hW', trodAll_mk1 (shut_bool Tryd.underlying4 _), (trodAll_cons_mk (shut_int Tryd.underlying23 w0) (trodAll_cons_mk (shut_int Tryd.underlying23 w1) (trodAll_cons_mk (shut_int Tryd.underlying23 w2) trodAll_mk0))), rfl, bel.frame _, fun h => by cases h⟩
theorem over : Rows.wordsInversesRow.holds Tryd.pinned (OpenSpec.ofChange Rows.wordsInversesSpec) :=
  OpenClaim.holds_of_cond 7 Tryd.f7 rfl rfl rfl rfl rfl rfl rfl ⟨rfl, rfl, rfl, rfl, rfl⟩ rfl rfl rfl rfl rfl (by kernel_rfl) Tryd.func7 (by kernel_rfl)
    (of_decide_eq_true (by kernel_rfl)) (by unfold Func.isWrapper; first | (rw [if_pos (by decide +kernel)]; kernel_rfl) | (rw [if_neg (by decide +kernel)]; exact ⟨rfl, rfl⟩))
    (fun os started H enc _ F0 => by rw [OpenClaim.pre_eq_preRow]; exact lifted os started H enc F0)
theorem proved : Rows.WordsInversesSaid := over
end Go.Proofs.YtldefhhfcbmbpaaDoor.wordsInverses
namespace Go.Proofs.YtldefhhfcbmbpaaDoor
/-- The row, under a short name, for the claim. -/
theorem wordsInverses_holds : Rows.WordsInversesSaid := wordsInverses.proved
/-- THE TIED CARD. -/
theorem wordsInversesCard_holds : Rows.WordsInversesCardSaid :=
  Claim7.holds_tied_plain_at .later [] [.data] true (true, "2504ff196f4791dceee85039294dceef7a5defc03cfdfb7972b2fd1a548768f6") false
    wordsInverses_holds (fun _ h => by cases h) (by kernel_rfl) (fun _ h => by cases h) wordsInverses_row_tie rfl ⟨rfl, rfl⟩ (by kernel_rfl) rfl
    (fun f fn hf hfn => by
      obtain rfl : f = 7 := Option.some.inj ((show Tryd.prog.funcNamed Rows.wordsInversesRow.func = some 7 by kernel_rfl).symm.trans hf) |>.symm
      obtain rfl : fn = Tryd.f7 := (Option.some.inj (Tryd.func7.symm.trans hfn)).symm
      exact ⟨by kernel_rfl, fun j t ht => by
        rw [Tryd.params7] at ht
        have h3 : Tryd.prog.wantsStandIn t = false := by
          rcases j with (_ | (_ | (_ | j)))
          · obtain rfl := Option.some.inj ht.symm
            kernel_rfl
          · obtain rfl := Option.some.inj ht.symm
            kernel_rfl
          · obtain rfl := Option.some.inj ht.symm
            kernel_rfl
          · simp at ht
        exact h3⟩)
    (by kernel_rfl)
end Go.Proofs.YtldefhhfcbmbpaaDoor
