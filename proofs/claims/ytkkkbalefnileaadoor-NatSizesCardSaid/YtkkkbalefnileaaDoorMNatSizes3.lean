/- NatSizes (a card): for every int and every row of words, each function of the package refuses a number of more than 4096 words before all else; those told without errors do not mind; sums and products that would be too large are refused. (Part 4 of 5.) -/
import Derived.Lib.BitFns
import Derived.Lib.TrailingZeros
import Derived.Laws.BitsAllLaws
import Derived.Laws.Bits64b
import Derived.Shelf.Spec.TrailingZeros
import Derived.Test.YtkkkbalefnileaaDoorMNatSizes2
-- PRINTED by print.py (a twelfth state) out of the translation. Not trusted: Lean checks it.
namespace Go.Proofs.YtkkkbalefnileaaDoor.T
open Go.RowKit Go.Proofs.YtkkkbalefnileaaDoorW.PrintWords Go.Proofs.YtkkkbalefnileaaDoorW.PrintLast Go.Proofs.YtkkkbalefnileaaDoorW.PrintMore
attribute [local go_sem] max2_int min2_int max_two min_two max_three min_three max_four min_four   -- for this text's walks alone
open YtkkkbalefnileaaDoor.Ex
set_option linter.unusedVariables false
set_option linter.unusedSimpArgs false

/-! ### reckonerref02_FromWord: function 46 -/
def reckonerref02_FromWord.f (k : Nat) (a0 : Int) : Option (List Int) := (reckonerref01_Word.f a0).bind fun t203 => ((reckonerref02_nat.f k t203).bind fun t206 => (some t206))
set_option maxHeartbeats 8000000 in
set_option maxRecDepth 100000 in
theorem reckonerref02_FromWord.calls (k : Nat) (a0 : Int) (r : List Int) (w : World) (h : reckonerref02_FromWord.f k a0 = some r) :
  Calls Tryd.prog 46 #[.int .u64 a0] w fun e w' => ∃ v0_ : Value, e = .returned (v0_) ∧ Kd.R (Kd.int .u64) 36 w' w.heap.size (fun _ => True) v0_ r ∧ Below w.heap.size w w' := by
 have HB := Aside0.mk (Below.refl w.heap.size w)
 have H : ((reckonerref01_Word.f a0).bind fun t203 => ((reckonerref02_nat.f k t203).bind fun t206 => (some t206))) = some r := h
 clear h
 replace H := Option.bind_eq_some_iff.mp H
 obtain ⟨t203, A20, H⟩ := H
 replace H : ((reckonerref02_nat.f k t203).bind fun t206 => (some t206)) = some r := H
 have A2 := Aside0.mk A20
 clear A20
 replace H := Option.bind_eq_some_iff.mp H
 obtain ⟨t206, A30, H⟩ := H
 replace H : (some t206) = some r := H
 have A3 := Aside0.mk A30
 clear A30
 obtain rfl := Option.some.inj H
 go_enter Tryd.func46, Tryd.ntmps46
 go_wp2_with (first | ((with_reducible refine gate_callee (f := 77) rfl ?_); refine goesL_ (some 4) rfl rfl Tryd.func77 (by kernel_rfl) rfl #[.int .u64 a0] rfl (by (try simp only [List.map_toArray, List.map_cons, List.map_nil]); first | done | rfl | (simp only [List.length_drop, List.length_take]; rfl)) ?_; (with_reducible refine (reckonerref01_Word.calls a0 t203 _ A2.out).mono ?_); rintro e w4 ⟨v204, rfl, ho0, hb⟩; refine ⟨_, rfl, ?_⟩; have n0_ := Aside0.mk (Kd.R_lower ho0 (below_size (by repeat (first | (with_reducible first | exact HB.out | apply below_alloc | apply pw_below_drewN | apply below_drew1) | exact HB.out)))); have n1_ := Aside0.mk (below_step (by repeat (first | (with_reducible first | exact HB.out | apply below_alloc | apply pw_below_drewN | apply below_drew1) | exact HB.out)) hb); clear HB; have HO205 := n0_; have HB := n1_; clear n0_ n1_; (try clear hb); (try clear hb2); (try clear hk); (try clear hi); (try clear ho0); obtain ⟨Ao5, co5, eo5⟩ := Kd.R_slice HO205.out; subst eo5) | ((with_reducible refine gate_callee (f := 52) rfl ?_); refine goesL_ (some 5) rfl rfl Tryd.func52 (by kernel_rfl) rfl #[.slice Ao5 t203.length co5] rfl (by (try simp only [List.map_toArray, List.map_cons, List.map_nil]); first | done | rfl | (simp only [List.length_drop, List.length_take]; rfl)) ?_; (with_reducible refine (reckonerref02_nat.calls k _ _ t203 t206 _ ?side1 ?side2 A3.out).mono ?_); (case side1 => repeat (first | exact (Kd.R_reads' HO205.out).2.2 | (with_reducible refine Kd.C_alloc ?_ _) | (with_reducible refine Kd.C_drewN ?_ _) | (with_reducible refine Kd.C_drew ?_))); (case side2 => exact (Kd.R_reads' HO205.out).2.1); rintro e w6 ⟨v207, rfl, ho0, hb⟩; refine ⟨_, rfl, ?_⟩; have n0_ := Aside0.mk (Kd.R_elder' (by (with_reducible repeat (first | apply Kd.R_alloc | apply Kd.R_drewN | apply Kd.R_drew)); exact HO205.out) (Kd.R_base ho0) hb); have n1_ := Aside0.mk (Kd.R_lower (Kd.R_new' ho0 (Kd.R_lt (by (with_reducible repeat (first | apply Kd.R_alloc | apply Kd.R_drewN | apply Kd.R_drew)); exact HO205.out))) (below_size (by repeat (first | (with_reducible first | exact HB.out | apply below_alloc | apply pw_below_drewN | apply below_drew1) | exact HB.out)))); have n2_ := Aside0.mk (below_step (by repeat (first | (with_reducible first | exact HB.out | apply below_alloc | apply pw_below_drewN | apply below_drew1) | exact HB.out)) hb); clear HO205; clear HB; have HO205 := n0_; have HO208 := n1_; have HB := n2_; clear n0_ n1_ n2_; (try clear hb); (try clear hb2); (try clear hk); (try clear hi); (try clear ho0)))
 go_ret
 exact ⟨_, by first | rfl | (simp [errW_none, errW_some] <;> rfl) | (simp [*, errW_none, errW_some] <;> rfl), by (with_reducible repeat (first | apply Kd.R_alloc | apply Kd.R_drewN | apply Kd.R_drew)); exact Kd.R_mono HO208.out (fun _ hk => trivial), by repeat (first | (with_reducible first | exact HB.out | apply below_alloc | apply pw_below_drewN | apply below_drew1) | exact HB.out)⟩
/-! ### reckonerref01_digit: function 83 -/
def reckonerref01_digit.f (l0 : List Int) (a1 : Int) : Option (Int) := if a1 < (l0.length : Int) then (if 0 ≤ a1 then (some (rd l0 a1)) else (none)) else (some 0)
set_option maxHeartbeats 8000000 in
set_option maxRecDepth 100000 in
theorem reckonerref01_digit.calls (A0 : Option Addr) (c0 : Nat) (l0 : List Int) (a1 : Int) (r : Int) (w : World) (hr0 : Kd.C (Kd.int .u64) w A0 l0.length l0) (hc0 : l0.length ≤ c0) (h : reckonerref01_digit.f l0 a1 = some r) :
    Calls Tryd.prog 83 #[.slice A0 l0.length c0, .int .i64 a1] w fun e w' => e = .returned (.int .u64 r) ∧ Drawn0 w w' := by
  have HR0 := Aside0.mk hr0
  have HC0 := Aside0.mk hc0
  clear hr0 hc0
  have H : (if a1 < (l0.length : Int) then (if 0 ≤ a1 then (some (rd l0 a1)) else (none)) else (some 0)) = some r := h
  clear h
  by_cases c3 : a1 < (l0.length : Int)
  · rw [if_pos c3] at H
    have c3b0 : decide (a1 < (l0.length : Int)) = true := decide_eq_true c3
    clear c3
    by_cases c4 : 0 ≤ a1
    · rw [if_pos c4] at H
      have c4b0 : decide (0 ≤ a1) = true := decide_eq_true c4
      clear c4
      obtain rfl := Option.some.inj H
      have p209 : 0 ≤ (a1 : Int) := of_decide_eq_true (by first | (with_reducible assumption) | assumption)
      have q209 : a1 < (l0.length : Int) := of_decide_eq_true (by first | (with_reducible assumption) | assumption)
      obtain ⟨ad209, e209, hx209_0⟩ := Kd.at_int HR0.out a1 p209 q209
      cases e209
      replace p209 := eq_true p209
      replace q209 := eq_true q209
      go_enter Tryd.func83, Tryd.ntmps83
      go_wp2
      go_ret
      exact ⟨by first | rfl | (simp; done) | (simp [*]; done), by repeat (first | exact Drawn0.refl _ | apply Drawn0.step)⟩
    · rw [if_neg c4] at H
      exact absurd H (by simp)
  · rw [if_neg c3] at H
    have c3b0 : decide (a1 < (l0.length : Int)) = false := decide_eq_false c3
    clear c3
    obtain rfl := Option.some.inj H
    go_enter Tryd.func83, Tryd.ntmps83
    go_wp2
    go_ret
    exact ⟨by first | rfl | (simp; done) | (simp [*]; done), by repeat (first | exact Drawn0.refl _ | apply Drawn0.step)⟩
/-! ### reckonerref01_Plus: function 78 -/
mutual
def reckonerref01_Plus.l0 : Nat → List Int → List Int → List Int → Int → Int → Option (List Int)
  | 0, _, _, _, _, _ => none
  | k + 1, x0, x1, x5, x6, x7 => if x7 < (x0.length : Int) then (reckonerref01_Plus.j1 k x0 x1 x5 x6 x7 true) else (reckonerref01_Plus.j1 k x0 x1 x5 x6 x7 (decide (x7 < (x1.length : Int))))
def reckonerref01_Plus.j1 : Nat → List Int → List Int → List Int → Int → Int → Bool → Option (List Int)
  | 0, _, _, _, _, _, _ => none
  | k + 1, x0, x1, x5, x6, x7, x17 => if x17 = true then ((reckonerref01_digit.f x0 x7).bind fun t210 => ((reckonerref01_digit.f x1 x7).bind fun t211 => (if x5.length < 17592186044416 then (reckonerref01_Plus.l0 k x0 x1 (x5 ++ [Int.tmod (IntKind.u64.wrap ((IntKind.u64.wrap (x6 + t210)) + t211)) 4294967296]) (IntKind.u64.wrap (Int.tdiv (IntKind.u64.wrap ((IntKind.u64.wrap (x6 + t210)) + t211)) 4294967296)) (wrap64 (x7 + 1))) else (none)))) else (if x5.length < 17592186044416 then (some (x5 ++ [x6])) else (none))
end
def reckonerref01_Plus.f (k : Nat) (l0 : List Int) (l1 : List Int) : Option (List Int) := reckonerref01_Plus.l0 k l0 l1 ([] : List Int) 0 0
set_option maxHeartbeats 8000000 in
set_option maxRecDepth 100000 in
theorem reckonerref01_Plus.calls (k : Nat) (A0 : Option Addr) (c0 : Nat) (l0 : List Int) (A1 : Option Addr) (c1 : Nat) (l1 : List Int) (r : List Int) (w : World) (hr0 : Kd.C (Kd.int .u64) w A0 l0.length l0) (hc0 : l0.length ≤ c0) (hr1 : Kd.C (Kd.int .u64) w A1 l1.length l1) (hc1 : l1.length ≤ c1) (h : reckonerref01_Plus.f k l0 l1 = some r) :
  Calls Tryd.prog 78 #[.slice A0 l0.length c0, .slice A1 l1.length c1] w fun e w' => ∃ v0_ : Value, e = .returned (v0_) ∧ Kd.R (Kd.int .u64) 36 w' w.heap.size (fun _ => True) v0_ r ∧ Below w.heap.size w w' := by
 have HR0 := Aside0.mk hr0
 have HC0 := Aside0.mk hc0
 clear hr0 hc0
 have HR1 := Aside0.mk hr1
 have HC1 := Aside0.mk hc1
 clear hr1 hc1
 have HB := Aside0.mk (Below.refl w.heap.size w)
 have H : (reckonerref01_Plus.l0 k l0 l1 ([] : List Int) 0 0) = some r := h
 clear h
 have H' := Aside0.mk H
 clear H
 go_enter Tryd.func78, Tryd.ntmps78
 try simp only [List.append]
 go_wp2
 go_loopg [5, 6, 7] k (fun kq v5 v6 v7 w' => ∃ (x5_1 : List Int) (x6_1 : Int) (x7_1 : Int), v6 = .int .u64 x6_1 ∧ v7 = .int .i64 x7_1 ∧ Aside0 (reckonerref01_Plus.l0 kq l0 l1 x5_1 x6_1 x7_1 = some r) ∧ Aside0 (kq ≤ k) ∧ Aside0 (Kd.R (Kd.int .u64) 36 w' w.heap.size (fun _ => True) v5 x5_1) ∧ Aside0 (Below w.heap.size w w'))
 case atStart => exact ⟨(([] : List Int)), (0), (0), (by first | rfl | (simp; done) | (simp [*]; done)), (by first | rfl | (simp; done) | (simp [*]; done)), H', ⟨Nat.le_refl _⟩, ⟨by first | exact Kd.R_nil _ _ _ _ _ | exact Kd.N_nil _ _ _ _ _ | exact Kd.V_nil _ _ _ _ _ | exact Kd.Q_nil _ _ _ _ _ | exact Kd.S_nil _ _ _ _ _⟩, ⟨by repeat (first | (with_reducible first | exact HB.out | apply below_alloc | apply pw_below_drewN | apply below_drew1) | exact HB.out)⟩⟩
 case round =>
  clear H'
  try clear c1
  try clear p2
  obtain ⟨x5_1, x6_1, x7_1, rfl, rfl, HA, HK1, HO_5, HB⟩ := hrel
  cases gk with
  | zero => exact absurd HA.out (by simp [reckonerref01_Plus.l0])
  | succ k1 =>
   have H := HA.out
   clear HA
   simp only [reckonerref01_Plus.l0] at H
   have HC3 := Aside0.mk H
   clear H
   go_upto_region 4 with (fail)
   go_cut [17] (fun v17 wc => ∃ (kq : Nat) (x17_2 : Bool), v17 = .bool x17_2 ∧ Aside0 (reckonerref01_Plus.j1 kq l0 l1 x5_1 x6_1 x7_1 x17_2 = some r) ∧ Aside0 (kq ≤ k1) ∧ Aside0 (Kd.R (Kd.int .u64) 36 wc w.heap.size (fun _ => True) u5 x5_1) ∧ Aside0 (Below w.heap.size w wc))
   case first =>
    have H := HC3.out
    clear HC3
    by_cases c4 : x7_1 < (l0.length : Int)
    ·rw [if_pos c4] at H
     have c4b0 : decide (x7_1 < (l0.length : Int)) = true := decide_eq_true c4
     clear c4
     (first | rw [c4b0] | (simp only [i64_w, i32_w]; rw [c4b0]) | skip)
     have H' := Aside0.mk H
     clear H
     go_wp2
     go_meet
     case rel => exact ⟨_, (true), (by first | rfl | (simp; done) | (simp [*]; done)), H', ⟨by have := HK1.out; first | omega | exact Nat.le_refl _⟩, ⟨by (with_reducible repeat (first | apply Kd.R_alloc | apply Kd.R_drewN | apply Kd.R_drew)); exact HO_5.out⟩, ⟨by repeat (first | (with_reducible first | exact HB.out | apply below_alloc | apply pw_below_drewN | apply below_drew1) | exact HB.out)⟩⟩
    ·rw [if_neg c4] at H
     have c4b0 : decide (x7_1 < (l0.length : Int)) = false := decide_eq_false c4
     clear c4
     (first | rw [c4b0] | (simp only [i64_w, i32_w]; rw [c4b0]) | skip)
     have H' := Aside0.mk H
     clear H
     go_wp2
     go_meet
     case rel => exact ⟨_, (decide (x7_1 < (l1.length : Int))), (by first | rfl | (simp; done) | (simp [*]; done)), H', ⟨by have := HK1.out; first | omega | exact Nat.le_refl _⟩, ⟨by (with_reducible repeat (first | apply Kd.R_alloc | apply Kd.R_drewN | apply Kd.R_drew)); exact HO_5.out⟩, ⟨by repeat (first | (with_reducible first | exact HB.out | apply below_alloc | apply pw_below_drewN | apply below_drew1) | exact HB.out)⟩⟩
   case rest =>
    clear HC3
    try clear c1
    try clear p2
    try clear c4
    try clear c4b0
    try clear p2
    obtain ⟨kq, x17_2, rfl, HA, HJ2, HO_5, HB⟩ := hcut
    cases kq with
    | zero => exact absurd HA.out (by simp [reckonerref01_Plus.j1])
    | succ kj2 =>
     have H := HA.out
     clear HA
     simp only [reckonerref01_Plus.j1] at H
     by_cases c5 : x17_2 = true
     ·subst c5
      have H1 : ((reckonerref01_digit.f l0 x7_1).bind fun t210 => ((reckonerref01_digit.f l1 x7_1).bind fun t211 => (if x5_1.length < 17592186044416 then (reckonerref01_Plus.l0 kj2 l0 l1 (x5_1 ++ [Int.tmod (IntKind.u64.wrap ((IntKind.u64.wrap (x6_1 + t210)) + t211)) 4294967296]) (IntKind.u64.wrap (Int.tdiv (IntKind.u64.wrap ((IntKind.u64.wrap (x6_1 + t210)) + t211)) 4294967296)) (wrap64 (x7_1 + 1))) else (none)))) = some r := by rw [if_pos rfl] at H; exact H
      clear H
      have H := H1
      clear H1
      replace H := Option.bind_eq_some_iff.mp H
      obtain ⟨t210, A60, H⟩ := H
      replace H : ((reckonerref01_digit.f l1 x7_1).bind fun t211 => (if x5_1.length < 17592186044416 then (reckonerref01_Plus.l0 kj2 l0 l1 (x5_1 ++ [Int.tmod (IntKind.u64.wrap ((IntKind.u64.wrap (x6_1 + t210)) + t211)) 4294967296]) (IntKind.u64.wrap (Int.tdiv (IntKind.u64.wrap ((IntKind.u64.wrap (x6_1 + t210)) + t211)) 4294967296)) (wrap64 (x7_1 + 1))) else (none))) = some r := H
      have A6 := Aside0.mk A60
      clear A60
      replace H := Option.bind_eq_some_iff.mp H
      obtain ⟨t211, A70, H⟩ := H
      replace H : (if x5_1.length < 17592186044416 then (reckonerref01_Plus.l0 kj2 l0 l1 (x5_1 ++ [Int.tmod (IntKind.u64.wrap ((IntKind.u64.wrap (x6_1 + t210)) + t211)) 4294967296]) (IntKind.u64.wrap (Int.tdiv (IntKind.u64.wrap ((IntKind.u64.wrap (x6_1 + t210)) + t211)) 4294967296)) (wrap64 (x7_1 + 1))) else (none)) = some r := H
      have A7 := Aside0.mk A70
      clear A70
      by_cases c8 : x5_1.length < 17592186044416
      ·rw [if_pos c8] at H
       have LMc8 := Aside0.mk c8
       clear c8
       obtain ⟨y212, hy212⟩ : ∃ y_ : List Int, y_ = (x5_1 ++ [Int.tmod (IntKind.u64.wrap ((IntKind.u64.wrap (x6_1 + t210)) + t211)) 4294967296]) := ⟨_, rfl⟩
       replace H : (reckonerref01_Plus.l0 kj2 l0 l1 y212 (IntKind.u64.wrap (Int.tdiv (IntKind.u64.wrap ((IntKind.u64.wrap (x6_1 + t210)) + t211)) 4294967296)) (wrap64 (x7_1 + 1))) = some r := by first | (rw [hy212]; with_reducible exact H) | (have H2_ := (Option.bind_some _ _).symm.trans H; rw [hy212]; with_reducible exact H2_) | (have H2_ := (Option.bind_some _ _).symm.trans H; with_reducible exact H2_) | with_reducible exact H | (rw [hy212]; exact H) | exact H
       have Ny212 := Aside0.mk hy212
       clear hy212
       have H' := Aside0.mk H
       clear H
       go_wp2_with (first | ((with_reducible refine gate_callee (f := 83) rfl ?_); refine goesL_ (some 23) rfl rfl Tryd.func83 (by kernel_rfl) rfl #[.slice A0 l0.length c0, .int .i64 x7_1] rfl (by (try simp only [List.map_toArray, List.map_cons, List.map_nil]); first | done | rfl | (simp only [List.length_drop, List.length_take]; rfl)) ?_; (with_reducible refine (reckonerref01_digit.calls _ _ l0 x7_1 t210 _ ?side1 ?side2 A6.out).mono ?_); (case side1 => repeat (first | exact (Kd.C_below HR0.out HB.out) | (with_reducible refine Kd.C_alloc ?_ _) | (with_reducible refine Kd.C_drewN ?_ _) | (with_reducible refine Kd.C_drew ?_))); (case side2 => exact HC0.out); rintro e w' ⟨rfl, ⟨nd, rfl⟩⟩; refine ⟨_, rfl, ?_⟩) | ((with_reducible refine gate_callee (f := 83) rfl ?_); refine goesL_ (some 27) rfl rfl Tryd.func83 (by kernel_rfl) rfl #[.slice A1 l1.length c1, .int .i64 x7_1] rfl (by (try simp only [List.map_toArray, List.map_cons, List.map_nil]); first | done | rfl | (simp only [List.length_drop, List.length_take]; rfl)) ?_; (with_reducible refine (reckonerref01_digit.calls _ _ l1 x7_1 t211 _ ?side1 ?side2 A7.out).mono ?_); (case side1 => repeat (first | exact (Kd.C_below HR1.out (by repeat (first | (with_reducible first | exact HB.out | apply below_alloc | apply pw_below_drewN | apply below_drew1) | exact HB.out))) | (with_reducible refine Kd.C_alloc ?_ _) | (with_reducible refine Kd.C_drewN ?_ _) | (with_reducible refine Kd.C_drew ?_))); (case side2 => exact HC1.out); rintro e w' ⟨rfl, ⟨nd, rfl⟩⟩; refine ⟨_, rfl, ?_⟩) | ((with_reducible refine gate_builtin (b := .append) (xs := #[.tmp 29, .tmp 32]) rfl ?_); (try (refine gate_guard (by rfl) ?_; dsimp only)); at_builtin; refine Kd.R_append (Kd.int .u64) (w0 := w) w.heap.size rfl (.tmp 29) (.tmp 32) 22 36 (.int .u64 0) 8 rfl Tryd.underlying22 info36 rfl (by decide) (by omega) u5 x5_1 (Int.tmod (IntKind.u64.wrap ((IntKind.u64.wrap (x6_1 + t210)) + t211)) 4294967296) [.int .u64 (Int.tmod (IntKind.u64.wrap ((IntKind.u64.wrap (x6_1 + t210)) + t211)) 4294967296)] (fun _ => True) (fun _ => False) rfl rfl ?aP (fun _ hk => hk.elim) ?aF ?aO ?aB ?aS ?aL ?_; (case aP => exact rfl); (case aB => exact (by repeat (first | (with_reducible first | exact HB.out | apply below_alloc | apply pw_below_drewN | apply below_drew1) | exact HB.out))); (case aF => exact (fun _ _ => trivial)); (case aO => exact (by (with_reducible repeat (first | apply Kd.R_alloc | apply Kd.R_drewN | apply Kd.R_drew)); exact HO_5.out)); (case aS => exact (below_size (by repeat (first | (with_reducible first | exact HB.out | apply below_alloc | apply pw_below_drewN | apply below_drew1) | exact HB.out)))); (case aL => have := LMc8.out; omega); intro v213 w9 ho hb hg hat; rw [← Ny212.out] at ho; have n0_ := Aside0.mk (hb); have n1_ := Aside0.mk (ho); clear HB; clear HO_5; have HB := n0_; have HO214 := n1_; clear n0_ n1_; clear ho hb hg hat))
       go_roundg kj2
       case measure => have := HK1.out; have := HJ2.out; omega
       case rel => exact ⟨(y212), (IntKind.u64.wrap (Int.tdiv (IntKind.u64.wrap ((IntKind.u64.wrap (x6_1 + t210)) + t211)) 4294967296)), (wrap64 (x7_1 + 1)), (by first | rfl | (simp; done) | (simp [*]; done)), (by first | rfl | (simp; done) | (simp [*]; done)), H', ⟨by have := HK1.out; have := HJ2.out; omega⟩, ⟨by (with_reducible repeat (first | apply Kd.R_alloc | apply Kd.R_drewN | apply Kd.R_drew)); exact HO214.out⟩, ⟨by repeat (first | (with_reducible first | exact HB.out | apply below_alloc | apply pw_below_drewN | apply below_drew1) | exact HB.out)⟩⟩
      ·rw [if_neg c8] at H
       exact absurd H (by simp)
     ·replace c5 := Bool.eq_false_iff.mpr c5
      subst c5
      have H1 : (if x5_1.length < 17592186044416 then (some (x5_1 ++ [x6_1])) else (none)) = some r := by rw [if_neg (show ¬ (false = true) by decide)] at H; exact H
      clear H
      have H := H1
      clear H1
      by_cases c10 : x5_1.length < 17592186044416
      ·rw [if_pos c10] at H
       have LMc10 := Aside0.mk c10
       clear c10
       obtain ⟨y215, hy215⟩ : ∃ y_ : List Int, y_ = (x5_1 ++ [x6_1]) := ⟨_, rfl⟩
       replace H : (some y215) = some r := by first | (rw [hy215]; with_reducible exact H) | (have H2_ := (Option.bind_some _ _).symm.trans H; rw [hy215]; with_reducible exact H2_) | (have H2_ := (Option.bind_some _ _).symm.trans H; with_reducible exact H2_) | with_reducible exact H | (rw [hy215]; exact H) | exact H
       have Ny215 := Aside0.mk hy215
       clear hy215
       obtain rfl := Option.some.inj H
       go_wp2_with (first | ((with_reducible refine gate_builtin (b := .append) (xs := #[.tmp 36, .tmp 38]) rfl ?_); (try (refine gate_guard (by rfl) ?_; dsimp only)); at_builtin; refine Kd.R_append (Kd.int .u64) (w0 := w) w.heap.size rfl (.tmp 36) (.tmp 38) 22 36 (.int .u64 0) 8 rfl Tryd.underlying22 info36 rfl (by decide) (by omega) u5 x5_1 x6_1 [.int .u64 x6_1] (fun _ => True) (fun _ => False) rfl rfl ?aP (fun _ hk => hk.elim) ?aF ?aO ?aB ?aS ?aL ?_; (case aP => exact rfl); (case aB => exact (by repeat (first | (with_reducible first | exact HB.out | apply below_alloc | apply pw_below_drewN | apply below_drew1) | exact HB.out))); (case aF => exact (fun _ _ => trivial)); (case aO => exact (by (with_reducible repeat (first | apply Kd.R_alloc | apply Kd.R_drewN | apply Kd.R_drew)); exact HO_5.out)); (case aS => exact (below_size (by repeat (first | (with_reducible first | exact HB.out | apply below_alloc | apply pw_below_drewN | apply below_drew1) | exact HB.out)))); (case aL => have := LMc10.out; omega); intro v216 w11 ho hb hg hat; rw [← Ny215.out] at ho; have n0_ := Aside0.mk (hb); have n1_ := Aside0.mk (ho); clear HB; clear HO_5; have HB := n0_; have HO217 := n1_; clear n0_ n1_; clear ho hb hg hat))
       go_ret
       exact ⟨_, by first | rfl | (simp [errW_none, errW_some] <;> rfl) | (simp [*, errW_none, errW_some] <;> rfl), by (with_reducible repeat (first | apply Kd.R_alloc | apply Kd.R_drewN | apply Kd.R_drew)); exact HO217.out, by repeat (first | (with_reducible first | exact HB.out | apply below_alloc | apply pw_below_drewN | apply below_drew1) | exact HB.out)⟩
      ·rw [if_neg c10] at H
       exact absurd H (by simp)
/-! ### reckonerref02_Add: function 47 -/
def reckonerref02_Add.f (k : Nat) (l0 : List Int) (l1 : List Int) : Option (List Int) := (reckonerref01_Digits.f k l0).bind fun t218 => ((reckonerref01_Digits.f k l1).bind fun t221 => ((reckonerref01_Plus.f k t218 t221).bind fun t224 => ((reckonerref02_nat.f k t224).bind fun t227 => (some t227))))
set_option maxHeartbeats 8000000 in
set_option maxRecDepth 100000 in
theorem reckonerref02_Add.calls (k : Nat) (A0 : Option Addr) (c0 : Nat) (l0 : List Int) (A1 : Option Addr) (c1 : Nat) (l1 : List Int) (r : List Int) (w : World) (hr0 : Kd.C (Kd.int .u64) w A0 l0.length l0) (hc0 : l0.length ≤ c0) (hr1 : Kd.C (Kd.int .u64) w A1 l1.length l1) (hc1 : l1.length ≤ c1) (h : reckonerref02_Add.f k l0 l1 = some r) :
  Calls Tryd.prog 47 #[.slice A0 l0.length c0, .slice A1 l1.length c1] w fun e w' => ∃ v0_ : Value, e = .returned (v0_) ∧ Kd.R (Kd.int .u64) 36 w' w.heap.size (fun _ => True) v0_ r ∧ Below w.heap.size w w' := by
 have HR0 := Aside0.mk hr0
 have HC0 := Aside0.mk hc0
 clear hr0 hc0
 have HR1 := Aside0.mk hr1
 have HC1 := Aside0.mk hc1
 clear hr1 hc1
 have HB := Aside0.mk (Below.refl w.heap.size w)
 have H : ((reckonerref01_Digits.f k l0).bind fun t218 => ((reckonerref01_Digits.f k l1).bind fun t221 => ((reckonerref01_Plus.f k t218 t221).bind fun t224 => ((reckonerref02_nat.f k t224).bind fun t227 => (some t227))))) = some r := h
 clear h
 replace H := Option.bind_eq_some_iff.mp H
 obtain ⟨t218, A30, H⟩ := H
 replace H : ((reckonerref01_Digits.f k l1).bind fun t221 => ((reckonerref01_Plus.f k t218 t221).bind fun t224 => ((reckonerref02_nat.f k t224).bind fun t227 => (some t227)))) = some r := H
 have A3 := Aside0.mk A30
 clear A30
 replace H := Option.bind_eq_some_iff.mp H
 obtain ⟨t221, A40, H⟩ := H
 replace H : ((reckonerref01_Plus.f k t218 t221).bind fun t224 => ((reckonerref02_nat.f k t224).bind fun t227 => (some t227))) = some r := H
 have A4 := Aside0.mk A40
 clear A40
 replace H := Option.bind_eq_some_iff.mp H
 obtain ⟨t224, A50, H⟩ := H
 replace H : ((reckonerref02_nat.f k t224).bind fun t227 => (some t227)) = some r := H
 have A5 := Aside0.mk A50
 clear A50
 replace H := Option.bind_eq_some_iff.mp H
 obtain ⟨t227, A60, H⟩ := H
 replace H : (some t227) = some r := H
 have A6 := Aside0.mk A60
 clear A60
 obtain rfl := Option.some.inj H
 go_enter Tryd.func47, Tryd.ntmps47
 go_wp2_with (first | ((with_reducible refine gate_callee (f := 53) rfl ?_); refine goesL_ (some 6) rfl rfl Tryd.func53 (by kernel_rfl) rfl #[.slice A0 l0.length c0] rfl (by (try simp only [List.map_toArray, List.map_cons, List.map_nil]); first | done | rfl | (simp only [List.length_drop, List.length_take]; rfl)) ?_; (with_reducible refine (reckonerref01_Digits.calls k _ _ l0 t218 _ ?side1 ?side2 A3.out).mono ?_); (case side1 => repeat (first | exact HR0.out | (with_reducible refine Kd.C_alloc ?_ _) | (with_reducible refine Kd.C_drewN ?_ _) | (with_reducible refine Kd.C_drew ?_))); (case side2 => exact HC0.out); rintro e w7 ⟨v219, rfl, ho0, hb⟩; refine ⟨_, rfl, ?_⟩; have n0_ := Aside0.mk (Kd.R_lower ho0 (below_size (by repeat (first | (with_reducible first | exact HB.out | apply below_alloc | apply pw_below_drewN | apply below_drew1) | exact HB.out)))); have n1_ := Aside0.mk (below_step (by repeat (first | (with_reducible first | exact HB.out | apply below_alloc | apply pw_below_drewN | apply below_drew1) | exact HB.out)) hb); clear HB; have HO220 := n0_; have HB := n1_; clear n0_ n1_; (try clear hb); (try clear hb2); (try clear hk); (try clear hi); (try clear ho0)) | ((with_reducible refine gate_callee (f := 53) rfl ?_); refine goesL_ (some 8) rfl rfl Tryd.func53 (by kernel_rfl) rfl #[.slice A1 l1.length c1] rfl (by (try simp only [List.map_toArray, List.map_cons, List.map_nil]); first | done | rfl | (simp only [List.length_drop, List.length_take]; rfl)) ?_; (with_reducible refine (reckonerref01_Digits.calls k _ _ l1 t221 _ ?side1 ?side2 A4.out).mono ?_); (case side1 => repeat (first | exact (Kd.C_below HR1.out HB.out) | (with_reducible refine Kd.C_alloc ?_ _) | (with_reducible refine Kd.C_drewN ?_ _) | (with_reducible refine Kd.C_drew ?_))); (case side2 => exact HC1.out); rintro e w8 ⟨v222, rfl, ho0, hb⟩; refine ⟨_, rfl, ?_⟩; have n0_ := Aside0.mk (Kd.R_elder' (by (with_reducible repeat (first | apply Kd.R_alloc | apply Kd.R_drewN | apply Kd.R_drew)); exact HO220.out) (Kd.R_base ho0) hb); have n1_ := Aside0.mk (Kd.R_lower (Kd.R_new' ho0 (Kd.R_lt (by (with_reducible repeat (first | apply Kd.R_alloc | apply Kd.R_drewN | apply Kd.R_drew)); exact HO220.out))) (below_size (by repeat (first | (with_reducible first | exact HB.out | apply below_alloc | apply pw_below_drewN | apply below_drew1) | exact HB.out)))); have n2_ := Aside0.mk (below_step (by repeat (first | (with_reducible first | exact HB.out | apply below_alloc | apply pw_below_drewN | apply below_drew1) | exact HB.out)) hb); clear HO220; clear HB; have HO220 := n0_; have HO223 := n1_; have HB := n2_; clear n0_ n1_ n2_; (try clear hb); (try clear hb2); (try clear hk); (try clear hi); (try clear ho0); obtain ⟨Ao9, co9, eo9⟩ := Kd.R_slice HO220.out; subst eo9; obtain ⟨Ao10, co10, eo10⟩ := Kd.R_slice HO223.out; subst eo10) | ((with_reducible refine gate_callee (f := 78) rfl ?_); refine goesL_ (some 9) rfl rfl Tryd.func78 (by kernel_rfl) rfl #[.slice Ao9 t218.length co9, .slice Ao10 t221.length co10] rfl (by (try simp only [List.map_toArray, List.map_cons, List.map_nil]); first | done | rfl | (simp only [List.length_drop, List.length_take]; rfl)) ?_; (with_reducible refine (reckonerref01_Plus.calls k _ _ t218 _ _ t221 t224 _ ?side1 ?side2 ?side3 ?side4 A5.out).mono ?_); (case side1 => repeat (first | exact (Kd.R_reads' HO220.out).2.2 | (with_reducible refine Kd.C_alloc ?_ _) | (with_reducible refine Kd.C_drewN ?_ _) | (with_reducible refine Kd.C_drew ?_))); (case side2 => exact (Kd.R_reads' HO220.out).2.1); (case side3 => repeat (first | exact (Kd.R_reads' HO223.out).2.2 | (with_reducible refine Kd.C_alloc ?_ _) | (with_reducible refine Kd.C_drewN ?_ _) | (with_reducible refine Kd.C_drew ?_))); (case side4 => exact (Kd.R_reads' HO223.out).2.1); rintro e w11 ⟨v225, rfl, ho0, hb⟩; refine ⟨_, rfl, ?_⟩; have n0_ := Aside0.mk (Kd.R_elder' (by (with_reducible repeat (first | apply Kd.R_alloc | apply Kd.R_drewN | apply Kd.R_drew)); exact HO220.out) (Kd.R_base ho0) hb); have n1_ := Aside0.mk (Kd.R_elder' (by (with_reducible repeat (first | apply Kd.R_alloc | apply Kd.R_drewN | apply Kd.R_drew)); exact HO223.out) (Kd.R_base ho0) hb); have n2_ := Aside0.mk (Kd.R_lower (Kd.R_new' (Kd.R_new' ho0 (Kd.R_lt (by (with_reducible repeat (first | apply Kd.R_alloc | apply Kd.R_drewN | apply Kd.R_drew)); exact HO220.out))) (Kd.R_lt (by (with_reducible repeat (first | apply Kd.R_alloc | apply Kd.R_drewN | apply Kd.R_drew)); exact HO223.out))) (below_size (by repeat (first | (with_reducible first | exact HB.out | apply below_alloc | apply pw_below_drewN | apply below_drew1) | exact HB.out)))); have n3_ := Aside0.mk (below_step (by repeat (first | (with_reducible first | exact HB.out | apply below_alloc | apply pw_below_drewN | apply below_drew1) | exact HB.out)) hb); clear HO220; clear HO223; clear HB; have HO220 := n0_; have HO223 := n1_; have HO226 := n2_; have HB := n3_; clear n0_ n1_ n2_ n3_; (try clear hb); (try clear hb2); (try clear hk); (try clear hi); (try clear ho0); obtain ⟨Ao12, co12, eo12⟩ := Kd.R_slice HO226.out; subst eo12) | ((with_reducible refine gate_callee (f := 52) rfl ?_); refine goesL_ (some 10) rfl rfl Tryd.func52 (by kernel_rfl) rfl #[.slice Ao12 t224.length co12] rfl (by (try simp only [List.map_toArray, List.map_cons, List.map_nil]); first | done | rfl | (simp only [List.length_drop, List.length_take]; rfl)) ?_; (with_reducible refine (reckonerref02_nat.calls k _ _ t224 t227 _ ?side1 ?side2 A6.out).mono ?_); (case side1 => repeat (first | exact (Kd.R_reads' HO226.out).2.2 | (with_reducible refine Kd.C_alloc ?_ _) | (with_reducible refine Kd.C_drewN ?_ _) | (with_reducible refine Kd.C_drew ?_))); (case side2 => exact (Kd.R_reads' HO226.out).2.1); rintro e w13 ⟨v228, rfl, ho0, hb⟩; refine ⟨_, rfl, ?_⟩; have n0_ := Aside0.mk (Kd.R_elder' (by (with_reducible repeat (first | apply Kd.R_alloc | apply Kd.R_drewN | apply Kd.R_drew)); exact HO220.out) (Kd.R_base ho0) hb); have n1_ := Aside0.mk (Kd.R_elder' (by (with_reducible repeat (first | apply Kd.R_alloc | apply Kd.R_drewN | apply Kd.R_drew)); exact HO223.out) (Kd.R_base ho0) hb); have n2_ := Aside0.mk (Kd.R_elder' (by (with_reducible repeat (first | apply Kd.R_alloc | apply Kd.R_drewN | apply Kd.R_drew)); exact HO226.out) (Kd.R_base ho0) hb); have n3_ := Aside0.mk (Kd.R_lower (Kd.R_new' (Kd.R_new' (Kd.R_new' ho0 (Kd.R_lt (by (with_reducible repeat (first | apply Kd.R_alloc | apply Kd.R_drewN | apply Kd.R_drew)); exact HO220.out))) (Kd.R_lt (by (with_reducible repeat (first | apply Kd.R_alloc | apply Kd.R_drewN | apply Kd.R_drew)); exact HO223.out))) (Kd.R_lt (by (with_reducible repeat (first | apply Kd.R_alloc | apply Kd.R_drewN | apply Kd.R_drew)); exact HO226.out))) (below_size (by repeat (first | (with_reducible first | exact HB.out | apply below_alloc | apply pw_below_drewN | apply below_drew1) | exact HB.out)))); have n4_ := Aside0.mk (below_step (by repeat (first | (with_reducible first | exact HB.out | apply below_alloc | apply pw_below_drewN | apply below_drew1) | exact HB.out)) hb); clear HO220; clear HO223; clear HO226; clear HB; have HO220 := n0_; have HO223 := n1_; have HO226 := n2_; have HO229 := n3_; have HB := n4_; clear n0_ n1_ n2_ n3_ n4_; (try clear hb); (try clear hb2); (try clear hk); (try clear hi); (try clear ho0)))
 go_ret
 exact ⟨_, by first | rfl | (simp [errW_none, errW_some] <;> rfl) | (simp [*, errW_none, errW_some] <;> rfl), by (with_reducible repeat (first | apply Kd.R_alloc | apply Kd.R_drewN | apply Kd.R_drew)); exact Kd.R_mono HO229.out (fun _ hk => trivial), by repeat (first | (with_reducible first | exact HB.out | apply below_alloc | apply pw_below_drewN | apply below_drew1) | exact HB.out)⟩
/-! ### reckonerref01_Minus: function 79 -/
/-! ### reckonerref02_Sub: function 48 -/
/-! ### reckonerref02_SetBit: function 13 -/
-- OURS: function 49 (nat_join)

/-! ### nat_And: function 14 -/
def nat_And.f (l0 : List Int) (l1 : List Int) : Option (List Int × Int) := (nat_join.f l0 l1 (⟨#[97, 110, 100]⟩ : ByteArray)).bind fun bt268 => (some (bt268.1, bt268.2))
set_option maxHeartbeats 8000000 in
set_option maxRecDepth 100000 in
theorem nat_And.calls (A0 : Option Addr) (c0 : Nat) (l0 : List Int) (A1 : Option Addr) (c1 : Nat) (l1 : List Int) (r1 : List Int) (r2 : Int) (w : World) (hr0 : Kd.C (Kd.int .u64) w A0 l0.length l0) (hc0 : l0.length ≤ c0) (hr1 : Kd.C (Kd.int .u64) w A1 l1.length l1) (hc1 : l1.length ≤ c1) (hj : LaidJ w) (h : nat_And.f l0 l1 = some (r1, r2)) :
  Calls Tryd.prog 14 #[.slice A0 l0.length c0, .slice A1 l1.length c1] w fun e w' => ∃ v0_ : Value, e = .returned (.tuple #[v0_, .int .i64 r2]) ∧ Kd.R (Kd.int .u64) 36 w' w.heap.size (fun _ => True) v0_ r1 ∧ Below w.heap.size w w' := by
 have HLj := Aside0.mk hj
 clear hj
 have HR0 := Aside0.mk hr0
 have HC0 := Aside0.mk hc0
 clear hr0 hc0
 have HR1 := Aside0.mk hr1
 have HC1 := Aside0.mk hc1
 clear hr1 hc1
 have HB := Aside0.mk (Below.refl w.heap.size w)
 have H : ((nat_join.f l0 l1 (⟨#[97, 110, 100]⟩ : ByteArray)).bind fun bt268 => (some (bt268.1, bt268.2))) = some (r1, r2) := h
 clear h
 replace H := Option.bind_eq_some_iff.mp H
 obtain ⟨⟨t268, t269⟩, A30, H⟩ := H
 replace H : (some (t268, t269)) = some (r1, r2) := H
 have A3 := Aside0.mk A30
 clear A30
 simp only [Option.some.injEq, Prod.mk.injEq] at H
 obtain ⟨rfl, rfl⟩ := H
 go_enter Tryd.func14, Tryd.ntmps14
 go_wp2_with (first | ((with_reducible refine gate_callee (f := 49) rfl ?_); refine goesL_ (some 8) rfl rfl Tryd.func49 (by kernel_rfl) rfl #[.slice A0 l0.length c0, .slice A1 l1.length c1, .string (⟨#[97, 110, 100]⟩ : ByteArray)] rfl (by (try simp only [List.map_toArray, List.map_cons, List.map_nil]); first | done | rfl | (simp only [List.length_drop, List.length_take]; rfl)) ?_; (with_reducible refine (nat_join.calls _ _ l0 _ _ l1 (⟨#[97, 110, 100]⟩ : ByteArray) t268 t269 _ ?side1 ?side2 ?side3 ?side4 (LaidJ.below HLj.out (by repeat (first | (with_reducible first | exact HB.out | apply below_alloc | apply pw_below_drewN | apply below_drew1) | exact HB.out))) A3.out).mono ?_); (case side1 => repeat (first | exact HR0.out | (with_reducible refine Kd.C_alloc ?_ _) | (with_reducible refine Kd.C_drewN ?_ _) | (with_reducible refine Kd.C_drew ?_))); (case side2 => exact HC0.out); (case side3 => repeat (first | exact HR1.out | (with_reducible refine Kd.C_alloc ?_ _) | (with_reducible refine Kd.C_drewN ?_ _) | (with_reducible refine Kd.C_drew ?_))); (case side4 => exact HC1.out); rintro e w4 ⟨v270, rfl, ho0, hb⟩; refine ⟨_, rfl, ?_⟩; have n0_ := Aside0.mk (Kd.R_lower ho0 (below_size (by repeat (first | (with_reducible first | exact HB.out | apply below_alloc | apply pw_below_drewN | apply below_drew1) | exact HB.out)))); have n1_ := Aside0.mk (below_step (by repeat (first | (with_reducible first | exact HB.out | apply below_alloc | apply pw_below_drewN | apply below_drew1) | exact HB.out)) hb); clear HB; have HO271 := n0_; have HB := n1_; clear n0_ n1_; (try clear hb); (try clear hb2); (try clear hk); (try clear hi); (try clear ho0)))
 go_ret2
 exact ⟨_, by first | rfl | (simp [errW_none, errW_some] <;> rfl) | (simp [*, errW_none, errW_some] <;> rfl), by (with_reducible repeat (first | apply Kd.R_alloc | apply Kd.R_drewN | apply Kd.R_drew)); exact HO271.out, by repeat (first | (with_reducible first | exact HB.out | apply below_alloc | apply pw_below_drewN | apply below_drew1) | exact HB.out)⟩
/-! ### nat_Or: function 15 -/
def nat_Or.f (l0 : List Int) (l1 : List Int) : Option (List Int × Int) := (nat_join.f l0 l1 (⟨#[111, 114]⟩ : ByteArray)).bind fun bt272 => (some (bt272.1, bt272.2))
set_option maxHeartbeats 8000000 in
set_option maxRecDepth 100000 in
theorem nat_Or.calls (A0 : Option Addr) (c0 : Nat) (l0 : List Int) (A1 : Option Addr) (c1 : Nat) (l1 : List Int) (r1 : List Int) (r2 : Int) (w : World) (hr0 : Kd.C (Kd.int .u64) w A0 l0.length l0) (hc0 : l0.length ≤ c0) (hr1 : Kd.C (Kd.int .u64) w A1 l1.length l1) (hc1 : l1.length ≤ c1) (hj : LaidJ w) (h : nat_Or.f l0 l1 = some (r1, r2)) :
  Calls Tryd.prog 15 #[.slice A0 l0.length c0, .slice A1 l1.length c1] w fun e w' => ∃ v0_ : Value, e = .returned (.tuple #[v0_, .int .i64 r2]) ∧ Kd.R (Kd.int .u64) 36 w' w.heap.size (fun _ => True) v0_ r1 ∧ Below w.heap.size w w' := by
 have HLj := Aside0.mk hj
 clear hj
 have HR0 := Aside0.mk hr0
 have HC0 := Aside0.mk hc0
 clear hr0 hc0
 have HR1 := Aside0.mk hr1
 have HC1 := Aside0.mk hc1
 clear hr1 hc1
 have HB := Aside0.mk (Below.refl w.heap.size w)
 have H : ((nat_join.f l0 l1 (⟨#[111, 114]⟩ : ByteArray)).bind fun bt272 => (some (bt272.1, bt272.2))) = some (r1, r2) := h
 clear h
 replace H := Option.bind_eq_some_iff.mp H
 obtain ⟨⟨t272, t273⟩, A30, H⟩ := H
 replace H : (some (t272, t273)) = some (r1, r2) := H
 have A3 := Aside0.mk A30
 clear A30
 simp only [Option.some.injEq, Prod.mk.injEq] at H
 obtain ⟨rfl, rfl⟩ := H
 go_enter Tryd.func15, Tryd.ntmps15
 go_wp2_with (first | ((with_reducible refine gate_callee (f := 49) rfl ?_); refine goesL_ (some 8) rfl rfl Tryd.func49 (by kernel_rfl) rfl #[.slice A0 l0.length c0, .slice A1 l1.length c1, .string (⟨#[111, 114]⟩ : ByteArray)] rfl (by (try simp only [List.map_toArray, List.map_cons, List.map_nil]); first | done | rfl | (simp only [List.length_drop, List.length_take]; rfl)) ?_; (with_reducible refine (nat_join.calls _ _ l0 _ _ l1 (⟨#[111, 114]⟩ : ByteArray) t272 t273 _ ?side1 ?side2 ?side3 ?side4 (LaidJ.below HLj.out (by repeat (first | (with_reducible first | exact HB.out | apply below_alloc | apply pw_below_drewN | apply below_drew1) | exact HB.out))) A3.out).mono ?_); (case side1 => repeat (first | exact HR0.out | (with_reducible refine Kd.C_alloc ?_ _) | (with_reducible refine Kd.C_drewN ?_ _) | (with_reducible refine Kd.C_drew ?_))); (case side2 => exact HC0.out); (case side3 => repeat (first | exact HR1.out | (with_reducible refine Kd.C_alloc ?_ _) | (with_reducible refine Kd.C_drewN ?_ _) | (with_reducible refine Kd.C_drew ?_))); (case side4 => exact HC1.out); rintro e w4 ⟨v274, rfl, ho0, hb⟩; refine ⟨_, rfl, ?_⟩; have n0_ := Aside0.mk (Kd.R_lower ho0 (below_size (by repeat (first | (with_reducible first | exact HB.out | apply below_alloc | apply pw_below_drewN | apply below_drew1) | exact HB.out)))); have n1_ := Aside0.mk (below_step (by repeat (first | (with_reducible first | exact HB.out | apply below_alloc | apply pw_below_drewN | apply below_drew1) | exact HB.out)) hb); clear HB; have HO275 := n0_; have HB := n1_; clear n0_ n1_; (try clear hb); (try clear hb2); (try clear hk); (try clear hi); (try clear ho0)))
 go_ret2
 exact ⟨_, by first | rfl | (simp [errW_none, errW_some] <;> rfl) | (simp [*, errW_none, errW_some] <;> rfl), by (with_reducible repeat (first | apply Kd.R_alloc | apply Kd.R_drewN | apply Kd.R_drew)); exact HO275.out, by repeat (first | (with_reducible first | exact HB.out | apply below_alloc | apply pw_below_drewN | apply below_drew1) | exact HB.out)⟩
/-! ### nat_Xor: function 16 -/
def nat_Xor.f (l0 : List Int) (l1 : List Int) : Option (List Int × Int) := (nat_join.f l0 l1 (⟨#[120, 111, 114]⟩ : ByteArray)).bind fun bt276 => (some (bt276.1, bt276.2))
set_option maxHeartbeats 8000000 in
set_option maxRecDepth 100000 in
theorem nat_Xor.calls (A0 : Option Addr) (c0 : Nat) (l0 : List Int) (A1 : Option Addr) (c1 : Nat) (l1 : List Int) (r1 : List Int) (r2 : Int) (w : World) (hr0 : Kd.C (Kd.int .u64) w A0 l0.length l0) (hc0 : l0.length ≤ c0) (hr1 : Kd.C (Kd.int .u64) w A1 l1.length l1) (hc1 : l1.length ≤ c1) (hj : LaidJ w) (h : nat_Xor.f l0 l1 = some (r1, r2)) :
  Calls Tryd.prog 16 #[.slice A0 l0.length c0, .slice A1 l1.length c1] w fun e w' => ∃ v0_ : Value, e = .returned (.tuple #[v0_, .int .i64 r2]) ∧ Kd.R (Kd.int .u64) 36 w' w.heap.size (fun _ => True) v0_ r1 ∧ Below w.heap.size w w' := by
 have HLj := Aside0.mk hj
 clear hj
 have HR0 := Aside0.mk hr0
 have HC0 := Aside0.mk hc0
 clear hr0 hc0
 have HR1 := Aside0.mk hr1
 have HC1 := Aside0.mk hc1
 clear hr1 hc1
 have HB := Aside0.mk (Below.refl w.heap.size w)
 have H : ((nat_join.f l0 l1 (⟨#[120, 111, 114]⟩ : ByteArray)).bind fun bt276 => (some (bt276.1, bt276.2))) = some (r1, r2) := h
 clear h
 replace H := Option.bind_eq_some_iff.mp H
 obtain ⟨⟨t276, t277⟩, A30, H⟩ := H
 replace H : (some (t276, t277)) = some (r1, r2) := H
 have A3 := Aside0.mk A30
 clear A30
 simp only [Option.some.injEq, Prod.mk.injEq] at H
 obtain ⟨rfl, rfl⟩ := H
 go_enter Tryd.func16, Tryd.ntmps16
 go_wp2_with (first | ((with_reducible refine gate_callee (f := 49) rfl ?_); refine goesL_ (some 8) rfl rfl Tryd.func49 (by kernel_rfl) rfl #[.slice A0 l0.length c0, .slice A1 l1.length c1, .string (⟨#[120, 111, 114]⟩ : ByteArray)] rfl (by (try simp only [List.map_toArray, List.map_cons, List.map_nil]); first | done | rfl | (simp only [List.length_drop, List.length_take]; rfl)) ?_; (with_reducible refine (nat_join.calls _ _ l0 _ _ l1 (⟨#[120, 111, 114]⟩ : ByteArray) t276 t277 _ ?side1 ?side2 ?side3 ?side4 (LaidJ.below HLj.out (by repeat (first | (with_reducible first | exact HB.out | apply below_alloc | apply pw_below_drewN | apply below_drew1) | exact HB.out))) A3.out).mono ?_); (case side1 => repeat (first | exact HR0.out | (with_reducible refine Kd.C_alloc ?_ _) | (with_reducible refine Kd.C_drewN ?_ _) | (with_reducible refine Kd.C_drew ?_))); (case side2 => exact HC0.out); (case side3 => repeat (first | exact HR1.out | (with_reducible refine Kd.C_alloc ?_ _) | (with_reducible refine Kd.C_drewN ?_ _) | (with_reducible refine Kd.C_drew ?_))); (case side4 => exact HC1.out); rintro e w4 ⟨v278, rfl, ho0, hb⟩; refine ⟨_, rfl, ?_⟩; have n0_ := Aside0.mk (Kd.R_lower ho0 (below_size (by repeat (first | (with_reducible first | exact HB.out | apply below_alloc | apply pw_below_drewN | apply below_drew1) | exact HB.out)))); have n1_ := Aside0.mk (below_step (by repeat (first | (with_reducible first | exact HB.out | apply below_alloc | apply pw_below_drewN | apply below_drew1) | exact HB.out)) hb); clear HB; have HO279 := n0_; have HB := n1_; clear n0_ n1_; (try clear hb); (try clear hb2); (try clear hk); (try clear hi); (try clear ho0)))
 go_ret2
 exact ⟨_, by first | rfl | (simp [errW_none, errW_some] <;> rfl) | (simp [*, errW_none, errW_some] <;> rfl), by (with_reducible repeat (first | apply Kd.R_alloc | apply Kd.R_drewN | apply Kd.R_drew)); exact HO279.out, by repeat (first | (with_reducible first | exact HB.out | apply below_alloc | apply pw_below_drewN | apply below_drew1) | exact HB.out)⟩
/-! ### reckonerref02_word: function 50 -/
end Go.Proofs.YtkkkbalefnileaaDoor.T
/- What the reference's functions on digits hand back (printed in Tx1, Tx2). -/
namespace Go.Proofs.YtkkkbalefnileaaDoor.Ex
open Go.RowKit Go.Proofs.YtkkkbalefnileaaDoorW.PrintWords Go.Proofs.YtkkkbalefnileaaDoorW.PrintLast Go.Proofs.YtkkkbalefnileaaDoorW.PrintMore Go.Proofs.YtkkkbalefnileaaDoor.T
set_option linter.unusedVariables false
set_option linter.unusedSimpArgs false

/-- The base of the reference's digits. -/
def H32 : Int := 4294967296
theorem H32_eq : H32 = 4294967296 := rfl
theorem H32_pos : 0 < H32 := by decide
theorem H32_sq : H32 * H32 = W64 := by decide
theorem rd_nat (l : List Int) (i : Nat) : rd l (i : Int) = l.getD i 0 := by simp [rd]
theorem w64_nat (n : Nat) (h : n < 4611686018427387904) : wrap64 (n : Int) = (n : Int) := by unfold wrap64; omega
theorem w64_int (n : Int) (h0 : -4611686018427387904 ≤ n) (h : n < 4611686018427387904) : wrap64 n = n := by unfold wrap64; omega
theorem wrapW (q : Int) (h0 : 0 ≤ q) (h1 : q < 18446744073709551616) : IntKind.u64.wrap q = q := Int.emod_eq_of_lt h0 h1
theorem tmodH (q : Int) (h : 0 ≤ q) : Int.tmod q 4294967296 = q % H32 := Int.tmod_eq_emod_of_nonneg h
theorem tdivH (q : Int) (h : 0 ≤ q) : Int.tdiv q 4294967296 = q / H32 := Int.tdiv_eq_ediv_of_nonneg h
theorem Ev.now' {α : Type} {g : Nat → Option α} {r : α} (h : ∀ k, g (k + 1) = some r) : Ev g r := Ev.step h (Ev.now r)
/-! ### digits -/
def digitsL : List Int → List Int
  | [] => []
  | x :: l => x % H32 :: x / H32 :: digitsL l
theorem digitsL_length : ∀ l, (digitsL l).length = 2 * l.length
  | [] => rfl
  | x :: l => by simp [digitsL, digitsL_length l]; omega
theorem digitsL_in : ∀ {l}, inW l → inB H32 (digitsL l)
  | [], _ => inB_nil
  | x :: l, h => by
    have h1 := inW_cons.1 h
    have h2 := h1.1.1
    have h3 := h1.1.2
    rw [W64_eq] at h3
    exact inB_cons.2 ⟨by rw [H32_eq]; omega, inB_cons.2 ⟨by rw [H32_eq]; omega, digitsL_in h1.2⟩⟩
theorem digitsL_val : ∀ l, valB H32 (digitsL l) = valB W64 l
  | [] => rfl
  | x :: l => by
    show x % H32 + H32 * (x / H32 + H32 * valB H32 (digitsL l)) = x + W64 * valB W64 l
    rw [digitsL_val l, Int.mul_add, ← Int.mul_assoc, H32_sq, ← Int.add_assoc]
    have := Int.emod_add_mul_ediv x H32
    omega
theorem Digits_loop (l : List Int) (hl : inW l) (hn : l.length ≤ 1000000) : ∀ n i acc, i + n = l.length → acc.length = 2 * i → Ev (fun k => reckonerref01_Digits.l0 k l acc (i : Int)) (acc ++ digitsL (l.drop i))
  | 0, i, acc, h, _ => by
    rw [List.drop_of_length_le (by omega)]
    refine Ev.now' fun k => ?_
    rw [reckonerref01_Digits.l0, if_neg (by omega)]
    simp [digitsL]
  | n + 1, i, acc, h, ha => by
    have hi : i < l.length := by omega
    have ih := Digits_loop l hl hn n (i + 1) (acc ++ [l[i] % H32, l[i] / H32]) (by omega) (by simp [ha]; omega)
    have hx : isW l[i] := hl _ (List.getElem_mem _)
    have h1 := hx.1
    have h2 := hx.2
    rw [W64_eq] at h2
    rw [List.drop_eq_getElem_cons hi]
    have e : acc ++ digitsL (l[i] :: l.drop (i + 1)) = (acc ++ [l[i] % H32, l[i] / H32]) ++ digitsL (l.drop (i + 1)) := by simp [digitsL]
    rw [e]
    refine Ev.step (fun k => ?_) ih
    have hg : l.getD i 0 = l[i] := by simp [List.getD_eq_getElem?_getD, List.getElem?_eq_getElem hi]
    have e1 : wrap64 ((i : Int) + 1) = ((i + 1 : Nat) : Int) := by rw [← w64_nat (i + 1) (by omega)]; rfl
    rw [reckonerref01_Digits.l0, if_pos (by omega), if_pos (by omega), Option.bind_some, if_pos (by simp; omega), rd_nat, hg, e1, tmodH _ h1, tdivH _ h1, wrapW _ (by rw [H32_eq]; omega) (by rw [H32_eq]; omega)]
theorem Digits_ev (l : List Int) (hl : inW l) (hn : l.length ≤ 1000000) : Ev (fun k => reckonerref01_Digits.f k l) (digitsL l) := by
  have h := Digits_loop l hl hn l.length 0 [] (by omega) rfl
  rw [List.drop_zero, List.nil_append] at h
  exact h
/-! ### a row of digits -/
def rowL : List Int → List Int
  | a :: b :: l => (a + b * H32) :: rowL l
  | _ => []
theorem rowL_in : ∀ {d}, inB H32 d → inW (rowL d)
  | [], _ => inW_nil
  | [_], _ => inW_nil
  | a :: b :: l, h => by
    have h1 := inB_cons.1 h
    have h2 := inB_cons.1 h1.2
    have h3 := h1.1
    have h4 := h2.1
    rw [H32_eq] at h3 h4
    exact inW_cons.2 ⟨by unfold isW; rw [H32_eq, W64_eq]; omega, rowL_in h2.2⟩
theorem rowL_length : ∀ d, (rowL d).length = d.length / 2
  | [] => rfl
  | [_] => by simp [rowL]
  | a :: b :: l => by
    have h := rowL_length l
    show (rowL l).length + 1 = (l.length + 1 + 1) / 2
    omega
theorem rowL_val : ∀ d, d.length % 2 = 0 → valB W64 (rowL d) = valB H32 d
  | [], _ => rfl
  | [_], h => by simp at h
  | a :: b :: l, h => by
    show a + b * H32 + W64 * valB W64 (rowL l) = a + H32 * (b + H32 * valB H32 l)
    rw [rowL_val l (by simp at h; omega), Int.mul_add, ← Int.mul_assoc, H32_sq, Int.mul_comm b]
    omega
theorem Row_loop (d : List Int) (hd : inB H32 d) (hn : d.length ≤ 4000000) : ∀ n i acc, 2 * (i + n) = d.length ∨ 2 * (i + n) + 1 = d.length → acc.length = i → Ev (fun k => reckonerref01_Row.l0 k d acc ((2 * i : Nat) : Int)) (acc ++ rowL (d.drop (2 * i)))
  | 0, i, acc, h, _ => by
    have e : rowL (d.drop (2 * i)) = [] := by
      have h1 : (d.drop (2 * i)).length ≤ 1 := by rw [List.length_drop]; omega
      match hm : d.drop (2 * i), h1 with
      | [], _ => rfl
      | [_], _ => rfl
      | _ :: _ :: _, h1 => simp at h1
    rw [e, List.append_nil]
    refine Ev.now' fun k => ?_
    have e1 : wrap64 (((2 * i : Nat) : Int) + 1) = ((2 * i + 1 : Nat) : Int) := by rw [← w64_nat (2 * i + 1) (by omega)]; rfl
    rw [reckonerref01_Row.l0, e1, if_neg (by omega)]
  | n + 1, i, acc, h, ha => by
    have hi : 2 * i < d.length := by omega
    have hi1 : 2 * i + 1 < d.length := by omega
    have ih := Row_loop d hd hn n (i + 1) (acc ++ [d[2 * i] + d[2 * i + 1] * H32]) (by omega) (by simp [ha])
    have h1 := hd _ (List.getElem_mem hi)
    have h2 := hd _ (List.getElem_mem hi1)
    rw [H32_eq] at h1 h2
    rw [List.drop_eq_getElem_cons hi, List.drop_eq_getElem_cons hi1]
    have e : acc ++ rowL (d[2 * i] :: d[2 * i + 1] :: d.drop (2 * i + 1 + 1)) = (acc ++ [d[2 * i] + d[2 * i + 1] * H32]) ++ rowL (d.drop (2 * (i + 1))) := by simp [rowL, Nat.mul_add]
    rw [e]
    refine Ev.step (fun k => ?_) ih
    have hg : d.getD (2 * i) 0 = d[2 * i] := by simp [List.getD_eq_getElem?_getD, List.getElem?_eq_getElem hi]
    have hg1 : d.getD (2 * i + 1) 0 = d[2 * i + 1] := by simp [List.getD_eq_getElem?_getD, List.getElem?_eq_getElem hi1]
    have e1 : wrap64 (((2 * i : Nat) : Int) + 1) = ((2 * i + 1 : Nat) : Int) := by rw [← w64_nat (2 * i + 1) (by omega)]; rfl
    have e2 : wrap64 (((2 * i : Nat) : Int) + 2) = ((2 * (i + 1) : Nat) : Int) := by rw [← w64_nat (2 * (i + 1)) (by omega)]; rfl
    rw [reckonerref01_Row.l0, e1, if_pos (by omega), if_pos (by omega), if_pos (by omega), if_pos (by omega), if_pos (by omega), rd_nat, rd_nat, hg, hg1, e2, wrapW (d[2 * i + 1] * 4294967296) (by omega) (by omega), wrapW _ (by omega) (by omega)]
    rfl
theorem Row_ev (d : List Int) (hd : inB H32 d) (hn : d.length ≤ 4000000) : Ev (fun k => reckonerref01_Row.f k d) (rowL d) := by
  have h := Row_loop d hd hn (d.length / 2) 0 [] (by omega) rfl
  rw [List.drop_zero, List.nil_append] at h
  exact h
/-! ### a digit, 0 beyond the end -/
theorem digit_some (a : List Int) (i : Nat) : reckonerref01_digit.f a (i : Int) = some (a.getD i 0) := by
  unfold reckonerref01_digit.f
  by_cases h : i < a.length
  · rw [if_pos (by omega), if_pos (by omega), rd_nat]
  · rw [if_neg (by omega)]
    simp [List.getD_eq_getElem?_getD, List.getElem?_eq_none (by omega : a.length ≤ i)]
/-! ### sums -/
def plusS (a b : List Int) (i : Nat) (c : Int) : Int × Int := ((c + a.getD i 0 + b.getD i 0) % H32, (c + a.getD i 0 + b.getD i 0) / H32)
theorem plusS_ok {a b : List Int} (ha : inB H32 a) (hb : inB H32 b) (i : Nat) {c : Int} (hc : 0 ≤ c ∧ c ≤ 1) :
    (0 ≤ (plusS a b i c).2 ∧ (plusS a b i c).2 ≤ 1) ∧ (0 ≤ (plusS a b i c).1 ∧ (plusS a b i c).1 < H32) ∧ (plusS a b i c).1 + H32 * (1 * (plusS a b i c).2) = (a.getD i 0 + b.getD i 0) + 1 * c := by
  have h1 := inB_getD H32_pos ha i
  have h2 := inB_getD H32_pos hb i
  unfold plusS
  simp only [H32_eq] at *
  omega
theorem Plus_loop (a b : List Int) (ha : inB H32 a) (hb : inB H32 b) (hn : a.length ≤ 4000000) (hm : b.length ≤ 4000000) : ∀ n i c (acc : List Int), i + n = max a.length b.length → acc.length = i → 0 ≤ c ∧ c ≤ 1 →
    Ev (fun k => reckonerref01_Plus.l0 k a b acc c (i : Int)) (acc ++ (carryL (plusS a b) n i c).1 ++ [(carryL (plusS a b) n i c).2])
  | 0, i, c, acc, h, hacc, hc => by
    refine Ev.step (f := fun k => reckonerref01_Plus.j1 k a b acc c (i : Int) false) (fun k => ?_) (Ev.now' fun k => ?_)
    · rw [reckonerref01_Plus.l0, if_neg (by omega)]
      have e : decide ((i : Int) < (b.length : Int)) = false := decide_eq_false (by omega)
      rw [e]
    · rw [reckonerref01_Plus.j1, if_neg (by decide), if_pos (by omega)]
      simp [carryL]
  | n + 1, i, c, acc, h, hacc, hc => by
    have q1 : acc.length < 17592186044416 := by omega
    have q2 : ¬ (i : Int) < (a.length : Int) → (i : Int) < (b.length : Int) := by omega
    have h1 := inB_getD H32_pos ha i
    have h2 := inB_getD H32_pos hb i
    rw [H32_eq] at h1 h2
    have q3 : IntKind.u64.wrap (c + a.getD i 0) = c + a.getD i 0 := wrapW _ (by omega) (by omega)
    have q4 : 0 ≤ c + a.getD i 0 + b.getD i 0 ∧ c + a.getD i 0 + b.getD i 0 < 18446744073709551616 := by omega
    have q5 : 0 ≤ (c + a.getD i 0 + b.getD i 0) / H32 ∧ (c + a.getD i 0 + b.getD i 0) / H32 < 18446744073709551616 := by rw [H32_eq]; omega
    have e1 : wrap64 ((i : Int) + 1) = ((i + 1 : Nat) : Int) := by rw [← w64_nat (i + 1) (by omega)]; rfl
    obtain ⟨k1, k2, _⟩ := plusS_ok ha hb i hc
    have ih := Plus_loop a b ha hb hn hm n (i + 1) (plusS a b i c).2 (acc ++ [(plusS a b i c).1]) (by omega) (by simp [hacc]) k1
    have e : acc ++ (carryL (plusS a b) (n + 1) i c).1 ++ [(carryL (plusS a b) (n + 1) i c).2] = (acc ++ [(plusS a b i c).1]) ++ (carryL (plusS a b) n (i + 1) (plusS a b i c).2).1 ++ [(carryL (plusS a b) n (i + 1) (plusS a b i c).2).2] := by simp [carryL]
    rw [e]
    refine Ev.step (f := fun k => reckonerref01_Plus.j1 k a b acc c (i : Int) true) (fun k => ?_) (Ev.step (fun k => ?_) ih)
    · show reckonerref01_Plus.l0 (k + 1) a b acc c (i : Int) = reckonerref01_Plus.j1 k a b acc c (i : Int) true
      rw [reckonerref01_Plus.l0]
      by_cases hl : (i : Int) < (a.length : Int)
      · exact if_pos hl
      · have e : decide ((i : Int) < (b.length : Int)) = true := decide_eq_true (q2 hl)
        exact (if_neg hl).trans (by rw [e])
    · rw [reckonerref01_Plus.j1, if_pos rfl, digit_some, digit_some, Option.bind_some, Option.bind_some, if_pos q1, e1, q3, wrapW _ q4.1 q4.2, tmodH _ q4.1, tdivH _ q4.1, wrapW _ q5.1 q5.2]
      rfl
/-- A sum of digits. -/
theorem Plus_ev (a b : List Int) (ha : inB H32 a) (hb : inB H32 b) (hn : a.length ≤ 4000000) (hm : b.length ≤ 4000000) :
    ∃ r, Ev (fun k => reckonerref01_Plus.f k a b) r ∧ inB H32 r ∧ r.length = max a.length b.length + 1 ∧ valB H32 r = valB H32 a + valB H32 b := by
  have h := Plus_loop a b ha hb hn hm (max a.length b.length) 0 0 [] (by omega) rfl ⟨Int.le_refl 0, by decide⟩
  obtain ⟨k1, k2, k3⟩ := carryL_val H32 (plusS a b) (fun i => a.getD i 0 + b.getD i 0) 1 (fun c => 0 ≤ c ∧ c ≤ 1) (max a.length b.length) 0 0 ⟨Int.le_refl 0, by decide⟩ (fun j _ _ c hc => plusS_ok ha hb j hc)
  have kl := carryL_length (plusS a b) (max a.length b.length) 0 0
  rw [List.nil_append] at h
  refine ⟨_, h, inB_append.2 ⟨k2, inB_cons.2 ⟨⟨k1.1, by have := k1.2; rw [H32_eq]; omega⟩, inB_nil⟩⟩, by simp [kl], ?_⟩
  rw [valB_append, kl]
  rw [sumB_add, sumB_pad H32 a _ (Nat.le_max_left _ _), sumB_pad H32 b _ (Nat.le_max_right _ _)] at k3
  simp only [valB, Int.mul_zero, Int.add_zero, Int.one_mul] at k3 ⊢
  exact k3
/-! ### differences -/
/-! ### two rows the same -/
theorem Same_loop (a b : List Int) (hl : a.length = b.length) (hn : a.length ≤ 1000000) : ∀ n i, i + n = a.length → a.take i = b.take i → Ev (fun k => reckonerref01_Same.l0 k a b (i : Int)) (decide (a = b))
  | 0, i, h, ht => by
    refine Ev.now' fun k => ?_
    rw [List.take_of_length_le (by omega), List.take_of_length_le (by omega)] at ht
    rw [reckonerref01_Same.l0, if_neg (by omega), decide_eq_true ht]
  | n + 1, i, h, ht => by
    have e1 : wrap64 ((i : Int) + 1) = ((i + 1 : Nat) : Int) := by rw [← w64_nat (i + 1) (by omega)]; rfl
    have hi : i < a.length := by omega
    have hi' : i < b.length := by omega
    have ga : a.getD i 0 = a[i] := by simp [List.getD_eq_getElem?_getD, List.getElem?_eq_getElem hi]
    have gb : b.getD i 0 = b[i] := by simp [List.getD_eq_getElem?_getD, List.getElem?_eq_getElem hi']
    by_cases hs : a[i] = b[i]
    · refine Ev.step (fun k => ?_) (Same_loop a b hl hn n (i + 1) (by omega) ?_)
      · rw [reckonerref01_Same.l0, if_pos (by omega), if_pos (by omega), if_pos (by omega), rd_nat, rd_nat, ga, gb, if_pos hs, e1]
      · rw [List.take_succ_eq_append_getElem hi, List.take_succ_eq_append_getElem hi', ht, hs]
    · refine Ev.now' fun k => ?_
      rw [reckonerref01_Same.l0, if_pos (by omega), if_pos (by omega), if_pos (by omega), rd_nat, rd_nat, ga, gb, if_neg hs]
      rw [decide_eq_false]
      rintro rfl
      exact hs rfl
theorem RSame_ev (a b : List Int) (hn : a.length ≤ 1000000) : Ev (fun k => reckonerref01_Same.f k a b) (decide (a = b)) := by
  by_cases hl : a.length = b.length
  · refine Ev.congr (fun k => ?_) (Same_loop a b hl hn a.length 0 (by omega) rfl)
    show reckonerref01_Same.f k a b = _
    unfold reckonerref01_Same.f
    rw [if_pos (by omega)]
    rfl
  · refine Ev.congr (f := fun _ => some (decide (a = b))) (fun k => ?_) (Ev.now _)
    show reckonerref01_Same.f k a b = _
    unfold reckonerref01_Same.f
    rw [if_neg (by omega), decide_eq_false (fun e => hl (by rw [e]))]
end Go.Proofs.YtkkkbalefnileaaDoor.Ex
/- The reference's Cut, Add, Sub (printed in Tx1, Tx2), and the row functions' results in values. -/
namespace Go.Proofs.YtkkkbalefnileaaDoor.Ex
open Go.RowKit Go.Proofs.YtkkkbalefnileaaDoorW.PrintWords Go.Proofs.YtkkkbalefnileaaDoorW.PrintLast Go.Proofs.YtkkkbalefnileaaDoorW.PrintMore Go.Proofs.YtkkkbalefnileaaDoor.T
set_option linter.unusedVariables false
set_option linter.unusedSimpArgs false

theorem H32_pow (n : Nat) : H32 ^ (2 * n) = W64 ^ n := by
  rw [Int.pow_mul, show H32 ^ 2 = W64 by decide]
/-- The value of a row's two highest digits. -/
theorem getD_two {d : List Int} (n : Nat) (h : n + 2 ≤ d.length) : d.drop n = d.getD n 0 :: d.getD (n + 1) 0 :: d.drop (n + 2) := by
  have h1 : n < d.length := by omega
  have h2 : n + 1 < d.length := by omega
  rw [List.drop_eq_getElem_cons h1, List.drop_eq_getElem_cons h2]
  simp [List.getD_eq_getElem?_getD, List.getElem?_eq_getElem h1, List.getElem?_eq_getElem h2]
/-- What Cut makes of digits that are enough. -/
theorem Cut_done (d : List Int) (hd : inB H32 d) (n : Nat) (hn : n ≤ 1000000) (hm : d.length ≤ 4000000) (hl : 2 * n + 2 ≤ d.length) :
    Ev (fun k => reckonerref01_Cut.l0 k (n : Int) d) (rowL (d.take (2 * n)), d.getD (2 * n) 0 + d.getD (2 * n + 1) 0 * H32) := by
  have e1 : wrap64 (2 * (n : Int)) = ((2 * n : Nat) : Int) := by rw [← w64_nat (2 * n) (by omega)]; rfl
  have e2 : wrap64 (((2 * n : Nat) : Int) + 2) = ((2 * n + 2 : Nat) : Int) := by rw [← w64_nat (2 * n + 2) (by omega)]; rfl
  have e3 : wrap64 (((2 * n : Nat) : Int) + 1) = ((2 * n + 1 : Nat) : Int) := by rw [← w64_nat (2 * n + 1) (by omega)]; rfl
  have h1 := inB_getD H32_pos hd (2 * n)
  have h2 := inB_getD H32_pos hd (2 * n + 1)
  rw [H32_eq] at h1 h2
  have q1 : ¬ (d.length : Int) < ((2 * n + 2 : Nat) : Int) := by omega
  have q2 : (0 : Int) ≤ ((2 * n : Nat) : Int) := by omega
  have q3 : ((2 * n : Nat) : Int) ≤ (d.length : Int) := by omega
  have q4 : ((2 * n : Nat) : Int) < (d.length : Int) := by omega
  have q5 : (0 : Int) ≤ ((2 * n + 1 : Nat) : Int) := by omega
  have q6 : ((2 * n + 1 : Nat) : Int) < (d.length : Int) := by omega
  have q7 : IntKind.u64.wrap (d.getD (2 * n + 1) 0 * 4294967296) = d.getD (2 * n + 1) 0 * 4294967296 := wrapW _ (by omega) (by omega)
  have q8 : IntKind.u64.wrap (d.getD (2 * n) 0 + d.getD (2 * n + 1) 0 * 4294967296) = d.getD (2 * n) 0 + d.getD (2 * n + 1) 0 * 4294967296 := wrapW _ (by omega) (by omega)
  have hR := Row_ev (d.take (2 * n)) (inB_take hd _) (by rw [List.length_take]; omega)
  refine Ev.step (f := fun k => (reckonerref01_Row.f k (d.take (2 * n))).bind fun t => some (t, d.getD (2 * n) 0 + d.getD (2 * n + 1) 0 * H32)) (fun k => ?_) (Ev.bind hR (Ev.now _))
  rw [reckonerref01_Cut.l0, e1, e2, e3, if_neg q1, if_pos q2, if_pos q3, Int.toNat_natCast]
  simp only [if_pos q4, if_pos q5, if_pos q6, rd_nat, q7, q8]
  rfl
/-- Cut: the row of n words, and the word above it; what digits there are beyond that is left out. -/
theorem Cut_loop (n : Nat) (hn : n ≤ 1000000) : ∀ m (d : List Int), inB H32 d → d.length ≤ 4000000 → 2 * n + 2 - d.length = m →
    ∃ r t, Ev (fun k => reckonerref01_Cut.l0 k (n : Int) d) (r, t) ∧ inW r ∧ r.length = n ∧ isW t ∧ valB W64 r + W64 ^ n * t = valB H32 d % (W64 ^ n * W64)
  | 0, d, hd, hm, hl => by
    have h1 := inB_getD H32_pos hd (2 * n)
    have h2 := inB_getD H32_pos hd (2 * n + 1)
    have hl2 : 2 * n + 2 ≤ d.length := by omega
    have hlt : (d.take (2 * n)).length = 2 * n := by rw [List.length_take]; omega
    refine ⟨_, _, Cut_done d hd n hn hm hl2, rowL_in (inB_take hd _), by rw [rowL_length, hlt]; omega, ?_, ?_⟩
    · rw [H32_eq] at h1 h2
      unfold isW
      rw [H32_eq, W64_eq]
      omega
    · rw [rowL_val _ (by rw [hlt]; omega)]
      have e1 : W64 ^ n * W64 = H32 ^ (2 * n + 2) := by rw [show 2 * n + 2 = 2 * (n + 1) by omega, H32_pow, Int.pow_succ]
      rw [e1, ← valB_take H32_pos hd (2 * n + 2) hl2, valB_split H32 (d.take (2 * n + 2)) (2 * n) (by rw [List.length_take]; omega), List.take_take, Nat.min_eq_left (by omega : 2 * n ≤ 2 * n + 2), H32_pow]
      congr 1
      have e2 : (d.take (2 * n + 2)).drop (2 * n) = [d.getD (2 * n) 0, d.getD (2 * n + 1) 0] := by
        rw [List.drop_take, getD_two (2 * n) hl2]
        simp
      rw [e2]
      congr 1
      simp [valB, Int.mul_comm]
  | m + 1, d, hd, hm, hl => by
    have e1 : wrap64 (2 * (n : Int)) = ((2 * n : Nat) : Int) := by rw [← w64_nat (2 * n) (by omega)]; rfl
    have e2 : wrap64 (((2 * n : Nat) : Int) + 2) = ((2 * n + 2 : Nat) : Int) := by rw [← w64_nat (2 * n + 2) (by omega)]; rfl
    have q1 : (d.length : Int) < ((2 * n + 2 : Nat) : Int) := by omega
    have q2 : d.length < 17592186044416 := by omega
    have ho : inB H32 (d ++ [0]) := inB_append.2 ⟨hd, inB_cons.2 ⟨⟨Int.le_refl 0, H32_pos⟩, inB_nil⟩⟩
    obtain ⟨r, t, h1, h2⟩ := Cut_loop n hn m (d ++ [0]) ho (by simp; omega) (by simp; omega)
    refine ⟨r, t, Ev.step (fun k => ?_) h1, ?_⟩
    · rw [reckonerref01_Cut.l0, e1, e2, if_pos q1, if_pos q2]
    · have e3 : valB H32 (d ++ [0]) = valB H32 d := by rw [valB_append]; simp [valB]
      rw [e3] at h2
      exact h2
theorem Cut_ev (n : Nat) (hn : n ≤ 1000000) (d : List Int) (hd : inB H32 d) (hm : d.length ≤ 4000000) :
    ∃ r t, Ev (fun k => reckonerref01_Cut.f k d (n : Int)) (r, t) ∧ inW r ∧ r.length = n ∧ isW t ∧ valB W64 r + W64 ^ n * t = valB H32 d % (W64 ^ n * W64) := by
  obtain ⟨r, t, h1, h2⟩ := Cut_loop n hn _ d hd hm rfl
  refine ⟨r, t, ?_, h2⟩
  have q : (([] : List Int).length + d.length < 17592186044416) := by simp; omega
  refine Ev.congr (fun k => ?_) h1
  show reckonerref01_Cut.f k d (n : Int) = _
  unfold reckonerref01_Cut.f
  rw [if_pos q, List.nil_append]
end Go.Proofs.YtkkkbalefnileaaDoor.Ex
/- The reference's Word and Times (printed in Tx4, Tx5). -/
namespace Go.Proofs.YtkkkbalefnileaaDoor.Ex
open Go.RowKit Go.Proofs.YtkkkbalefnileaaDoorW.PrintWords Go.Proofs.YtkkkbalefnileaaDoorW.PrintLast Go.Proofs.YtkkkbalefnileaaDoorW.PrintMore Go.Proofs.YtkkkbalefnileaaDoor.T
set_option linter.unusedVariables false
set_option linter.unusedSimpArgs false

theorem w64_add (a b : Nat) (h : a + b < 4611686018427387904) : wrap64 ((a : Int) + (b : Int)) = ((a + b : Nat) : Int) := by rw [← Int.natCast_add]; exact w64_nat (a + b) h
theorem w64_sub1 (n : Nat) (h : n < 4611686018427387904) : wrap64 (((n + 1 : Nat) : Int) - 1) = (n : Int) := by rw [← w64_nat n h]; congr 1; omega
theorem lin5 (u v o c p : Int) (h : u + v = c + o + p) : (u - o) + v = c + p := by omega
theorem Word_some (w : Int) (hw : isW w) : reckonerref01_Word.f w = some [w % H32, w / H32] := by
  have h0 := hw.1
  have h1 := hw.2
  rw [W64_eq] at h1
  have q : 0 ≤ w / H32 ∧ w / H32 < 18446744073709551616 := by rw [H32_eq]; omega
  unfold reckonerref01_Word.f
  rw [tmodH _ h0, tdivH _ h0, wrapW _ q.1 q.2]
theorem word_in (w : Int) (hw : isW w) : inB H32 [w % H32, w / H32] := digitsL_in (inW_cons.2 ⟨hw, inW_nil⟩)
theorem word_val (w : Int) : valB H32 [w % H32, w / H32] = w := by
  have h := digitsL_val [w]
  simpa [digitsL, valB] using h
/-- What holds of a product's digits between two rounds. -/
structure Prod (a b out : List Int) (i : Nat) : Prop where
  len : out.length = a.length + b.length
  dig : inB H32 out
  zero : ∀ j, i + b.length ≤ j → out.getD j 0 = 0
theorem getD_set (l : List Int) (i j : Nat) (x : Int) : (l.set i x).getD j 0 = if i = j ∧ i < l.length then x else l.getD j 0 := by
  simp only [List.getD_eq_getElem?_getD, List.getElem?_set]
  by_cases h : i = j
  · subst h
    by_cases h1 : i < l.length
    · simp [h1]
    · simp [h1]
  · simp [h]
def Good (a b r : List Int) : Prop := inB H32 r ∧ r.length = a.length + b.length ∧ valB H32 r = valB H32 a * valB H32 b
theorem Times_inner (a b : List Int) (ha : inB H32 a) (hb : inB H32 b) (hn : a.length ≤ 1000000) (hm : b.length ≤ 1000000) (i : Nat) (hi : i < a.length)
    (hO : ∀ out, Prod a b out (i + 1) → valB H32 out = valB H32 (a.take (i + 1)) * valB H32 b → ∃ r, Ev (fun k => reckonerref01_Times.l0 k a b out ((i + 1 : Nat) : Int)) r ∧ Good a b r) :
    ∀ (n kk : Nat) (out : List Int) (c : Int), kk + n = b.length → Prod a b out i → (0 ≤ c ∧ c < H32) → valB H32 out + H32 ^ (i + kk) * c = valB H32 (a.take i) * valB H32 b + H32 ^ i * (a.getD i 0 * valB H32 (b.take kk)) →
      ∃ r, Ev (fun k => reckonerref01_Times.l1 k a b out (i : Int) c (kk : Int)) r ∧ Good a b r
  | 0, kk, out, c, hk, hP, hc, hv => by
    have HV := Aside0.mk hv
    clear hv
    obtain rfl : kk = b.length := by omega
    have hlen := hP.len
    have q1 : i + b.length < out.length := by omega
    have q2 : ¬ (b.length : Int) < (b.length : Int) := by omega
    have q3 : (0 : Int) ≤ ((i + b.length : Nat) : Int) := by omega
    have q4 : ((i + b.length : Nat) : Int) < (out.length : Int) := by omega
    have e1 : wrap64 ((i : Int) + (b.length : Int)) = ((i + b.length : Nat) : Int) := w64_add i b.length (by omega)
    have e2 : wrap64 ((i : Int) + 1) = ((i + 1 : Nat) : Int) := by rw [← w64_nat (i + 1) (by omega)]; rfl
    have hz := hP.zero (i + b.length) (Nat.le_refl _)
    obtain ⟨r, h1, h2⟩ := hO (out.set (i + b.length) c) ⟨by rw [List.length_set]; exact hlen, inB_set hP.dig _ hc, fun j hj => by
        rw [getD_set, if_neg (by omega)]
        exact hP.zero j (by omega)⟩ (by
        rw [valB_set H32 out _ c q1, hz, Int.sub_zero, HV.out, valB_take_succ H32 a i hi, List.take_of_length_le (Nat.le_refl _), Int.add_mul, Int.mul_assoc])
    refine ⟨r, Ev.step (fun k => ?_) h1, h2⟩
    rw [reckonerref01_Times.l1, if_neg q2, e1, if_pos q3, if_pos q4, Int.toNat_natCast, e2]
  | n + 1, kk, out, c, hk, hP, hc, hv => by
    have HV := Aside0.mk hv
    clear hv
    have hlen := hP.len
    have hk' : kk + 1 + n = b.length := by omega
    have hjj : ∀ j, i + b.length ≤ j → ¬ (i + kk = j ∧ i + kk < out.length) := by omega
    have hkb : kk < b.length := by omega
    have e1 : wrap64 ((i : Int) + (kk : Int)) = ((i + kk : Nat) : Int) := w64_add i kk (by omega)
    have e2 : wrap64 ((kk : Int) + 1) = ((kk + 1 : Nat) : Int) := by rw [← w64_nat (kk + 1) (by omega)]; rfl
    have q1 : (kk : Int) < (b.length : Int) := by omega
    have q2 : (0 : Int) ≤ ((i + kk : Nat) : Int) := by omega
    have q3 : ((i + kk : Nat) : Int) < (out.length : Int) := by omega
    have q4 : (0 : Int) ≤ (i : Int) := by omega
    have q5 : (i : Int) < (a.length : Int) := by omega
    have q6 : (0 : Int) ≤ (kk : Int) := by omega
    have q7 : i + kk < out.length := by omega
    have h1 := inB_getD H32_pos ha i
    have h2 := inB_getD H32_pos hb kk
    have h3 := inB_getD H32_pos hP.dig (i + kk)
    rw [H32_eq] at h1 h2 h3 hc
    have hmul : a.getD i 0 * b.getD kk 0 ≤ 18446744065119617025 := Int.le_trans (Int.mul_le_mul (show a.getD i 0 ≤ 4294967295 by omega) (show b.getD kk 0 ≤ 4294967295 by omega) h2.1 (by decide)) (by decide)
    have hmul0 : 0 ≤ a.getD i 0 * b.getD kk 0 := Int.mul_nonneg h1.1 h2.1
    obtain ⟨p, hp⟩ : ∃ p, p = a.getD i 0 * b.getD kk 0 := ⟨_, rfl⟩
    rw [← hp] at hmul hmul0
    have HPP := Aside0.mk hp
    clear hp
    have w1 : IntKind.u64.wrap (c + out.getD (i + kk) 0) = c + out.getD (i + kk) 0 := wrapW _ (by omega) (by omega)
    have w2 : IntKind.u64.wrap p = p := wrapW _ (by omega) (by omega)
    have w3 : 0 ≤ c + out.getD (i + kk) 0 + p ∧ c + out.getD (i + kk) 0 + p < 18446744073709551616 := by omega
    have w4 : 0 ≤ (c + out.getD (i + kk) 0 + p) / H32 ∧ (c + out.getD (i + kk) 0 + p) / H32 < 4294967296 := by rw [H32_eq]; omega
    have w5 : (c + out.getD (i + kk) 0 + p) / H32 < 18446744073709551616 := by omega
    have w6 : 0 ≤ (c + out.getD (i + kk) 0 + p) % H32 ∧ (c + out.getD (i + kk) 0 + p) % H32 < H32 := by rw [H32_eq]; omega
    have hdm := Int.emod_add_mul_ediv (c + out.getD (i + kk) 0 + p) H32
    obtain ⟨r, k1, k2⟩ := Times_inner a b ha hb hn hm i hi hO n (kk + 1) (out.set (i + kk) ((c + out.getD (i + kk) 0 + p) % H32)) ((c + out.getD (i + kk) 0 + p) / H32) hk'
      ⟨by rw [List.length_set]; exact hlen, inB_set hP.dig _ w6, fun j hj => by rw [getD_set, if_neg (hjj j hj)]; exact hP.zero j hj⟩ w4 (by
        rw [valB_set H32 out _ _ q7, valB_take_succ H32 b kk hkb, Int.mul_add (a.getD i 0), Int.mul_add (H32 ^ i), ← Int.add_assoc, ← HV.out]
        have e4 : H32 ^ i * (a.getD i 0 * (H32 ^ kk * b.getD kk 0)) = H32 ^ (i + kk) * p := by
          rw [HPP.out, Int.pow_add, Int.mul_left_comm (a.getD i 0), ← Int.mul_assoc]
        have e5 : H32 ^ (i + (kk + 1)) = H32 ^ (i + kk) * H32 := by rw [← Nat.add_assoc, Int.pow_succ]
        have e6 : H32 ^ (i + kk) * ((c + out.getD (i + kk) 0 + p) % H32 - out.getD (i + kk) 0) + H32 ^ (i + kk) * H32 * ((c + out.getD (i + kk) 0 + p) / H32) = H32 ^ (i + kk) * c + H32 ^ (i + kk) * p := by
          rw [Int.mul_assoc, ← Int.mul_add, ← Int.mul_add, lin5 _ _ _ _ _ hdm]
        rw [e4, e5, Int.add_assoc (valB H32 out), e6, ← Int.add_assoc])
    refine ⟨r, Ev.step (fun k => ?_) k1, k2⟩
    rw [reckonerref01_Times.l1, if_pos q1, e1, if_pos q2, if_pos q3, if_pos q4, if_pos q5, if_pos q6, rd_nat, rd_nat, rd_nat, ← HPP.out, w1, w2, wrapW _ w3.1 w3.2, tmodH _ w3.1, tdivH _ w3.1, wrapW _ w4.1 w5, e2, Int.toNat_natCast]
theorem Times_outer (a b : List Int) (ha : inB H32 a) (hb : inB H32 b) (hn : a.length ≤ 1000000) (hm : b.length ≤ 1000000) : ∀ (m i : Nat) (out : List Int), i + m = a.length → Prod a b out i → valB H32 out = valB H32 (a.take i) * valB H32 b →
      ∃ r, Ev (fun k => reckonerref01_Times.l0 k a b out (i : Int)) r ∧ Good a b r
  | 0, i, out, hi, hP, hv => by
    have q0 : a.length ≤ i := by clear hv; omega
    have q1 : ¬ (i : Int) < (a.length : Int) := by clear hv; omega
    rw [List.take_of_length_le q0] at hv
    exact ⟨out, Ev.now' fun k => by rw [reckonerref01_Times.l0, if_neg q1], hP.dig, hP.len, hv⟩
  | m + 1, i, out, hi, hP, hv => by
    have q1 : (i : Int) < (a.length : Int) := by clear hv; omega
    have q2 : i < a.length := by clear hv; omega
    have q3 : i + 1 + m = a.length := by clear hv; omega
    obtain ⟨r, h1, h2⟩ := Times_inner a b ha hb hn hm i q2 (fun out hP hv => Times_outer a b ha hb hn hm m (i + 1) out q3 hP hv) b.length 0 out 0 (Nat.zero_add _) hP ⟨Int.le_refl 0, H32_pos⟩ (by
      rw [List.take_zero]
      simp [valB, hv])
    exact ⟨r, Ev.step (fun k => by rw [reckonerref01_Times.l0, if_pos q1]; rfl) h1, h2⟩
/-- A product of digits. -/
theorem Times_ev (a b : List Int) (ha : inB H32 a) (hb : inB H32 b) (hn : a.length ≤ 1000000) (hm : b.length ≤ 1000000) : ∃ r, Ev (fun k => reckonerref01_Times.f k a b) r ∧ Good a b r := by
  obtain ⟨r, h1, h2⟩ := Times_outer a b ha hb hn hm a.length 0 (List.replicate (a.length + b.length) 0) (by omega)
    ⟨by simp, inB_zeros H32_pos _, fun j _ => by
        simp only [List.getD_eq_getElem?_getD, List.getElem?_replicate]
        split <;> rfl⟩ (by rw [valB_zeros, List.take_zero]; simp [valB])
  have e1 : wrap64 ((a.length : Int) + (b.length : Int)) = ((a.length + b.length : Nat) : Int) := w64_add a.length b.length (by omega)
  have q1 : (0 : Int) ≤ ((a.length + b.length : Nat) : Int) := by omega
  have q2 : a.length + b.length ≤ 35184372088832 := by omega
  refine ⟨r, Ev.congr (fun k => ?_) h1, h2⟩
  show reckonerref01_Times.f k a b = _
  unfold reckonerref01_Times.f
  rw [e1, if_pos q1, Int.toNat_natCast, if_pos q2]
  rfl
end Go.Proofs.YtkkkbalefnileaaDoor.Ex
/- The reference's Short. -/
namespace Go.Proofs.YtkkkbalefnileaaDoor.Ex
open Go.RowKit Go.Proofs.YtkkkbalefnileaaDoorW.PrintWords Go.Proofs.YtkkkbalefnileaaDoorW.PrintLast Go.Proofs.YtkkkbalefnileaaDoorW.PrintMore Go.Proofs.YtkkkbalefnileaaDoor.T
set_option linter.unusedVariables false
set_option linter.unusedSimpArgs false

theorem pow_leB {n m : Nat} (h : n ≤ m) : H32 ^ n ≤ H32 ^ m := by
  obtain ⟨d, rfl⟩ : ∃ d, m = n + d := ⟨m - n, by omega⟩
  rw [Int.pow_add]
  have h1 := pow_posB H32_pos n
  have h2 := pow_posB H32_pos d
  have h3 : H32 ^ n * 1 ≤ H32 ^ n * H32 ^ d := Int.mul_le_mul_of_nonneg_left (by omega) (by omega)
  omega
/-! ### Short -/
theorem Short_stop (a : List Int) (n : Nat) (hn : n ≤ a.length) : (if 0 ≤ (n : Int) then (if (n : Int) ≤ (a.length : Int) then (some (a.take ((n : Int) : Int).toNat)) else (none)) else (none)) = some (a.take n) := by
  rw [if_pos (by omega), if_pos (by omega), Int.toNat_natCast]
theorem Short_loop (a : List Int) (hn : a.length ≤ 4000000) : ∀ n, n ≤ a.length → valB H32 (a.take n) = valB H32 a →
    ∃ m, m ≤ a.length ∧ Ev (fun k => reckonerref01_Short.l0 k a (n : Int)) (a.take m) ∧ valB H32 (a.take m) = valB H32 a ∧ (m = 0 ∨ a.getD (m - 1) 0 ≠ 0)
  | 0, h, hv => ⟨0, h, Ev.now' fun k => by
      have q : ¬ (((0 : Nat) : Int) > 0) := by decide
      rw [reckonerref01_Short.l0, if_neg q]
      exact Short_stop a 0 h, hv, Or.inl rfl⟩
  | n + 1, h, hv => by
    have q1 : (((n + 1 : Nat) : Int) > 0) := by omega
    have q2 : (0 : Int) ≤ (n : Int) := by omega
    have q3 : (n : Int) < (a.length : Int) := by omega
    have e1 := w64_sub1 n (by omega)
    by_cases hz : a.getD n 0 = 0
    · obtain ⟨m, m1, m2, m3⟩ := Short_loop a hn n (by omega) (by rw [← hv, valB_take_succ H32 a n (by omega), hz, Int.mul_zero, Int.add_zero])
      refine ⟨m, m1, Ev.step (fun k => ?_) m2, m3⟩
      rw [reckonerref01_Short.l0, if_pos q1, e1, if_pos q2, if_pos q3, rd_nat, if_pos hz]
    · refine ⟨n + 1, h, Ev.now' fun k => ?_, hv, Or.inr hz⟩
      rw [reckonerref01_Short.l0, if_pos q1, e1, if_pos q2, if_pos q3, rd_nat, if_neg hz]
      exact Short_stop a (n + 1) h
theorem Short_ev (a : List Int) (hn : a.length ≤ 4000000) : ∃ m, m ≤ a.length ∧ Ev (fun k => reckonerref01_Short.f k a) (a.take m) ∧ valB H32 (a.take m) = valB H32 a ∧ (m = 0 ∨ a.getD (m - 1) 0 ≠ 0) :=
  Short_loop a hn a.length (Nat.le_refl _) (by rw [List.take_of_length_le (Nat.le_refl _)])
end Go.Proofs.YtkkkbalefnileaaDoor.Ex
/- The bits of a word: what the library's OnesCount64 calculates; what is counted bit by bit. No program here. -/
namespace Go.Proofs.YtkkkbalefnileaaDoor.Ex
open Go Go.Lib
set_option linter.unusedVariables false

def f1 (b : Nat) : Nat := (b / 2 &&& 85) + (b &&& 85)
def f2 (b : Nat) : Nat := (b / 4 &&& 51) + (b &&& 51)
end Go.Proofs.YtkkkbalefnileaaDoor.Ex
/- One bit of a word set and cleared. -/
namespace Go.Proofs.YtkkkbalefnileaaDoor.Ex
open Go.RowKit Go.Proofs.YtkkkbalefnileaaDoorW.PrintWords Go.Proofs.YtkkkbalefnileaaDoorW.PrintLast Go.Proofs.YtkkkbalefnileaaDoorW.PrintMore
set_option linter.unusedVariables false
set_option linter.unusedSimpArgs false

theorem nat_or_one (q : Nat) : q ||| 1 = q - q % 2 + 1 := by
  have h1 := Nat.two_pow_add_eq_or_of_lt (i := 1) (b := q % 2) (by omega) (q / 2)
  have h2 := Nat.two_pow_add_eq_or_of_lt (i := 1) (b := 1) (by omega) (q / 2)
  have e : 2 ^ 1 * (q / 2) + q % 2 = q := by omega
  rw [e] at h1
  have h3 : q ||| 1 = 2 ^ 1 * (q / 2) ||| (q % 2 ||| 1) := by
    have : q ||| 1 = (2 ^ 1 * (q / 2) ||| q % 2) ||| 1 := by rw [← h1]
    rw [this, Nat.or_assoc]
  have h4 : q % 2 ||| 1 = 1 := by rcases Nat.mod_two_eq_zero_or_one q with h | h <;> rw [h] <;> rfl
  rw [h3, h4, ← h2]
  omega
theorem nat_or_bit (x m : Nat) : x ||| 2 ^ m = x - x / 2 ^ m % 2 * 2 ^ m + 2 ^ m := by
  have hp : 0 < 2 ^ m := Nat.pow_pos (by decide)
  have hd := Nat.div_add_mod x (2 ^ m)
  have hl := Nat.mod_lt x hp
  generalize x / 2 ^ m = q at *
  generalize x % 2 ^ m = l at *
  have h1 := Nat.two_pow_add_eq_or_of_lt hl q
  have h2 := Nat.two_pow_add_eq_or_of_lt hl (q ||| 1)
  have h3 : 2 ^ m * (q ||| 1) = 2 ^ m * q ||| 2 ^ m := by
    have : 2 ^ m * (q ||| 1) = (2 ^ m * q) ||| (2 ^ m * 1) := by
      rw [Nat.mul_comm, Nat.mul_comm (2 ^ m) q, Nat.mul_comm (2 ^ m) 1, ← Nat.shiftLeft_eq, ← Nat.shiftLeft_eq, ← Nat.shiftLeft_eq, Nat.shiftLeft_or_distrib]
    rw [this, Nat.mul_one]
  have h4 : x ||| 2 ^ m = 2 ^ m * (q ||| 1) + l := by
    rw [h2, h3, ← hd, h1, Nat.or_assoc, Nat.or_assoc, Nat.or_comm l]
  rw [h4, nat_or_one, ← hd, Nat.mul_add, Nat.mul_sub, Nat.mul_one, Nat.mul_comm (q % 2)]
  have : 2 ^ m * (q % 2) ≤ 2 ^ m * q := Nat.mul_le_mul_left _ (Nat.mod_le _ _)
  omega
theorem nat_less_bit (x m : Nat) : (x - x / 2 ^ m % 2 * 2 ^ m) / 2 ^ m % 2 = 0 ∧ x / 2 ^ m % 2 * 2 ^ m ≤ x := by
  have hp : 0 < 2 ^ m := Nat.pow_pos (by decide)
  have hd := Nat.div_add_mod x (2 ^ m)
  have hl := Nat.mod_lt x hp
  generalize x / 2 ^ m = q at *
  generalize x % 2 ^ m = l at *
  have h1 : 2 ^ m * (q % 2) ≤ 2 ^ m * q := Nat.mul_le_mul_left _ (Nat.mod_le _ _)
  have h2 : x - q % 2 * 2 ^ m = l + 2 ^ m * (q - q % 2) := by rw [Nat.mul_sub, Nat.mul_comm (q % 2)]; omega
  rw [h2, Nat.add_mul_div_left _ _ hp, Nat.div_eq_of_lt hl, Nat.mul_comm (q % 2)]
  omega
theorem nat_andNot_bit (x m : Nat) (hx : x < 2 ^ 64) (hm : m < 64) : x &&& (18446744073709551615 - 2 ^ m) = x - x / 2 ^ m % 2 * 2 ^ m := by
  obtain ⟨h0, h1⟩ := nat_less_bit x m
  obtain ⟨r, hr⟩ : ∃ r, r = x - x / 2 ^ m % 2 * 2 ^ m := ⟨_, rfl⟩
  rw [← hr] at h0 ⊢
  have hrm : r.testBit m = false := by rw [Nat.testBit_eq_decide_div_mod_eq, h0]; rfl
  have hr64 : r < 2 ^ 64 := by omega
  have hx2 : ∀ i, i ≠ m → x.testBit i = r.testBit i := by
    intro i hi
    rcases Nat.mod_two_eq_zero_or_one (x / 2 ^ m) with h | h
    · rw [h] at hr; rw [hr]; congr 1; omega
    · rw [h] at hr h1
      have hor := nat_or_bit r m
      rw [h0] at hor
      have hxr : x = r ||| 2 ^ m := by rw [hor]; omega
      rw [hxr, Nat.testBit_or, Nat.testBit_two_pow_of_ne (Ne.symm hi), Bool.or_false]
  have hm2 : 2 ^ m < 2 ^ 64 := Nat.pow_lt_pow_right (by decide) hm
  have e : 18446744073709551615 - 2 ^ m = 2 ^ 64 - (2 ^ m + 1) := by omega
  rw [e]
  apply Nat.eq_of_testBit_eq
  intro i
  rw [Nat.testBit_and, Nat.testBit_two_pow_sub_succ hm2]
  by_cases hi : i = m
  · subst hi
    rw [hrm, Nat.testBit_two_pow_self]
    simp
  · rw [hx2 i hi, Nat.testBit_two_pow_of_ne (Ne.symm hi)]
    by_cases hi6 : i < 64
    · simp [hi6]
    · have : r.testBit i = false := Nat.testBit_lt_two_pow (Nat.lt_of_lt_of_le hr64 (Nat.pow_le_pow_right (by decide) (by omega)))
      rw [this]; rfl
/-- The value with a bit as it is said. -/
def setV (v : Int) (i : Nat) (b : Bool) : Int := v - v / 2 ^ i % 2 * 2 ^ i + (if b then 2 ^ i else 0)
theorem or_bit (x : Int) (m : Nat) (hx : isW x) (hm : m ≤ 63) : bits .or .u64 x (2 ^ m) = setV x m true ∧ isW (setV x m true) := by
  obtain ⟨X, rfl⟩ := Int.eq_ofNat_of_zero_le hx.1
  have hX := hx.2
  rw [W64_eq] at hX
  have hlt : 2 ^ m < 18446744073709551616 := by have := Nat.pow_lt_pow_right (show 1 < 2 by decide) (show m < 64 by omega); exact this
  have ep : (2 : Int) ^ m = ((2 ^ m : Nat) : Int) := by simp
  obtain ⟨h0, h1⟩ := nat_less_bit X m
  have e : setV (X : Int) m true = ((X ||| 2 ^ m : Nat) : Int) := by
    unfold setV
    rw [nat_or_bit, if_pos rfl, ep, Int.natCast_add, Int.natCast_sub h1, Int.natCast_mul, Int.natCast_emod, Int.natCast_ediv]
    rfl
  refine ⟨by rw [e, ep, bits_or_u64_nat _ _ (by omega) hlt], ?_⟩
  rw [e]
  refine ⟨by omega, ?_⟩
  rw [W64_eq]
  have : X ||| 2 ^ m < 2 ^ 64 := Nat.or_lt_two_pow (by omega) (by omega)
  omega
theorem clear_bit (x : Int) (m : Nat) (hx : isW x) (hm : m ≤ 63) : bits .andNot .u64 x (2 ^ m) = setV x m false ∧ isW (setV x m false) := by
  obtain ⟨X, rfl⟩ := Int.eq_ofNat_of_zero_le hx.1
  have hX := hx.2
  rw [W64_eq] at hX
  have hlt : 2 ^ m < 18446744073709551616 := by have := Nat.pow_lt_pow_right (show 1 < 2 by decide) (show m < 64 by omega); exact this
  have ep : (2 : Int) ^ m = ((2 ^ m : Nat) : Int) := by simp
  obtain ⟨h0, h1⟩ := nat_less_bit X m
  have e : setV (X : Int) m false = ((X - X / 2 ^ m % 2 * 2 ^ m : Nat) : Int) := by
    unfold setV
    rw [if_neg (by decide), ep, Int.natCast_sub h1, Int.natCast_mul, Int.natCast_emod, Int.natCast_ediv, Int.add_zero]
    rfl
  refine ⟨by rw [e, ep, u64_andNot_nat _ _ (by omega) hlt, nat_andNot_bit X m (by omega) (by omega)], ?_⟩
  rw [e]
  refine ⟨by omega, ?_⟩
  rw [W64_eq]
  omega
end Go.Proofs.YtkkkbalefnileaaDoor.Ex
/- nat.SetBit. -/
namespace Go.Proofs.YtkkkbalefnileaaDoor.Ex
open Go.RowKit Go.Shelf Go.Proofs.YtkkkbalefnileaaDoorW.PrintWords Go.Proofs.YtkkkbalefnileaaDoorW.PrintLast Go.Proofs.YtkkkbalefnileaaDoorW.PrintMore
set_option linter.unusedVariables false
set_option linter.unusedSimpArgs false

theorem valB_drop_succ' (B : Int) (x : List Int) (i : Nat) (h : i < x.length) : valB B (x.drop i) = x.getD i 0 + B * valB B (x.drop (i + 1)) := by
  rw [List.drop_eq_getElem_cons h]
  simp [valB, List.getD_eq_getElem?_getD, List.getElem?_eq_getElem h]
theorem bit_val {L : List Int} (hL : inW L) {q m : Nat} (hq : q < L.length) (hm : m ≤ 63) : valB W64 L / 2 ^ (64 * q + m) % 2 = L.getD q 0 / 2 ^ m % 2 := by
  have hp := pow_posB (B := 2) (by decide) m
  have hP := pow_posB W64_pos q
  rw [Int.pow_add, ← pow2_W, ← div_div _ _ _ (valW_nonneg hL) hP hp, ← valB_drop W64_pos hL q (by omega), valB_drop_succ' W64 L q hq]
  have hu : W64 = 2 ^ m * (2 * 2 ^ (63 - m)) := by
    rw [show (2 : Int) * 2 ^ (63 - m) = 2 ^ (64 - m) by rw [← Int.pow_succ', show 63 - m + 1 = 64 - m by omega], ← Int.pow_add, show m + (64 - m) = 64 by omega]; decide
  generalize valB W64 (L.drop (q + 1)) = r
  generalize L.getD q 0 = x
  have e : x + W64 * r = x + 2 ^ m * (2 * (2 ^ (63 - m) * r)) := by rw [hu, Int.mul_assoc, Int.mul_assoc]
  rw [e, Int.add_mul_ediv_left _ _ (by omega), Int.add_mul_emod_self_left]
theorem set_val {L : List Int} (hL : inW L) {q m : Nat} (hq : q < L.length) (hm : m ≤ 63) (b : Bool) : valB W64 (L.set q (setV (L.getD q 0) m b)) = setV (valB W64 L) (64 * q + m) b := by
  have hx := isW_get hL q
  have hp := pow_posB (B := 2) (by decide) m
  have hP := pow_posB W64_pos q
  have hb := bit_val hL hq hm
  rw [valB_set W64 L q _ hq]
  unfold setV
  rw [hb, Int.pow_add, ← pow2_W]
  generalize L.getD q 0 / 2 ^ m % 2 = t
  generalize L.getD q 0 = x
  generalize W64 ^ q = P
  generalize (2 : Int) ^ m = u
  cases b
  · simp only [if_neg (by decide : ¬ false = true)]
    grind
  · simp only [if_pos (rfl : true = true)]
    grind
def nat_SetBit.f (l0 : List Int) (a1 : Int) (a2 : Bool) : Option (List Int × Int) :=
  if inW l0 then
    if l0.length ≤ 4096 then
      if 0 ≤ a1 ∧ a1 < 262144 then some (can (setV (valB W64 l0) a1.toNat a2), 0) else some ([], 1)
    else some ([], 2)
  else none
set_option maxRecDepth 100000 in
set_option maxHeartbeats 4000000 in
theorem nat_SetBit.calls (A0 : Option Addr) (c0 : Nat) (l0 : List Int) (a1 : Int) (a2 : Bool) (r1 : List Int) (r2 : Int) (w : World) (hr0 : Kd.C (Kd.int .u64) w A0 l0.length l0) (hc0 : l0.length ≤ c0) (h : nat_SetBit.f l0 a1 a2 = some (r1, r2)) :
  Calls Tryd.prog 9 #[.slice A0 l0.length c0, .int .i64 a1, .bool a2] w fun e w' => ∃ v0_ : Value, e = .returned (.tuple #[v0_, .int .i64 r2]) ∧ Kd.R (Kd.int .u64) 36 w' w.heap.size (fun _ => True) v0_ r1 ∧ Below w.heap.size w w' := by
 unfold nat_SetBit.f at h
 by_cases hw : inW l0
 ·rw [if_pos hw] at h
  by_cases h4 : l0.length ≤ 4096
  ·rw [if_pos h4] at h
   have HL := Aside0.mk (large_one A0 c0 l0 w false hr0 hc0 (decide_eq_false (by omega)))
   by_cases hs : 0 ≤ a1 ∧ a1 < 262144
   ·rw [if_pos hs] at h
    have b0 : decide (a1 < 0) = false := decide_eq_false (by omega)
    have b1 : decide (262144 ≤ a1) = false := decide_eq_false (by omega)
    obtain ⟨hs0, hs1⟩ := hs
    obtain ⟨q, m, hq, hm, hqm, hm63, hq4⟩ : ∃ q m : Nat, a1 / 64 = (q : Int) ∧ a1 % 64 = (m : Int) ∧ a1.toNat = 64 * q + m ∧ m ≤ 63 ∧ q ≤ 4095 := ⟨(a1 / 64).toNat, (a1 % 64).toNat, by omega, by omega, by omega, by omega, by omega⟩
    rw [hqm] at h
    obtain ⟨n, hmx, hn1, hn2, hn3⟩ : ∃ n : Nat, max (l0.length : Int) ((q : Int) + 1) = (n : Int) ∧ l0.length ≤ n ∧ q < n ∧ n ≤ 4096 := ⟨max l0.length (q + 1), by omega, by omega, by omega, by omega⟩
    have hw1 : IntKind.u64.wrap ((2 : Int) ^ m) = 2 ^ m := by
     have h1 := pow_posB (B := 2) (by decide) m
     have h2 : (2 : Int) ^ m * 2 ≤ 2 ^ 64 := by rw [← Int.pow_succ]; exact pow_mono (by decide) (by omega)
     exact IntWalk.u64_in _ (by omega)
    obtain ⟨L, hL⟩ : ∃ L, L = l0 ++ List.replicate (n - l0.length) 0 := ⟨_, rfl⟩
    have hLi : inW L := by rw [hL]; exact inB_append.2 ⟨hw, inB_zeros W64_pos _⟩
    have hLl : L.length = n := by rw [hL]; simp; omega
    have hLv : valB W64 L = valB W64 l0 := by rw [hL, valB_append, valB_zeros, Int.mul_zero, Int.add_zero]
    have hxw := isW_get hLi q
    have q0 : (q : Int) < (n : Int) := by omega
    have q1 : (0 : Int) ≤ (q : Int) := by omega
    have q2 : ((q : Nat) : Int).toNat = q := rfl
    cases a2
    case false =>
     have hv := set_val hLi (show q < L.length by omega) hm63 false
     obtain ⟨hbit, hyw⟩ := clear_bit (L.getD q 0) m hxw hm63
     rw [hLv] at hv
     rw [← hv] at h
     obtain ⟨x, hx⟩ : ∃ x, x = L.getD q 0 := ⟨_, rfl⟩
     rw [← hx] at hv h hbit hyw
     obtain ⟨y, hy⟩ : ∃ y, y = setV x m false := ⟨_, rfl⟩
     rw [← hy] at hv h hbit hyw
     obtain ⟨Z, hZ⟩ : ∃ Z, Z = L.set q y := ⟨_, rfl⟩
     have hZi : inW Z := by rw [hZ]; exact inB_set hLi q hyw
     have hZl : Z.length = n := by rw [hZ]; simp [hLl]
     rw [← hZ] at h hv
     have HZ := Aside0.mk hZ
     have HX := Aside0.mk hx
     have HZi := Aside0.mk hZi
     have HZl := Aside0.mk hZl
     have HLe := Aside0.mk hL
     have HLl := Aside0.mk hLl
     have HR0 := Aside0.mk hr0
     have HH := Aside0.mk h
     have hmk := print_make2 n n (Nat.le_refl n) (by omega)
     clear hv h hZ hx hy hyw hZi hZl hLi hLl hLv hL hqm hxw hw hr0
     go_enter Tryd.func9, Tryd.ntmps9
     go_wp2_with fail
     refine HL.out.mono ?_
     rintro e w1 ⟨rfl, hb1⟩
     have HB1 := Aside0.mk hb1
     clear hb1
     have HRB := Aside0.mk (RowB.made w1 n)
     have HB3 := Aside0.mk (below_alloc HB1.out (.cells (madeCells #[.int .u64 0] n) 36))
     have HYR := Aside0.mk (show ∀ j v, (nums .u64 l0)[j]? = some v → ∃ ad, A0 = some ad ∧ (w1.alloc (.cells (madeCells #[.int .u64 0] n) 36)).cell? (ad.add j) = some v from by
      intro j v hj
      have hjl : j < l0.length := by have := (List.getElem?_eq_some_iff.1 hj).1; simpa [nums] using this
      obtain ⟨ad, had, hx⟩ := Kd.at_int (Kd.C_below HR0.out HB3.out) (j : Int) (by omega) (by omega)
      refine ⟨ad, had, ?_⟩
      rw [show rd l0 (j : Int) = l0.getD j 0 by simp [rd]] at hx
      have e : v = .int .u64 (l0.getD j 0) := by
       simp only [nums, List.getElem?_map, List.getElem?_eq_getElem hjl, Option.map_some, Option.some.injEq] at hj
       rw [← hj, List.getD_eq_getElem?_getD, List.getElem?_eq_getElem hjl]; rfl
      rw [e]
      exact hx)
     go_wp2_with ((with_reducible refine gate_builtin (b := .copy) (xs := #[.tmp 25, .tmp 26]) rfl ?_); refine wpList_copy_splice rfl (.tmp 25) (.tmp 26) 23 23 rfl 36 Tryd.underlying23 ?z1 _ _ _ _ _ _ rfl rfl w1.heap.size 0 (nums .u64 (List.replicate n 0)) 36 HRB.out (nums .u64 l0) ?z2 ?z3 ?z4 ?z5 w.heap.size w HB3.out ?z6 ?_)
     case z1 => kernel_rfl
     case z2 => simp only [nums, List.length_map]; exact (Nat.min_eq_left hn1).symm
     case z3 =>
      intro hp
      have h0 : 0 < (nums .u64 l0).length := hp
      obtain ⟨ad, had, _⟩ := HYR.out 0 _ (List.getElem?_eq_getElem h0)
      have hall : ∀ j v, (nums .u64 l0)[j]? = some v → (w1.alloc (.cells (madeCells #[.int .u64 0] n) 36)).cell? (ad.add j) = some v := by
       intro j v hj
       obtain ⟨ad', had', hc'⟩ := HYR.out j v hj
       rw [had] at had'
       cases had'
       exact hc'
      first | exact ⟨rfl, ad, had, hall⟩ | exact ⟨ad, had, hall⟩
     case z4 => simp [nums]; exact hn1
     case z5 =>
      intro v hv
      simp only [nums, List.mem_map] at hv
      obtain ⟨x, _, rfl⟩ := hv
      rfl
     case z6 => exact below_size HB1.out
     intro w3 hg3 hb3
     have hRB : RowB w3 w1.heap.size L := by
      have h1 := hg3.out
      unfold RowB
      rw [h1, HLe.out]
      congr 2
      simp [splice, nums, List.map_append]
     have HB4 := Aside0.mk hb3
     have hgs := below_size HB1.out
     have x1 := hRB.cell q (by rw [HLl.out]; exact hn2)
     rw [← HX.out] at x1
     have f1 := hRB.frozen q
     have hZB := hRB.set q y
     rw [← HZ.out] at hZB
     have hR2 := hZB.own' w.heap.size hgs (by rw [HZl.out]; omega)
     have hT := trim1 (some ⟨w1.heap.size, 0, none⟩) Z.length Z _ HZi.out (R_C hR2) (R_cap hR2)
     have hR1 := R_can hR2 HZi.out
     rw [HZl.out] at hT hR1
     have hhh := HH.out
     have HT := Aside0.mk hT
     have HR1 := Aside0.mk hR1
     have HB5 := Aside0.mk (HB4.out.setCell (p := ⟨w1.heap.size, q, none⟩) hgs (.int .u64 y))
     generalize w1.heap.size = g at *
     clear hRB hZB hR2 hT hR1 hg3 hb3 HB4 HB3 HB1 HRB HYR hmk
     go_wp2_with fail
     refine HT.out.mono ?_
     rintro e w9 ⟨rfl, rfl⟩
     cases hhh
     go_wp2
     go_ret2
     exact ⟨_, rfl, HR1.out, HB5.out⟩
    case true =>
     have hv := set_val hLi (show q < L.length by omega) hm63 true
     obtain ⟨hbit, hyw⟩ := or_bit (L.getD q 0) m hxw hm63
     rw [hLv] at hv
     rw [← hv] at h
     obtain ⟨x, hx⟩ : ∃ x, x = L.getD q 0 := ⟨_, rfl⟩
     rw [← hx] at hv h hbit hyw
     obtain ⟨y, hy⟩ : ∃ y, y = setV x m true := ⟨_, rfl⟩
     rw [← hy] at hv h hbit hyw
     obtain ⟨Z, hZ⟩ : ∃ Z, Z = L.set q y := ⟨_, rfl⟩
     have hZi : inW Z := by rw [hZ]; exact inB_set hLi q hyw
     have hZl : Z.length = n := by rw [hZ]; simp [hLl]
     rw [← hZ] at h hv
     have HZ := Aside0.mk hZ
     have HX := Aside0.mk hx
     have HZi := Aside0.mk hZi
     have HZl := Aside0.mk hZl
     have HLe := Aside0.mk hL
     have HLl := Aside0.mk hLl
     have HR0 := Aside0.mk hr0
     have HH := Aside0.mk h
     have hmk := print_make2 n n (Nat.le_refl n) (by omega)
     clear hv h hZ hx hy hyw hZi hZl hLi hLl hLv hL hqm hxw hw hr0
     go_enter Tryd.func9, Tryd.ntmps9
     go_wp2_with fail
     refine HL.out.mono ?_
     rintro e w1 ⟨rfl, hb1⟩
     have HB1 := Aside0.mk hb1
     clear hb1
     have HRB := Aside0.mk (RowB.made w1 n)
     have HB3 := Aside0.mk (below_alloc HB1.out (.cells (madeCells #[.int .u64 0] n) 36))
     have HYR := Aside0.mk (show ∀ j v, (nums .u64 l0)[j]? = some v → ∃ ad, A0 = some ad ∧ (w1.alloc (.cells (madeCells #[.int .u64 0] n) 36)).cell? (ad.add j) = some v from by
      intro j v hj
      have hjl : j < l0.length := by have := (List.getElem?_eq_some_iff.1 hj).1; simpa [nums] using this
      obtain ⟨ad, had, hx⟩ := Kd.at_int (Kd.C_below HR0.out HB3.out) (j : Int) (by omega) (by omega)
      refine ⟨ad, had, ?_⟩
      rw [show rd l0 (j : Int) = l0.getD j 0 by simp [rd]] at hx
      have e : v = .int .u64 (l0.getD j 0) := by
       simp only [nums, List.getElem?_map, List.getElem?_eq_getElem hjl, Option.map_some, Option.some.injEq] at hj
       rw [← hj, List.getD_eq_getElem?_getD, List.getElem?_eq_getElem hjl]; rfl
      rw [e]
      exact hx)
     go_wp2_with ((with_reducible refine gate_builtin (b := .copy) (xs := #[.tmp 25, .tmp 26]) rfl ?_); refine wpList_copy_splice rfl (.tmp 25) (.tmp 26) 23 23 rfl 36 Tryd.underlying23 ?z1 _ _ _ _ _ _ rfl rfl w1.heap.size 0 (nums .u64 (List.replicate n 0)) 36 HRB.out (nums .u64 l0) ?z2 ?z3 ?z4 ?z5 w.heap.size w HB3.out ?z6 ?_)
     case z1 => kernel_rfl
     case z2 => simp only [nums, List.length_map]; exact (Nat.min_eq_left hn1).symm
     case z3 =>
      intro hp
      have h0 : 0 < (nums .u64 l0).length := hp
      obtain ⟨ad, had, _⟩ := HYR.out 0 _ (List.getElem?_eq_getElem h0)
      have hall : ∀ j v, (nums .u64 l0)[j]? = some v → (w1.alloc (.cells (madeCells #[.int .u64 0] n) 36)).cell? (ad.add j) = some v := by
       intro j v hj
       obtain ⟨ad', had', hc'⟩ := HYR.out j v hj
       rw [had] at had'
       cases had'
       exact hc'
      first | exact ⟨rfl, ad, had, hall⟩ | exact ⟨ad, had, hall⟩
     case z4 => simp [nums]; exact hn1
     case z5 =>
      intro v hv
      simp only [nums, List.mem_map] at hv
      obtain ⟨x, _, rfl⟩ := hv
      rfl
     case z6 => exact below_size HB1.out
     intro w3 hg3 hb3
     have hRB : RowB w3 w1.heap.size L := by
      have h1 := hg3.out
      unfold RowB
      rw [h1, HLe.out]
      congr 2
      simp [splice, nums, List.map_append]
     have HB4 := Aside0.mk hb3
     have hgs := below_size HB1.out
     have x1 := hRB.cell q (by rw [HLl.out]; exact hn2)
     rw [← HX.out] at x1
     have f1 := hRB.frozen q
     have hZB := hRB.set q y
     rw [← HZ.out] at hZB
     have hR2 := hZB.own' w.heap.size hgs (by rw [HZl.out]; omega)
     have hT := trim1 (some ⟨w1.heap.size, 0, none⟩) Z.length Z _ HZi.out (R_C hR2) (R_cap hR2)
     have hR1 := R_can hR2 HZi.out
     rw [HZl.out] at hT hR1
     have hhh := HH.out
     have HT := Aside0.mk hT
     have HR1 := Aside0.mk hR1
     have HB5 := Aside0.mk (HB4.out.setCell (p := ⟨w1.heap.size, q, none⟩) hgs (.int .u64 y))
     generalize w1.heap.size = g at *
     clear hRB hZB hR2 hT hR1 hg3 hb3 HB4 HB3 HB1 HRB HYR hmk
     go_wp2_with fail
     refine HT.out.mono ?_
     rintro e w9 ⟨rfl, rfl⟩
     cases hhh
     go_wp2
     go_ret2
     exact ⟨_, rfl, HR1.out, HB5.out⟩
   ·rw [if_neg hs] at h
    cases h
    clear hr0
    by_cases hs0 : a1 < 0
    ·have b0 : decide (a1 < 0) = true := decide_eq_true hs0
     go_enter Tryd.func9, Tryd.ntmps9
     go_wp2_with fail
     refine HL.out.mono ?_
     rintro e w1 ⟨rfl, hb1⟩
     have HB1 := Aside0.mk hb1
     clear hb1
     go_wp2
     go_ret2
     exact ⟨_, rfl, Kd.R_nil _ _ _ _ _, HB1.out⟩
    ·have b0 : decide (a1 < 0) = false := decide_eq_false hs0
     have b1 : decide (262144 ≤ a1) = true := decide_eq_true (by omega)
     go_enter Tryd.func9, Tryd.ntmps9
     go_wp2_with fail
     refine HL.out.mono ?_
     rintro e w1 ⟨rfl, hb1⟩
     have HB1 := Aside0.mk hb1
     clear hb1
     go_wp2
     go_ret2
     exact ⟨_, rfl, Kd.R_nil _ _ _ _ _, HB1.out⟩
  ·rw [if_neg h4] at h
   cases h
   have HL := Aside0.mk (large_one A0 c0 l0 w true hr0 hc0 (decide_eq_true (by omega)))
   clear hr0
   go_enter Tryd.func9, Tryd.ntmps9
   go_wp2_with fail
   refine HL.out.mono ?_
   rintro e w1 ⟨rfl, hb1⟩
   have HB1 := Aside0.mk hb1
   clear hb1
   go_wp2
   go_ret2
   exact ⟨_, rfl, Kd.R_nil _ _ _ _ _, HB1.out⟩
 ·rw [if_neg hw] at h; cases h
end Go.Proofs.YtkkkbalefnileaaDoor.Ex
/- math/bits.TrailingZeros64: by the library's table. -/
namespace Go.Proofs.YtkkkbalefnileaaDoor.Ex
open Go.RowKit Go.Shelf Go.Proofs.YtkkkbalefnileaaDoorW.PrintWords Go.Proofs.YtkkkbalefnileaaDoorW.PrintLast Go.Proofs.YtkkkbalefnileaaDoorW.PrintMore
set_option linter.unusedVariables false

/-- The library's table, as its initialiser lays it. -/
def LaidT (w : World) : Prop := Go.Proofs.TabAt 1 Lib.deBruijn64tab w
theorem LaidT.below {w w' : World} (h : LaidT w) (hb : Below w.heap.size w w') : LaidT w' := fun i hi => pw_cell_below hb (h i hi)
end Go.Proofs.YtkkkbalefnileaaDoor.Ex
/- A byte as a word. -/
namespace Go.Proofs.YtkkkbalefnileaaDoor.Ex
theorem u8_u64 (x : Int) : IntKind.u64.wrap (IntKind.u8.wrap x) = x % 256 := by
  have h1 := Int.emod_nonneg x (show (256 : Int) ≠ 0 by decide)
  have h2 := Int.emod_lt_of_pos x (show (0 : Int) < 256 by decide)
  exact Int.emod_eq_of_lt h1 (by show x % 256 < 18446744073709551616; omega)
end Go.Proofs.YtkkkbalefnileaaDoor.Ex
-- PRINTED by print.py (a twelfth state) out of the translation. Not trusted: Lean checks it.
namespace Go.Proofs.YtkkkbalefnileaaDoor.T
open Go.RowKit Go.Proofs.YtkkkbalefnileaaDoorW.PrintWords Go.Proofs.YtkkkbalefnileaaDoorW.PrintLast Go.Proofs.YtkkkbalefnileaaDoorW.PrintMore
attribute [local go_sem] max2_int min2_int max_two min_two max_three min_three max_four min_four   -- for this text's walks alone
open YtkkkbalefnileaaDoor.Ex
set_option linter.unusedVariables false
set_option linter.unusedSimpArgs false

/-! ### reckonerref02_Joined: function 17 -/
-- OURS: function 33 (nat_DivMod)

-- OURS: function 34 (nat_Pow)

-- OURS: function 37 (nat_Sub)

-- OURS: function 38 (nat_Square)

/-! ### reckonerref02_Mul: function 80 -/
def reckonerref02_Mul.f (k : Nat) (l0 : List Int) (l1 : List Int) : Option (List Int) := (reckonerref01_Digits.f k l0).bind fun t295 => ((reckonerref01_Digits.f k l1).bind fun t298 => ((reckonerref01_Times.f k t295 t298).bind fun t301 => ((reckonerref02_nat.f k t301).bind fun t304 => (some t304))))
set_option maxHeartbeats 8000000 in
set_option maxRecDepth 100000 in
theorem reckonerref02_Mul.calls (k : Nat) (A0 : Option Addr) (c0 : Nat) (l0 : List Int) (A1 : Option Addr) (c1 : Nat) (l1 : List Int) (r : List Int) (w : World) (hr0 : Kd.C (Kd.int .u64) w A0 l0.length l0) (hc0 : l0.length ≤ c0) (hr1 : Kd.C (Kd.int .u64) w A1 l1.length l1) (hc1 : l1.length ≤ c1) (h : reckonerref02_Mul.f k l0 l1 = some r) :
  Calls Tryd.prog 80 #[.slice A0 l0.length c0, .slice A1 l1.length c1] w fun e w' => ∃ v0_ : Value, e = .returned (v0_) ∧ Kd.R (Kd.int .u64) 36 w' w.heap.size (fun _ => True) v0_ r ∧ Below w.heap.size w w' := by
 have HR0 := Aside0.mk hr0
 have HC0 := Aside0.mk hc0
 clear hr0 hc0
 have HR1 := Aside0.mk hr1
 have HC1 := Aside0.mk hc1
 clear hr1 hc1
 have HB := Aside0.mk (Below.refl w.heap.size w)
 have H : ((reckonerref01_Digits.f k l0).bind fun t295 => ((reckonerref01_Digits.f k l1).bind fun t298 => ((reckonerref01_Times.f k t295 t298).bind fun t301 => ((reckonerref02_nat.f k t301).bind fun t304 => (some t304))))) = some r := h
 clear h
 replace H := Option.bind_eq_some_iff.mp H
 obtain ⟨t295, A30, H⟩ := H
 replace H : ((reckonerref01_Digits.f k l1).bind fun t298 => ((reckonerref01_Times.f k t295 t298).bind fun t301 => ((reckonerref02_nat.f k t301).bind fun t304 => (some t304)))) = some r := H
 have A3 := Aside0.mk A30
 clear A30
 replace H := Option.bind_eq_some_iff.mp H
 obtain ⟨t298, A40, H⟩ := H
 replace H : ((reckonerref01_Times.f k t295 t298).bind fun t301 => ((reckonerref02_nat.f k t301).bind fun t304 => (some t304))) = some r := H
 have A4 := Aside0.mk A40
 clear A40
 replace H := Option.bind_eq_some_iff.mp H
 obtain ⟨t301, A50, H⟩ := H
 replace H : ((reckonerref02_nat.f k t301).bind fun t304 => (some t304)) = some r := H
 have A5 := Aside0.mk A50
 clear A50
 replace H := Option.bind_eq_some_iff.mp H
 obtain ⟨t304, A60, H⟩ := H
 replace H : (some t304) = some r := H
 have A6 := Aside0.mk A60
 clear A60
 obtain rfl := Option.some.inj H
 go_enter Tryd.func80, Tryd.ntmps80
 go_wp2_with (first | ((with_reducible refine gate_callee (f := 53) rfl ?_); refine goesL_ (some 6) rfl rfl Tryd.func53 (by kernel_rfl) rfl #[.slice A0 l0.length c0] rfl (by (try simp only [List.map_toArray, List.map_cons, List.map_nil]); first | done | rfl | (simp only [List.length_drop, List.length_take]; rfl)) ?_; (with_reducible refine (reckonerref01_Digits.calls k _ _ l0 t295 _ ?side1 ?side2 A3.out).mono ?_); (case side1 => repeat (first | exact HR0.out | (with_reducible refine Kd.C_alloc ?_ _) | (with_reducible refine Kd.C_drewN ?_ _) | (with_reducible refine Kd.C_drew ?_))); (case side2 => exact HC0.out); rintro e w7 ⟨v296, rfl, ho0, hb⟩; refine ⟨_, rfl, ?_⟩; have n0_ := Aside0.mk (Kd.R_lower ho0 (below_size (by repeat (first | (with_reducible first | exact HB.out | apply below_alloc | apply pw_below_drewN | apply below_drew1) | exact HB.out)))); have n1_ := Aside0.mk (below_step (by repeat (first | (with_reducible first | exact HB.out | apply below_alloc | apply pw_below_drewN | apply below_drew1) | exact HB.out)) hb); clear HB; have HO297 := n0_; have HB := n1_; clear n0_ n1_; (try clear hb); (try clear hb2); (try clear hk); (try clear hi); (try clear ho0)) | ((with_reducible refine gate_callee (f := 53) rfl ?_); refine goesL_ (some 8) rfl rfl Tryd.func53 (by kernel_rfl) rfl #[.slice A1 l1.length c1] rfl (by (try simp only [List.map_toArray, List.map_cons, List.map_nil]); first | done | rfl | (simp only [List.length_drop, List.length_take]; rfl)) ?_; (with_reducible refine (reckonerref01_Digits.calls k _ _ l1 t298 _ ?side1 ?side2 A4.out).mono ?_); (case side1 => repeat (first | exact (Kd.C_below HR1.out HB.out) | (with_reducible refine Kd.C_alloc ?_ _) | (with_reducible refine Kd.C_drewN ?_ _) | (with_reducible refine Kd.C_drew ?_))); (case side2 => exact HC1.out); rintro e w8 ⟨v299, rfl, ho0, hb⟩; refine ⟨_, rfl, ?_⟩; have n0_ := Aside0.mk (Kd.R_elder' (by (with_reducible repeat (first | apply Kd.R_alloc | apply Kd.R_drewN | apply Kd.R_drew)); exact HO297.out) (Kd.R_base ho0) hb); have n1_ := Aside0.mk (Kd.R_lower (Kd.R_new' ho0 (Kd.R_lt (by (with_reducible repeat (first | apply Kd.R_alloc | apply Kd.R_drewN | apply Kd.R_drew)); exact HO297.out))) (below_size (by repeat (first | (with_reducible first | exact HB.out | apply below_alloc | apply pw_below_drewN | apply below_drew1) | exact HB.out)))); have n2_ := Aside0.mk (below_step (by repeat (first | (with_reducible first | exact HB.out | apply below_alloc | apply pw_below_drewN | apply below_drew1) | exact HB.out)) hb); clear HO297; clear HB; have HO297 := n0_; have HO300 := n1_; have HB := n2_; clear n0_ n1_ n2_; (try clear hb); (try clear hb2); (try clear hk); (try clear hi); (try clear ho0); obtain ⟨Ao9, co9, eo9⟩ := Kd.R_slice HO297.out; subst eo9; obtain ⟨Ao10, co10, eo10⟩ := Kd.R_slice HO300.out; subst eo10) | ((with_reducible refine gate_callee (f := 98) rfl ?_); refine goesL_ (some 9) rfl rfl Tryd.func98 (by kernel_rfl) rfl #[.slice Ao9 t295.length co9, .slice Ao10 t298.length co10] rfl (by (try simp only [List.map_toArray, List.map_cons, List.map_nil]); first | done | rfl | (simp only [List.length_drop, List.length_take]; rfl)) ?_; (with_reducible refine (reckonerref01_Times.calls k _ _ t295 _ _ t298 t301 _ ?side1 ?side2 ?side3 ?side4 A5.out).mono ?_); (case side1 => repeat (first | exact (Kd.R_reads' HO297.out).2.2 | (with_reducible refine Kd.C_alloc ?_ _) | (with_reducible refine Kd.C_drewN ?_ _) | (with_reducible refine Kd.C_drew ?_))); (case side2 => exact (Kd.R_reads' HO297.out).2.1); (case side3 => repeat (first | exact (Kd.R_reads' HO300.out).2.2 | (with_reducible refine Kd.C_alloc ?_ _) | (with_reducible refine Kd.C_drewN ?_ _) | (with_reducible refine Kd.C_drew ?_))); (case side4 => exact (Kd.R_reads' HO300.out).2.1); rintro e w11 ⟨v302, rfl, ho0, hb⟩; refine ⟨_, rfl, ?_⟩; have n0_ := Aside0.mk (Kd.R_elder' (by (with_reducible repeat (first | apply Kd.R_alloc | apply Kd.R_drewN | apply Kd.R_drew)); exact HO297.out) (Kd.R_base ho0) hb); have n1_ := Aside0.mk (Kd.R_elder' (by (with_reducible repeat (first | apply Kd.R_alloc | apply Kd.R_drewN | apply Kd.R_drew)); exact HO300.out) (Kd.R_base ho0) hb); have n2_ := Aside0.mk (Kd.R_lower (Kd.R_new' (Kd.R_new' ho0 (Kd.R_lt (by (with_reducible repeat (first | apply Kd.R_alloc | apply Kd.R_drewN | apply Kd.R_drew)); exact HO297.out))) (Kd.R_lt (by (with_reducible repeat (first | apply Kd.R_alloc | apply Kd.R_drewN | apply Kd.R_drew)); exact HO300.out))) (below_size (by repeat (first | (with_reducible first | exact HB.out | apply below_alloc | apply pw_below_drewN | apply below_drew1) | exact HB.out)))); have n3_ := Aside0.mk (below_step (by repeat (first | (with_reducible first | exact HB.out | apply below_alloc | apply pw_below_drewN | apply below_drew1) | exact HB.out)) hb); clear HO297; clear HO300; clear HB; have HO297 := n0_; have HO300 := n1_; have HO303 := n2_; have HB := n3_; clear n0_ n1_ n2_ n3_; (try clear hb); (try clear hb2); (try clear hk); (try clear hi); (try clear ho0); obtain ⟨Ao12, co12, eo12⟩ := Kd.R_slice HO303.out; subst eo12) | ((with_reducible refine gate_callee (f := 52) rfl ?_); refine goesL_ (some 10) rfl rfl Tryd.func52 (by kernel_rfl) rfl #[.slice Ao12 t301.length co12] rfl (by (try simp only [List.map_toArray, List.map_cons, List.map_nil]); first | done | rfl | (simp only [List.length_drop, List.length_take]; rfl)) ?_; (with_reducible refine (reckonerref02_nat.calls k _ _ t301 t304 _ ?side1 ?side2 A6.out).mono ?_); (case side1 => repeat (first | exact (Kd.R_reads' HO303.out).2.2 | (with_reducible refine Kd.C_alloc ?_ _) | (with_reducible refine Kd.C_drewN ?_ _) | (with_reducible refine Kd.C_drew ?_))); (case side2 => exact (Kd.R_reads' HO303.out).2.1); rintro e w13 ⟨v305, rfl, ho0, hb⟩; refine ⟨_, rfl, ?_⟩; have n0_ := Aside0.mk (Kd.R_elder' (by (with_reducible repeat (first | apply Kd.R_alloc | apply Kd.R_drewN | apply Kd.R_drew)); exact HO297.out) (Kd.R_base ho0) hb); have n1_ := Aside0.mk (Kd.R_elder' (by (with_reducible repeat (first | apply Kd.R_alloc | apply Kd.R_drewN | apply Kd.R_drew)); exact HO300.out) (Kd.R_base ho0) hb); have n2_ := Aside0.mk (Kd.R_elder' (by (with_reducible repeat (first | apply Kd.R_alloc | apply Kd.R_drewN | apply Kd.R_drew)); exact HO303.out) (Kd.R_base ho0) hb); have n3_ := Aside0.mk (Kd.R_lower (Kd.R_new' (Kd.R_new' (Kd.R_new' ho0 (Kd.R_lt (by (with_reducible repeat (first | apply Kd.R_alloc | apply Kd.R_drewN | apply Kd.R_drew)); exact HO297.out))) (Kd.R_lt (by (with_reducible repeat (first | apply Kd.R_alloc | apply Kd.R_drewN | apply Kd.R_drew)); exact HO300.out))) (Kd.R_lt (by (with_reducible repeat (first | apply Kd.R_alloc | apply Kd.R_drewN | apply Kd.R_drew)); exact HO303.out))) (below_size (by repeat (first | (with_reducible first | exact HB.out | apply below_alloc | apply pw_below_drewN | apply below_drew1) | exact HB.out)))); have n4_ := Aside0.mk (below_step (by repeat (first | (with_reducible first | exact HB.out | apply below_alloc | apply pw_below_drewN | apply below_drew1) | exact HB.out)) hb); clear HO297; clear HO300; clear HO303; clear HB; have HO297 := n0_; have HO300 := n1_; have HO303 := n2_; have HO306 := n3_; have HB := n4_; clear n0_ n1_ n2_ n3_ n4_; (try clear hb); (try clear hb2); (try clear hk); (try clear hi); (try clear ho0)))
 go_ret
 exact ⟨_, by first | rfl | (simp [errW_none, errW_some] <;> rfl) | (simp [*, errW_none, errW_some] <;> rfl), by (with_reducible repeat (first | apply Kd.R_alloc | apply Kd.R_drewN | apply Kd.R_drew)); exact Kd.R_mono HO306.out (fun _ hk => trivial), by repeat (first | (with_reducible first | exact HB.out | apply below_alloc | apply pw_below_drewN | apply below_drew1) | exact HB.out)⟩
/-! ### reckonerref02_Parse: function 51 -/
def reckonerref02_Parse.l0 : Nat → ByteArray → List Int → Int → Option (List Int)
  | 0, _, _, _ => none
  | k + 1, x0, x3, x4 => if x4 < (x0.size : Int) then ((reckonerref02_FromWord.f k 10).bind fun t307 => ((reckonerref02_Mul.f k x3 t307).bind fun t310 => (if 0 ≤ x4 then ((reckonerref02_FromWord.f k (((bt x0 x4) - 48) % 256)).bind fun t313 => ((reckonerref02_Add.f k t310 t313).bind fun t316 => (reckonerref02_Parse.l0 k x0 t316 (wrap64 (x4 + 1))))) else (none)))) else (some x3)
def reckonerref02_Parse.f (k : Nat) (a0 : ByteArray) : Option (List Int) := reckonerref02_Parse.l0 k a0 ([] : List Int) 0
def reckonerref02_Parse.T5 : Bool × List (List Nat × List Nat) := (true, [([], []), ([], []), ([0, 1, 1], [0, 1]), ([], []), ([], []), ([3, 4], [3, 4]), ([5], [5]), ([6], [6]), ([7, 2], [7]), ([2, 8, 8], [2, 8]), ([9, 9, 0, 1, 2, 3, 4, 5, 6, 7, 8, 9], [0, 9])])
def reckonerref02_Parse.B5 : List Nat := [0, 0, 3, 0, 0, 24, 56, 120, 255, 511, 1023]
theorem reckonerref02_Parse.tab5 : rtab .any (opsOf Tryd.f51 5) = reckonerref02_Parse.T5 := by kernel_rfl
theorem reckonerref02_Parse.bits5 : waitsOk reckonerref02_Parse.T5.2 reckonerref02_Parse.B5 = true := by kernel_rfl
set_option maxHeartbeats 8000000 in
set_option maxRecDepth 100000 in
theorem reckonerref02_Parse.calls (k : Nat) (a0 : ByteArray) (r : List Int) (w : World) (h : reckonerref02_Parse.f k a0 = some r) :
  Calls Tryd.prog 51 #[.string a0] w fun e w' => ∃ v0_ : Value, e = .returned (v0_) ∧ Kd.R (Kd.int .u64) 36 w' w.heap.size (fun _ => True) v0_ r ∧ Below w.heap.size w w' := by
 have HB := Aside0.mk (Below.refl w.heap.size w)
 have H : (reckonerref02_Parse.l0 k a0 ([] : List Int) 0) = some r := h
 clear h
 have H' := Aside0.mk H
 clear H
 go_enter Tryd.func51, Tryd.ntmps51
 go_wp2
 go_loopg [3, 4] k (fun kq v3 v4 w' => ∃ (x3_1 : List Int) (x4_1 : Int), v4 = .int .i64 x4_1 ∧ Aside0 (reckonerref02_Parse.l0 kq a0 x3_1 x4_1 = some r) ∧ Aside0 (kq ≤ k) ∧ Aside0 (Kd.R (Kd.int .u64) 36 w' w.heap.size (fun _ => True) v3 x3_1) ∧ Aside0 (Below w.heap.size w w'))
 case atStart => exact ⟨(([] : List Int)), (0), (by first | rfl | (simp; done) | (simp [*]; done)), H', ⟨Nat.le_refl _⟩, ⟨by first | exact Kd.R_nil _ _ _ _ _ | exact Kd.N_nil _ _ _ _ _ | exact Kd.V_nil _ _ _ _ _ | exact Kd.Q_nil _ _ _ _ _ | exact Kd.S_nil _ _ _ _ _⟩, ⟨by repeat (first | (with_reducible first | exact HB.out | apply below_alloc | apply pw_below_drewN | apply below_drew1) | exact HB.out)⟩⟩
 case round =>
  clear H'
  obtain ⟨x3_1, x4_1, rfl, HA, HK1, HO_3, HB⟩ := hrel
  cases gk with
  | zero => exact absurd HA.out (by simp [reckonerref02_Parse.l0])
  | succ k1 =>
   have H := HA.out
   clear HA
   simp only [reckonerref02_Parse.l0] at H
   by_cases c2 : x4_1 < (a0.size : Int)
   ·rw [if_pos c2] at H
    have c2b0 : decide (x4_1 < (a0.size : Int)) = true := decide_eq_true c2
    clear c2
    replace H := Option.bind_eq_some_iff.mp H
    obtain ⟨t307, A30, H⟩ := H
    replace H : ((reckonerref02_Mul.f k1 x3_1 t307).bind fun t310 => (if 0 ≤ x4_1 then ((reckonerref02_FromWord.f k1 (((bt a0 x4_1) - 48) % 256)).bind fun t313 => ((reckonerref02_Add.f k1 t310 t313).bind fun t316 => (reckonerref02_Parse.l0 k1 a0 t316 (wrap64 (x4_1 + 1))))) else (none))) = some r := H
    have A3 := Aside0.mk A30
    clear A30
    replace H := Option.bind_eq_some_iff.mp H
    obtain ⟨t310, A40, H⟩ := H
    replace H : (if 0 ≤ x4_1 then ((reckonerref02_FromWord.f k1 (((bt a0 x4_1) - 48) % 256)).bind fun t313 => ((reckonerref02_Add.f k1 t310 t313).bind fun t316 => (reckonerref02_Parse.l0 k1 a0 t316 (wrap64 (x4_1 + 1))))) else (none)) = some r := H
    have A4 := Aside0.mk A40
    clear A40
    by_cases c5 : 0 ≤ x4_1
    ·rw [if_pos c5] at H
     have c5b0 : decide (0 ≤ x4_1) = true := decide_eq_true c5
     clear c5
     replace H := Option.bind_eq_some_iff.mp H
     obtain ⟨t313, A70, H⟩ := H
     replace H : ((reckonerref02_Add.f k1 t310 t313).bind fun t316 => (reckonerref02_Parse.l0 k1 a0 t316 (wrap64 (x4_1 + 1)))) = some r := H
     have A7 := Aside0.mk A70
     clear A70
     replace H := Option.bind_eq_some_iff.mp H
     obtain ⟨t316, A80, H⟩ := H
     replace H : (reckonerref02_Parse.l0 k1 a0 t316 (wrap64 (x4_1 + 1))) = some r := H
     have A8 := Aside0.mk A80
     clear A80
     have H' := Aside0.mk H
     clear H
     try go_wp2
     have n0_ := Aside0.mk (Kd.R_drew HO_3.out)
     have n1_ := Aside0.mk (below_drew1 HB.out)
     clear HO_3
     clear HB
     have HO_3 := n0_
     have HB := n1_
     clear n0_ n1_
     have p6 : 0 ≤ (x4_1 : Int) := of_decide_eq_true (by first | (with_reducible assumption) | assumption)
     have q6 : x4_1 < (a0.size : Int) := of_decide_eq_true (by first | (with_reducible assumption) | assumption)
     have hx6 := bt_at a0 x4_1
     replace p6 := eq_true p6
     replace q6 := eq_true q6
     refine start_ (n := 11) (S := fun w' => True) (ds := []) #[false, false, false, false, false, false, false, false, false, false, false] (by kernel_rfl) rfl rfl trivial (fun hHeld => ?_); refine with_tabW reckonerref02_Parse.tab5 reckonerref02_Parse.bits5 (fun HT_ HW_ => ?_)
     generalize wr.drew = w9 at HO_3 HB hHeld ⊢
     refine pure_ (i := 0) (N := some 11) (v := ?_) (a' := ?_) #[true, false, false, false, false, false, false, false, false, false, false] rfl rfl (any_of HT_.out (by kernel_rfl)) (fun _ _ _ h => h) (Or.inl ⟨by rfl, ?_⟩) ?_ ?_
     rotate_left
     ·intro w'
      go_simp
      with_reducible rfl
     rotate_left
     ·simp only [Act.put, List.setIfInBounds_toArray, List.set_cons_zero, List.set_cons_succ, i64_w, i32_w]
      rfl
     refine pure_ (i := 3) (N := some 14) (v := ?_) (a' := ?_) #[true, false, false, true, false, false, false, false, false, false, false] rfl rfl (any_of HT_.out (by kernel_rfl)) (fun _ _ _ h => h) (Or.inl ⟨by rfl, ?_⟩) ?_ ?_
     rotate_left
     ·intro w'
      go_simp
      with_reducible rfl
     rotate_left
     ·simp only [Act.put, List.setIfInBounds_toArray, List.set_cons_zero, List.set_cons_succ, i64_w, i32_w]
      rfl
     refine pure_ (i := 4) (N := some 15) (v := ?_) (a' := ?_) #[true, false, false, true, true, false, false, false, false, false, false] rfl rfl (any_of HT_.out (by kernel_rfl)) (fun _ _ _ h => h) (Or.inl ⟨by rfl, ?_⟩) ?_ ?_
     rotate_left
     ·intro w'
      go_simp
      with_reducible rfl
     rotate_left
     ·simp only [Act.put, List.setIfInBounds_toArray, List.set_cons_zero, List.set_cons_succ, i64_w, i32_w]
      rfl
     refine take_ (i := 5) (N := some 16) (v := ?_) (a' := ?_) #[true, false, false, true, true, true, false, false, false, false, false] rfl rfl (take_ofW HT_.out HW_.out (by kernel_rfl)) (fun _ _ _ h => h) (Or.inl ⟨by rfl, ?_⟩) hHeld ?_ ?_
     rotate_left
     ·intro w' _
      go_simp
      with_reducible rfl
     rotate_left
     ·simp only [Act.put, List.setIfInBounds_toArray, List.set_cons_zero, List.set_cons_succ, i64_w, i32_w]
      rfl
     refine pure_ (i := 6) (N := some 17) (v := ?_) (a' := ?_) #[true, false, false, true, true, true, true, false, false, false, false] rfl rfl (any_of HT_.out (by kernel_rfl)) (fun _ _ _ h => h) (Or.inl ⟨by rfl, ?_⟩) ?_ ?_
     rotate_left
     ·intro w'
      go_simp
      with_reducible rfl
     rotate_left
     ·simp only [Act.put, List.setIfInBounds_toArray, List.set_cons_zero, List.set_cons_succ, i64_w, i32_w]
      rfl
     refine pure_ (i := 7) (N := some 18) (v := ?_) (a' := ?_) #[true, false, false, true, true, true, true, true, false, false, false] rfl rfl (any_of HT_.out (by kernel_rfl)) (fun _ _ _ h => h) (Or.inl ⟨by rfl, ?_⟩) ?_ ?_
     rotate_left
     ·intro w'
      go_simp
      with_reducible rfl
     rotate_left
     ·simp only [Act.put, List.setIfInBounds_toArray, List.set_cons_zero, List.set_cons_succ, i64_w, i32_w]
      rfl
     refine one_ (i := 1) (N := some 12) #[true, true, false, true, true, true, true, true, false, false, false] rfl rfl (one_of HT_.out (by kernel_rfl)) (by decide) (fun K hK => ?_)
     refine goes_ Tryd.func46 (by kernel_rfl) rfl #[.int .u64 10] (by rfl) rfl rfl (by (try simp only [List.map_toArray, List.map_cons, List.map_nil]); first | done | rfl | exact congrArg (fun z => #[Value.int .u64 z]) (u8_u64 _) | (simp only [List.length_drop, List.length_take]; rfl)) ?_
     with_reducible refine (reckonerref02_FromWord.calls k1 10 t307 _ A3.out).mono ?_
     rintro e w10 ⟨v308, rfl, ho0, hb⟩
     refine ⟨_, rfl, ?_⟩
     have n0_ := Aside0.mk (Kd.R_elder' (by (with_reducible repeat (first | apply Kd.R_alloc | apply Kd.R_drewN | apply Kd.R_drew)); exact HO_3.out) (Kd.R_base ho0) hb)
     have n1_ := Aside0.mk (Kd.R_lower (Kd.R_new' ho0 (Kd.R_lt (by (with_reducible repeat (first | apply Kd.R_alloc | apply Kd.R_drewN | apply Kd.R_drew)); exact HO_3.out))) (below_size (by repeat (first | (with_reducible first | exact HB.out | apply below_alloc | apply pw_below_drewN | apply below_drew1) | exact HB.out))))
     have n2_ := Aside0.mk (below_step (by repeat (first | (with_reducible first | exact HB.out | apply below_alloc | apply pw_below_drewN | apply below_drew1) | exact HB.out)) hb)
     clear HO_3
     clear HB
     have HO_3 := n0_
     have HO309 := n1_
     have HB := n2_
     clear n0_ n1_ n2_
     (try clear hb)
     (try clear hb2)
     (try clear hk)
     (try clear hi)
     (try clear ho0)
     obtain ⟨Ao11, co11, eo11⟩ := Kd.R_slice HO_3.out
     (first | subst eo11 | (injection eo11 with f1_ f2_ f3_; have f4_ := f1_.symm; have f5_ := f3_.symm; clear f1_ f2_ f3_; subst f4_; subst f5_))
     obtain ⟨Ao12, co12, eo12⟩ := Kd.R_slice HO309.out
     (first | subst eo12 | (injection eo12 with f1_ f2_ f3_; have f4_ := f1_.symm; have f5_ := f3_.symm; clear f1_ f2_ f3_; subst f4_; subst f5_))
     refine hK.out _ _ trivial (fun hHeld => ?_)
     clear hK K
     refine norm_ (a' := ?_) ?_ ?_
     rotate_left
     ·show Act.put _ (some 12) _ = _
      simp only [Act.put, List.setIfInBounds_toArray, List.set_cons_zero, List.set_cons_succ, i64_w, i32_w]
      rfl
     refine one_ (i := 2) (N := some 13) #[true, true, true, true, true, true, true, true, false, false, false] rfl rfl (one_of HT_.out (by kernel_rfl)) (by decide) (fun K hK => ?_)
     refine goes_ Tryd.func80 (by kernel_rfl) rfl #[.slice Ao11 x3_1.length co11, .slice Ao12 t307.length co12] (by rfl) rfl rfl (by (try simp only [List.map_toArray, List.map_cons, List.map_nil]); first | done | rfl | exact congrArg (fun z => #[Value.int .u64 z]) (u8_u64 _) | (simp only [List.length_drop, List.length_take]; rfl)) ?_
     with_reducible refine (reckonerref02_Mul.calls k1 _ _ x3_1 _ _ t307 t310 _ ?side1 ?side2 ?side3 ?side4 A4.out).mono ?_
     (case side1 => repeat (first | exact (Kd.R_reads' HO_3.out).2.2 | (with_reducible refine Kd.C_alloc ?_ _) | (with_reducible refine Kd.C_drewN ?_ _) | (with_reducible refine Kd.C_drew ?_)))
     (case side2 => exact (Kd.R_reads' HO_3.out).2.1)
     (case side3 => repeat (first | exact (Kd.R_reads' HO309.out).2.2 | (with_reducible refine Kd.C_alloc ?_ _) | (with_reducible refine Kd.C_drewN ?_ _) | (with_reducible refine Kd.C_drew ?_)))
     (case side4 => exact (Kd.R_reads' HO309.out).2.1)
     rintro e w13 ⟨v311, rfl, ho0, hb⟩
     refine ⟨_, rfl, ?_⟩
     have n0_ := Aside0.mk (Kd.R_elder' (by (with_reducible repeat (first | apply Kd.R_alloc | apply Kd.R_drewN | apply Kd.R_drew)); exact HO_3.out) (Kd.R_base ho0) hb)
     have n1_ := Aside0.mk (Kd.R_elder' (by (with_reducible repeat (first | apply Kd.R_alloc | apply Kd.R_drewN | apply Kd.R_drew)); exact HO309.out) (Kd.R_base ho0) hb)
     have n2_ := Aside0.mk (Kd.R_lower (Kd.R_new' (Kd.R_new' ho0 (Kd.R_lt (by (with_reducible repeat (first | apply Kd.R_alloc | apply Kd.R_drewN | apply Kd.R_drew)); exact HO_3.out))) (Kd.R_lt (by (with_reducible repeat (first | apply Kd.R_alloc | apply Kd.R_drewN | apply Kd.R_drew)); exact HO309.out))) (below_size (by repeat (first | (with_reducible first | exact HB.out | apply below_alloc | apply pw_below_drewN | apply below_drew1) | exact HB.out))))
     have n3_ := Aside0.mk (below_step (by repeat (first | (with_reducible first | exact HB.out | apply below_alloc | apply pw_below_drewN | apply below_drew1) | exact HB.out)) hb)
     clear HO_3
     clear HO309
     clear HB
     have HO_3 := n0_
     have HO309 := n1_
     have HO312 := n2_
     have HB := n3_
     clear n0_ n1_ n2_ n3_
     (try clear hb)
     (try clear hb2)
     (try clear hk)
     (try clear hi)
     (try clear ho0)
     refine hK.out _ _ trivial (fun hHeld => ?_)
     clear hK K
     refine norm_ (a' := ?_) ?_ ?_
     rotate_left
     ·show Act.put _ (some 13) _ = _
      simp only [Act.put, List.setIfInBounds_toArray, List.set_cons_zero, List.set_cons_succ, i64_w, i32_w]
      rfl
     refine one_ (i := 8) (N := some 19) #[true, true, true, true, true, true, true, true, true, false, false] rfl rfl (one_of HT_.out (by kernel_rfl)) (by decide) (fun K hK => ?_)
     refine goes_ Tryd.func46 (by kernel_rfl) rfl #[.int .u64 (((bt a0 x4_1) - 48) % 256)] (by rfl) rfl rfl (by (try simp only [List.map_toArray, List.map_cons, List.map_nil]); first | done | rfl | exact congrArg (fun z => #[Value.int .u64 z]) (u8_u64 _) | (simp only [List.length_drop, List.length_take]; rfl)) ?_
     with_reducible refine (reckonerref02_FromWord.calls k1 (((bt a0 x4_1) - 48) % 256) t313 _ A7.out).mono ?_
     rintro e w14 ⟨v314, rfl, ho0, hb⟩
     refine ⟨_, rfl, ?_⟩
     have n0_ := Aside0.mk (Kd.R_elder' (by (with_reducible repeat (first | apply Kd.R_alloc | apply Kd.R_drewN | apply Kd.R_drew)); exact HO_3.out) (Kd.R_base ho0) hb)
     have n1_ := Aside0.mk (Kd.R_elder' (by (with_reducible repeat (first | apply Kd.R_alloc | apply Kd.R_drewN | apply Kd.R_drew)); exact HO309.out) (Kd.R_base ho0) hb)
     have n2_ := Aside0.mk (Kd.R_elder' (by (with_reducible repeat (first | apply Kd.R_alloc | apply Kd.R_drewN | apply Kd.R_drew)); exact HO312.out) (Kd.R_base ho0) hb)
     have n3_ := Aside0.mk (Kd.R_lower (Kd.R_new' (Kd.R_new' (Kd.R_new' ho0 (Kd.R_lt (by (with_reducible repeat (first | apply Kd.R_alloc | apply Kd.R_drewN | apply Kd.R_drew)); exact HO_3.out))) (Kd.R_lt (by (with_reducible repeat (first | apply Kd.R_alloc | apply Kd.R_drewN | apply Kd.R_drew)); exact HO309.out))) (Kd.R_lt (by (with_reducible repeat (first | apply Kd.R_alloc | apply Kd.R_drewN | apply Kd.R_drew)); exact HO312.out))) (below_size (by repeat (first | (with_reducible first | exact HB.out | apply below_alloc | apply pw_below_drewN | apply below_drew1) | exact HB.out))))
     have n4_ := Aside0.mk (below_step (by repeat (first | (with_reducible first | exact HB.out | apply below_alloc | apply pw_below_drewN | apply below_drew1) | exact HB.out)) hb)
     clear HO_3
     clear HO309
     clear HO312
     clear HB
     have HO_3 := n0_
     have HO309 := n1_
     have HO312 := n2_
     have HO315 := n3_
     have HB := n4_
     clear n0_ n1_ n2_ n3_ n4_
     (try clear hb)
     (try clear hb2)
     (try clear hk)
     (try clear hi)
     (try clear ho0)
     obtain ⟨Ao15, co15, eo15⟩ := Kd.R_slice HO312.out
     (first | subst eo15 | (injection eo15 with f1_ f2_ f3_; have f4_ := f1_.symm; have f5_ := f3_.symm; clear f1_ f2_ f3_; subst f4_; subst f5_))
     obtain ⟨Ao16, co16, eo16⟩ := Kd.R_slice HO315.out
     (first | subst eo16 | (injection eo16 with f1_ f2_ f3_; have f4_ := f1_.symm; have f5_ := f3_.symm; clear f1_ f2_ f3_; subst f4_; subst f5_))
     refine hK.out _ _ trivial (fun hHeld => ?_)
     clear hK K
     refine norm_ (a' := ?_) ?_ ?_
     rotate_left
     ·show Act.put _ (some 19) _ = _
      simp only [Act.put, List.setIfInBounds_toArray, List.set_cons_zero, List.set_cons_succ, i64_w, i32_w]
      rfl
     refine one_ (i := 9) (N := some 20) #[true, true, true, true, true, true, true, true, true, true, false] rfl rfl (one_of HT_.out (by kernel_rfl)) (by decide) (fun K hK => ?_)
     refine goes_ Tryd.func47 (by kernel_rfl) rfl #[.slice Ao15 t310.length co15, .slice Ao16 t313.length co16] (by rfl) rfl rfl (by (try simp only [List.map_toArray, List.map_cons, List.map_nil]); first | done | rfl | exact congrArg (fun z => #[Value.int .u64 z]) (u8_u64 _) | (simp only [List.length_drop, List.length_take]; rfl)) ?_
     with_reducible refine (reckonerref02_Add.calls k1 _ _ t310 _ _ t313 t316 _ ?side1 ?side2 ?side3 ?side4 A8.out).mono ?_
     (case side1 => repeat (first | exact (Kd.R_reads' HO312.out).2.2 | (with_reducible refine Kd.C_alloc ?_ _) | (with_reducible refine Kd.C_drewN ?_ _) | (with_reducible refine Kd.C_drew ?_)))
     (case side2 => exact (Kd.R_reads' HO312.out).2.1)
     (case side3 => repeat (first | exact (Kd.R_reads' HO315.out).2.2 | (with_reducible refine Kd.C_alloc ?_ _) | (with_reducible refine Kd.C_drewN ?_ _) | (with_reducible refine Kd.C_drew ?_)))
     (case side4 => exact (Kd.R_reads' HO315.out).2.1)
     rintro e w17 ⟨v317, rfl, ho0, hb⟩
     refine ⟨_, rfl, ?_⟩
     have n0_ := Aside0.mk (Kd.R_elder' (by (with_reducible repeat (first | apply Kd.R_alloc | apply Kd.R_drewN | apply Kd.R_drew)); exact HO_3.out) (Kd.R_base ho0) hb)
     have n1_ := Aside0.mk (Kd.R_elder' (by (with_reducible repeat (first | apply Kd.R_alloc | apply Kd.R_drewN | apply Kd.R_drew)); exact HO309.out) (Kd.R_base ho0) hb)
     have n2_ := Aside0.mk (Kd.R_elder' (by (with_reducible repeat (first | apply Kd.R_alloc | apply Kd.R_drewN | apply Kd.R_drew)); exact HO312.out) (Kd.R_base ho0) hb)
     have n3_ := Aside0.mk (Kd.R_elder' (by (with_reducible repeat (first | apply Kd.R_alloc | apply Kd.R_drewN | apply Kd.R_drew)); exact HO315.out) (Kd.R_base ho0) hb)
     have n4_ := Aside0.mk (Kd.R_lower (Kd.R_new' (Kd.R_new' (Kd.R_new' (Kd.R_new' ho0 (Kd.R_lt (by (with_reducible repeat (first | apply Kd.R_alloc | apply Kd.R_drewN | apply Kd.R_drew)); exact HO_3.out))) (Kd.R_lt (by (with_reducible repeat (first | apply Kd.R_alloc | apply Kd.R_drewN | apply Kd.R_drew)); exact HO309.out))) (Kd.R_lt (by (with_reducible repeat (first | apply Kd.R_alloc | apply Kd.R_drewN | apply Kd.R_drew)); exact HO312.out))) (Kd.R_lt (by (with_reducible repeat (first | apply Kd.R_alloc | apply Kd.R_drewN | apply Kd.R_drew)); exact HO315.out))) (below_size (by repeat (first | (with_reducible first | exact HB.out | apply below_alloc | apply pw_below_drewN | apply below_drew1) | exact HB.out))))
     have n5_ := Aside0.mk (below_step (by repeat (first | (with_reducible first | exact HB.out | apply below_alloc | apply pw_below_drewN | apply below_drew1) | exact HB.out)) hb)
     clear HO_3
     clear HO309
     clear HO312
     clear HO315
     clear HB
     have HO_3 := n0_
     have HO309 := n1_
     have HO312 := n2_
     have HO315 := n3_
     have HO318 := n4_
     have HB := n5_
     clear n0_ n1_ n2_ n3_ n4_ n5_
     (try clear hb)
     (try clear hb2)
     (try clear hk)
     (try clear hi)
     (try clear ho0)
     refine hK.out _ _ trivial (fun hHeld => ?_)
     clear hK K
     refine norm_ (a' := ?_) ?_ ?_
     rotate_left
     ·show Act.put _ (some 20) _ = _
      simp only [Act.put, List.setIfInBounds_toArray, List.set_cons_zero, List.set_cons_succ, i64_w, i32_w]
      rfl
     refine pure_ (i := 10) (N := some 3) (v := ?_) (a' := ?_) #[true, true, true, true, true, true, true, true, true, true, true] rfl rfl (any_of HT_.out (by kernel_rfl)) (fun _ _ _ h => h) (Or.inl ⟨by rfl, ?_⟩) ?_ ?_
     rotate_left
     ·intro w'
      go_simp
      with_reducible rfl
     rotate_left
     ·simp only [Act.put, List.setIfInBounds_toArray, List.set_cons_zero, List.set_cons_succ, i64_w, i32_w]
      rfl
     refine done_ (done_of HT_.out (by kernel_rfl)) ?_
     try go_wp2
     go_roundg k1
     case measure => have := HK1.out; omega
     case rel => exact ⟨(t316), (wrap64 (x4_1 + 1)), (by first | rfl | (simp; done) | (simp [*]; done)), H', ⟨by have := HK1.out; omega⟩, ⟨by (with_reducible repeat (first | apply Kd.R_alloc | apply Kd.R_drewN | apply Kd.R_drew)); exact Kd.R_mono HO318.out (fun _ hk => trivial)⟩, ⟨by repeat (first | (with_reducible first | exact HB.out | apply below_alloc | apply pw_below_drewN | apply below_drew1) | exact HB.out)⟩⟩
    ·rw [if_neg c5] at H
     exact absurd H (by simp)
   ·rw [if_neg c2] at H
    have c2b0 : decide (x4_1 < (a0.size : Int)) = false := decide_eq_false c2
    clear c2
    obtain rfl := Option.some.inj H
    go_wp2
    go_ret
    exact ⟨_, by first | rfl | (simp [errW_none, errW_some] <;> rfl) | (simp [*, errW_none, errW_some] <;> rfl), by (with_reducible repeat (first | apply Kd.R_alloc | apply Kd.R_drewN | apply Kd.R_drew)); exact HO_3.out, by repeat (first | (with_reducible first | exact HB.out | apply below_alloc | apply pw_below_drewN | apply below_drew1) | exact HB.out)⟩
/-! ### reckonerlaw02_awake: function 18 -/
def reckonerlaw02_awake.f (k : Nat)  : Option (Bool) := (nat_Pow.f (([10] : List Int)) 20).bind fun bt322 => ((nat_Square.f (([18446744073709551615] : List Int))).bind fun bt329 => ((nat_DivMod.f (([7766279631452241920, 5] : List Int)) (([3] : List Int))).bind fun bt339 => ((nat_Sub.f (([1] : List Int)) (([2] : List Int))).bind fun bt352 => (if bt322.2 = 0 then ((reckonerref02_Parse.f k (⟨#[49, 48, 48, 48, 48, 48, 48, 48, 48, 48, 48, 48, 48, 48, 48, 48, 48, 48, 48, 48, 48]⟩ : ByteArray)).bind fun t356 => ((reckonerref02_Is.f k bt322.1 t356).bind fun t359 => (if t359 = true then (if bt329.2 = 0 then ((reckonerref02_Is.f k bt329.1 (([1, 18446744073709551614] : List Int))).bind fun t363 => (if t363 = true then (if bt339.2.2 = 0 then ((reckonerref02_Parse.f k (⟨#[51, 51, 51, 51, 51, 51, 51, 51, 51, 51, 51, 51, 51, 51, 51, 51, 51, 51, 51, 51]⟩ : ByteArray)).bind fun t364 => ((reckonerref02_Is.f k bt339.1 t364).bind fun t367 => (if t367 = true then ((reckonerref02_Is.f k bt339.2.1 (([1] : List Int))).bind fun t371 => (if t371 = true then (some (bt352.2 == 8)) else (none))) else (none)))) else (none)) else (none))) else (none)) else (none)))) else (none)))))
set_option maxHeartbeats 8000000 in
set_option maxRecDepth 100000 in
theorem reckonerlaw02_awake.calls (k : Nat)  (r : Bool) (w : World) (h : reckonerlaw02_awake.f k  = some r) :
  Calls Tryd.prog 18 #[] w fun e w' => e = .returned (.bool r) ∧ Below w.heap.size w w' := by
 have HB := Aside0.mk (Below.refl w.heap.size w)
 have H : ((nat_Pow.f (([10] : List Int)) 20).bind fun bt322 => ((nat_Square.f (([18446744073709551615] : List Int))).bind fun bt329 => ((nat_DivMod.f (([7766279631452241920, 5] : List Int)) (([3] : List Int))).bind fun bt339 => ((nat_Sub.f (([1] : List Int)) (([2] : List Int))).bind fun bt352 => (if bt322.2 = 0 then ((reckonerref02_Parse.f k (⟨#[49, 48, 48, 48, 48, 48, 48, 48, 48, 48, 48, 48, 48, 48, 48, 48, 48, 48, 48, 48, 48]⟩ : ByteArray)).bind fun t356 => ((reckonerref02_Is.f k bt322.1 t356).bind fun t359 => (if t359 = true then (if bt329.2 = 0 then ((reckonerref02_Is.f k bt329.1 (([1, 18446744073709551614] : List Int))).bind fun t363 => (if t363 = true then (if bt339.2.2 = 0 then ((reckonerref02_Parse.f k (⟨#[51, 51, 51, 51, 51, 51, 51, 51, 51, 51, 51, 51, 51, 51, 51, 51, 51, 51, 51, 51]⟩ : ByteArray)).bind fun t364 => ((reckonerref02_Is.f k bt339.1 t364).bind fun t367 => (if t367 = true then ((reckonerref02_Is.f k bt339.2.1 (([1] : List Int))).bind fun t371 => (if t371 = true then (some (bt352.2 == 8)) else (none))) else (none)))) else (none)) else (none))) else (none)) else (none)))) else (none)))))) = some r := h
 clear h
 obtain ⟨y319, hy319⟩ : ∃ y_ : List Int, y_ = (([10] : List Int)) := ⟨_, rfl⟩
 replace H : ((nat_Pow.f y319 20).bind fun bt322 => ((nat_Square.f (([18446744073709551615] : List Int))).bind fun bt329 => ((nat_DivMod.f (([7766279631452241920, 5] : List Int)) (([3] : List Int))).bind fun bt339 => ((nat_Sub.f (([1] : List Int)) (([2] : List Int))).bind fun bt352 => (if bt322.2 = 0 then ((reckonerref02_Parse.f k (⟨#[49, 48, 48, 48, 48, 48, 48, 48, 48, 48, 48, 48, 48, 48, 48, 48, 48, 48, 48, 48, 48]⟩ : ByteArray)).bind fun t356 => ((reckonerref02_Is.f k bt322.1 t356).bind fun t359 => (if t359 = true then (if bt329.2 = 0 then ((reckonerref02_Is.f k bt329.1 (([1, 18446744073709551614] : List Int))).bind fun t363 => (if t363 = true then (if bt339.2.2 = 0 then ((reckonerref02_Parse.f k (⟨#[51, 51, 51, 51, 51, 51, 51, 51, 51, 51, 51, 51, 51, 51, 51, 51, 51, 51, 51, 51]⟩ : ByteArray)).bind fun t364 => ((reckonerref02_Is.f k bt339.1 t364).bind fun t367 => (if t367 = true then ((reckonerref02_Is.f k bt339.2.1 (([1] : List Int))).bind fun t371 => (if t371 = true then (some (bt352.2 == 8)) else (none))) else (none)))) else (none)) else (none))) else (none)) else (none)))) else (none)))))) = some r := by first | (rw [hy319]; with_reducible exact H) | (have H2_ := (Option.bind_some _ _).symm.trans H; rw [hy319]; with_reducible exact H2_) | (have H2_ := (Option.bind_some _ _).symm.trans H; with_reducible exact H2_) | with_reducible exact H | (rw [hy319]; exact H) | exact H
 have Ny319 := Aside0.mk hy319
 clear hy319
 replace H := Option.bind_eq_some_iff.mp H
 obtain ⟨⟨t322, t323⟩, A10, H⟩ := H
 replace H : ((nat_Square.f (([18446744073709551615] : List Int))).bind fun bt329 => ((nat_DivMod.f (([7766279631452241920, 5] : List Int)) (([3] : List Int))).bind fun bt339 => ((nat_Sub.f (([1] : List Int)) (([2] : List Int))).bind fun bt352 => (if t323 = 0 then ((reckonerref02_Parse.f k (⟨#[49, 48, 48, 48, 48, 48, 48, 48, 48, 48, 48, 48, 48, 48, 48, 48, 48, 48, 48, 48, 48]⟩ : ByteArray)).bind fun t356 => ((reckonerref02_Is.f k t322 t356).bind fun t359 => (if t359 = true then (if bt329.2 = 0 then ((reckonerref02_Is.f k bt329.1 (([1, 18446744073709551614] : List Int))).bind fun t363 => (if t363 = true then (if bt339.2.2 = 0 then ((reckonerref02_Parse.f k (⟨#[51, 51, 51, 51, 51, 51, 51, 51, 51, 51, 51, 51, 51, 51, 51, 51, 51, 51, 51, 51]⟩ : ByteArray)).bind fun t364 => ((reckonerref02_Is.f k bt339.1 t364).bind fun t367 => (if t367 = true then ((reckonerref02_Is.f k bt339.2.1 (([1] : List Int))).bind fun t371 => (if t371 = true then (some (bt352.2 == 8)) else (none))) else (none)))) else (none)) else (none))) else (none)) else (none)))) else (none))))) = some r := H
 have A1 := Aside0.mk A10
 clear A10
 obtain ⟨y326, hy326⟩ : ∃ y_ : List Int, y_ = (([18446744073709551615] : List Int)) := ⟨_, rfl⟩
 replace H : ((nat_Square.f y326).bind fun bt329 => ((nat_DivMod.f (([7766279631452241920, 5] : List Int)) (([3] : List Int))).bind fun bt339 => ((nat_Sub.f (([1] : List Int)) (([2] : List Int))).bind fun bt352 => (if t323 = 0 then ((reckonerref02_Parse.f k (⟨#[49, 48, 48, 48, 48, 48, 48, 48, 48, 48, 48, 48, 48, 48, 48, 48, 48, 48, 48, 48, 48]⟩ : ByteArray)).bind fun t356 => ((reckonerref02_Is.f k t322 t356).bind fun t359 => (if t359 = true then (if bt329.2 = 0 then ((reckonerref02_Is.f k bt329.1 (([1, 18446744073709551614] : List Int))).bind fun t363 => (if t363 = true then (if bt339.2.2 = 0 then ((reckonerref02_Parse.f k (⟨#[51, 51, 51, 51, 51, 51, 51, 51, 51, 51, 51, 51, 51, 51, 51, 51, 51, 51, 51, 51]⟩ : ByteArray)).bind fun t364 => ((reckonerref02_Is.f k bt339.1 t364).bind fun t367 => (if t367 = true then ((reckonerref02_Is.f k bt339.2.1 (([1] : List Int))).bind fun t371 => (if t371 = true then (some (bt352.2 == 8)) else (none))) else (none)))) else (none)) else (none))) else (none)) else (none)))) else (none))))) = some r := by first | (rw [hy326]; with_reducible exact H) | (have H2_ := (Option.bind_some _ _).symm.trans H; rw [hy326]; with_reducible exact H2_) | (have H2_ := (Option.bind_some _ _).symm.trans H; with_reducible exact H2_) | with_reducible exact H | (rw [hy326]; exact H) | exact H
 have Ny326 := Aside0.mk hy326
 clear hy326
 replace H := Option.bind_eq_some_iff.mp H
 obtain ⟨⟨t329, t330⟩, A20, H⟩ := H
 replace H : ((nat_DivMod.f (([7766279631452241920, 5] : List Int)) (([3] : List Int))).bind fun bt339 => ((nat_Sub.f (([1] : List Int)) (([2] : List Int))).bind fun bt352 => (if t323 = 0 then ((reckonerref02_Parse.f k (⟨#[49, 48, 48, 48, 48, 48, 48, 48, 48, 48, 48, 48, 48, 48, 48, 48, 48, 48, 48, 48, 48]⟩ : ByteArray)).bind fun t356 => ((reckonerref02_Is.f k t322 t356).bind fun t359 => (if t359 = true then (if t330 = 0 then ((reckonerref02_Is.f k t329 (([1, 18446744073709551614] : List Int))).bind fun t363 => (if t363 = true then (if bt339.2.2 = 0 then ((reckonerref02_Parse.f k (⟨#[51, 51, 51, 51, 51, 51, 51, 51, 51, 51, 51, 51, 51, 51, 51, 51, 51, 51, 51, 51]⟩ : ByteArray)).bind fun t364 => ((reckonerref02_Is.f k bt339.1 t364).bind fun t367 => (if t367 = true then ((reckonerref02_Is.f k bt339.2.1 (([1] : List Int))).bind fun t371 => (if t371 = true then (some (bt352.2 == 8)) else (none))) else (none)))) else (none)) else (none))) else (none)) else (none)))) else (none)))) = some r := H
 have A2 := Aside0.mk A20
 clear A20
 obtain ⟨y333, hy333⟩ : ∃ y_ : List Int, y_ = (([7766279631452241920, 5] : List Int)) := ⟨_, rfl⟩
 replace H : ((nat_DivMod.f y333 (([3] : List Int))).bind fun bt339 => ((nat_Sub.f (([1] : List Int)) (([2] : List Int))).bind fun bt352 => (if t323 = 0 then ((reckonerref02_Parse.f k (⟨#[49, 48, 48, 48, 48, 48, 48, 48, 48, 48, 48, 48, 48, 48, 48, 48, 48, 48, 48, 48, 48]⟩ : ByteArray)).bind fun t356 => ((reckonerref02_Is.f k t322 t356).bind fun t359 => (if t359 = true then (if t330 = 0 then ((reckonerref02_Is.f k t329 (([1, 18446744073709551614] : List Int))).bind fun t363 => (if t363 = true then (if bt339.2.2 = 0 then ((reckonerref02_Parse.f k (⟨#[51, 51, 51, 51, 51, 51, 51, 51, 51, 51, 51, 51, 51, 51, 51, 51, 51, 51, 51, 51]⟩ : ByteArray)).bind fun t364 => ((reckonerref02_Is.f k bt339.1 t364).bind fun t367 => (if t367 = true then ((reckonerref02_Is.f k bt339.2.1 (([1] : List Int))).bind fun t371 => (if t371 = true then (some (bt352.2 == 8)) else (none))) else (none)))) else (none)) else (none))) else (none)) else (none)))) else (none)))) = some r := by first | (rw [hy333]; with_reducible exact H) | (have H2_ := (Option.bind_some _ _).symm.trans H; rw [hy333]; with_reducible exact H2_) | (have H2_ := (Option.bind_some _ _).symm.trans H; with_reducible exact H2_) | with_reducible exact H | (rw [hy333]; exact H) | exact H
 have Ny333 := Aside0.mk hy333
 clear hy333
 obtain ⟨y336, hy336⟩ : ∃ y_ : List Int, y_ = (([3] : List Int)) := ⟨_, rfl⟩
 replace H : ((nat_DivMod.f y333 y336).bind fun bt339 => ((nat_Sub.f (([1] : List Int)) (([2] : List Int))).bind fun bt352 => (if t323 = 0 then ((reckonerref02_Parse.f k (⟨#[49, 48, 48, 48, 48, 48, 48, 48, 48, 48, 48, 48, 48, 48, 48, 48, 48, 48, 48, 48, 48]⟩ : ByteArray)).bind fun t356 => ((reckonerref02_Is.f k t322 t356).bind fun t359 => (if t359 = true then (if t330 = 0 then ((reckonerref02_Is.f k t329 (([1, 18446744073709551614] : List Int))).bind fun t363 => (if t363 = true then (if bt339.2.2 = 0 then ((reckonerref02_Parse.f k (⟨#[51, 51, 51, 51, 51, 51, 51, 51, 51, 51, 51, 51, 51, 51, 51, 51, 51, 51, 51, 51]⟩ : ByteArray)).bind fun t364 => ((reckonerref02_Is.f k bt339.1 t364).bind fun t367 => (if t367 = true then ((reckonerref02_Is.f k bt339.2.1 (([1] : List Int))).bind fun t371 => (if t371 = true then (some (bt352.2 == 8)) else (none))) else (none)))) else (none)) else (none))) else (none)) else (none)))) else (none)))) = some r := by first | (rw [hy336]; with_reducible exact H) | (have H2_ := (Option.bind_some _ _).symm.trans H; rw [hy336]; with_reducible exact H2_) | (have H2_ := (Option.bind_some _ _).symm.trans H; with_reducible exact H2_) | with_reducible exact H | (rw [hy336]; exact H) | exact H
 have Ny336 := Aside0.mk hy336
 clear hy336
 replace H := Option.bind_eq_some_iff.mp H
 obtain ⟨⟨t339, t340, t341⟩, A30, H⟩ := H
 replace H : ((nat_Sub.f (([1] : List Int)) (([2] : List Int))).bind fun bt352 => (if t323 = 0 then ((reckonerref02_Parse.f k (⟨#[49, 48, 48, 48, 48, 48, 48, 48, 48, 48, 48, 48, 48, 48, 48, 48, 48, 48, 48, 48, 48]⟩ : ByteArray)).bind fun t356 => ((reckonerref02_Is.f k t322 t356).bind fun t359 => (if t359 = true then (if t330 = 0 then ((reckonerref02_Is.f k t329 (([1, 18446744073709551614] : List Int))).bind fun t363 => (if t363 = true then (if t341 = 0 then ((reckonerref02_Parse.f k (⟨#[51, 51, 51, 51, 51, 51, 51, 51, 51, 51, 51, 51, 51, 51, 51, 51, 51, 51, 51, 51]⟩ : ByteArray)).bind fun t364 => ((reckonerref02_Is.f k t339 t364).bind fun t367 => (if t367 = true then ((reckonerref02_Is.f k t340 (([1] : List Int))).bind fun t371 => (if t371 = true then (some (bt352.2 == 8)) else (none))) else (none)))) else (none)) else (none))) else (none)) else (none)))) else (none))) = some r := H
 have A3 := Aside0.mk A30
 clear A30
 obtain ⟨y346, hy346⟩ : ∃ y_ : List Int, y_ = (([1] : List Int)) := ⟨_, rfl⟩
 replace H : ((nat_Sub.f y346 (([2] : List Int))).bind fun bt352 => (if t323 = 0 then ((reckonerref02_Parse.f k (⟨#[49, 48, 48, 48, 48, 48, 48, 48, 48, 48, 48, 48, 48, 48, 48, 48, 48, 48, 48, 48, 48]⟩ : ByteArray)).bind fun t356 => ((reckonerref02_Is.f k t322 t356).bind fun t359 => (if t359 = true then (if t330 = 0 then ((reckonerref02_Is.f k t329 (([1, 18446744073709551614] : List Int))).bind fun t363 => (if t363 = true then (if t341 = 0 then ((reckonerref02_Parse.f k (⟨#[51, 51, 51, 51, 51, 51, 51, 51, 51, 51, 51, 51, 51, 51, 51, 51, 51, 51, 51, 51]⟩ : ByteArray)).bind fun t364 => ((reckonerref02_Is.f k t339 t364).bind fun t367 => (if t367 = true then ((reckonerref02_Is.f k t340 (([1] : List Int))).bind fun t371 => (if t371 = true then (some (bt352.2 == 8)) else (none))) else (none)))) else (none)) else (none))) else (none)) else (none)))) else (none))) = some r := by first | (rw [hy346]; with_reducible exact H) | (have H2_ := (Option.bind_some _ _).symm.trans H; rw [hy346]; with_reducible exact H2_) | (have H2_ := (Option.bind_some _ _).symm.trans H; with_reducible exact H2_) | with_reducible exact H | (rw [hy346]; exact H) | exact H
 have Ny346 := Aside0.mk hy346
 clear hy346
 obtain ⟨y349, hy349⟩ : ∃ y_ : List Int, y_ = (([2] : List Int)) := ⟨_, rfl⟩
 replace H : ((nat_Sub.f y346 y349).bind fun bt352 => (if t323 = 0 then ((reckonerref02_Parse.f k (⟨#[49, 48, 48, 48, 48, 48, 48, 48, 48, 48, 48, 48, 48, 48, 48, 48, 48, 48, 48, 48, 48]⟩ : ByteArray)).bind fun t356 => ((reckonerref02_Is.f k t322 t356).bind fun t359 => (if t359 = true then (if t330 = 0 then ((reckonerref02_Is.f k t329 (([1, 18446744073709551614] : List Int))).bind fun t363 => (if t363 = true then (if t341 = 0 then ((reckonerref02_Parse.f k (⟨#[51, 51, 51, 51, 51, 51, 51, 51, 51, 51, 51, 51, 51, 51, 51, 51, 51, 51, 51, 51]⟩ : ByteArray)).bind fun t364 => ((reckonerref02_Is.f k t339 t364).bind fun t367 => (if t367 = true then ((reckonerref02_Is.f k t340 (([1] : List Int))).bind fun t371 => (if t371 = true then (some (bt352.2 == 8)) else (none))) else (none)))) else (none)) else (none))) else (none)) else (none)))) else (none))) = some r := by first | (rw [hy349]; with_reducible exact H) | (have H2_ := (Option.bind_some _ _).symm.trans H; rw [hy349]; with_reducible exact H2_) | (have H2_ := (Option.bind_some _ _).symm.trans H; with_reducible exact H2_) | with_reducible exact H | (rw [hy349]; exact H) | exact H
 have Ny349 := Aside0.mk hy349
 clear hy349
 replace H := Option.bind_eq_some_iff.mp H
 obtain ⟨⟨t352, t353⟩, A40, H⟩ := H
 replace H : (if t323 = 0 then ((reckonerref02_Parse.f k (⟨#[49, 48, 48, 48, 48, 48, 48, 48, 48, 48, 48, 48, 48, 48, 48, 48, 48, 48, 48, 48, 48]⟩ : ByteArray)).bind fun t356 => ((reckonerref02_Is.f k t322 t356).bind fun t359 => (if t359 = true then (if t330 = 0 then ((reckonerref02_Is.f k t329 (([1, 18446744073709551614] : List Int))).bind fun t363 => (if t363 = true then (if t341 = 0 then ((reckonerref02_Parse.f k (⟨#[51, 51, 51, 51, 51, 51, 51, 51, 51, 51, 51, 51, 51, 51, 51, 51, 51, 51, 51, 51]⟩ : ByteArray)).bind fun t364 => ((reckonerref02_Is.f k t339 t364).bind fun t367 => (if t367 = true then ((reckonerref02_Is.f k t340 (([1] : List Int))).bind fun t371 => (if t371 = true then (some (t353 == 8)) else (none))) else (none)))) else (none)) else (none))) else (none)) else (none)))) else (none)) = some r := H
 have A4 := Aside0.mk A40
 clear A40
 by_cases c5 : t323 = 0
 ·rw [if_pos c5] at H
  have c5b0 : (t323 == 0) = true := beq_iff_eq.mpr c5
  have c5b1 : (t323 != 0) = false := bne_eq_false_iff_eq.mpr c5
  clear c5
  replace H := Option.bind_eq_some_iff.mp H
  obtain ⟨t356, A60, H⟩ := H
  replace H : ((reckonerref02_Is.f k t322 t356).bind fun t359 => (if t359 = true then (if t330 = 0 then ((reckonerref02_Is.f k t329 (([1, 18446744073709551614] : List Int))).bind fun t363 => (if t363 = true then (if t341 = 0 then ((reckonerref02_Parse.f k (⟨#[51, 51, 51, 51, 51, 51, 51, 51, 51, 51, 51, 51, 51, 51, 51, 51, 51, 51, 51, 51]⟩ : ByteArray)).bind fun t364 => ((reckonerref02_Is.f k t339 t364).bind fun t367 => (if t367 = true then ((reckonerref02_Is.f k t340 (([1] : List Int))).bind fun t371 => (if t371 = true then (some (t353 == 8)) else (none))) else (none)))) else (none)) else (none))) else (none)) else (none))) = some r := H
  have A6 := Aside0.mk A60
  clear A60
  replace H := Option.bind_eq_some_iff.mp H
  obtain ⟨t359, A70, H⟩ := H
  replace H : (if t359 = true then (if t330 = 0 then ((reckonerref02_Is.f k t329 (([1, 18446744073709551614] : List Int))).bind fun t363 => (if t363 = true then (if t341 = 0 then ((reckonerref02_Parse.f k (⟨#[51, 51, 51, 51, 51, 51, 51, 51, 51, 51, 51, 51, 51, 51, 51, 51, 51, 51, 51, 51]⟩ : ByteArray)).bind fun t364 => ((reckonerref02_Is.f k t339 t364).bind fun t367 => (if t367 = true then ((reckonerref02_Is.f k t340 (([1] : List Int))).bind fun t371 => (if t371 = true then (some (t353 == 8)) else (none))) else (none)))) else (none)) else (none))) else (none)) else (none)) = some r := H
  have A7 := Aside0.mk A70
  clear A70
  by_cases c8 : t359 = true
  ·subst c8
   have H1 : (if t330 = 0 then ((reckonerref02_Is.f k t329 (([1, 18446744073709551614] : List Int))).bind fun t363 => (if t363 = true then (if t341 = 0 then ((reckonerref02_Parse.f k (⟨#[51, 51, 51, 51, 51, 51, 51, 51, 51, 51, 51, 51, 51, 51, 51, 51, 51, 51, 51, 51]⟩ : ByteArray)).bind fun t364 => ((reckonerref02_Is.f k t339 t364).bind fun t367 => (if t367 = true then ((reckonerref02_Is.f k t340 (([1] : List Int))).bind fun t371 => (if t371 = true then (some (t353 == 8)) else (none))) else (none)))) else (none)) else (none))) else (none)) = some r := by rw [if_pos rfl] at H; exact H
   clear H
   have H := H1
   clear H1
   by_cases c9 : t330 = 0
   ·rw [if_pos c9] at H
    have c9b0 : (t330 == 0) = true := beq_iff_eq.mpr c9
    have c9b1 : (t330 != 0) = false := bne_eq_false_iff_eq.mpr c9
    clear c9
    obtain ⟨y360, hy360⟩ : ∃ y_ : List Int, y_ = (([1, 18446744073709551614] : List Int)) := ⟨_, rfl⟩
    replace H : ((reckonerref02_Is.f k t329 y360).bind fun t363 => (if t363 = true then (if t341 = 0 then ((reckonerref02_Parse.f k (⟨#[51, 51, 51, 51, 51, 51, 51, 51, 51, 51, 51, 51, 51, 51, 51, 51, 51, 51, 51, 51]⟩ : ByteArray)).bind fun t364 => ((reckonerref02_Is.f k t339 t364).bind fun t367 => (if t367 = true then ((reckonerref02_Is.f k t340 (([1] : List Int))).bind fun t371 => (if t371 = true then (some (t353 == 8)) else (none))) else (none)))) else (none)) else (none))) = some r := by first | (rw [hy360]; with_reducible exact H) | (have H2_ := (Option.bind_some _ _).symm.trans H; rw [hy360]; with_reducible exact H2_) | (have H2_ := (Option.bind_some _ _).symm.trans H; with_reducible exact H2_) | with_reducible exact H | (rw [hy360]; exact H) | exact H
    have Ny360 := Aside0.mk hy360
    clear hy360
    replace H := Option.bind_eq_some_iff.mp H
    obtain ⟨t363, A100, H⟩ := H
    replace H : (if t363 = true then (if t341 = 0 then ((reckonerref02_Parse.f k (⟨#[51, 51, 51, 51, 51, 51, 51, 51, 51, 51, 51, 51, 51, 51, 51, 51, 51, 51, 51, 51]⟩ : ByteArray)).bind fun t364 => ((reckonerref02_Is.f k t339 t364).bind fun t367 => (if t367 = true then ((reckonerref02_Is.f k t340 (([1] : List Int))).bind fun t371 => (if t371 = true then (some (t353 == 8)) else (none))) else (none)))) else (none)) else (none)) = some r := H
    have A10 := Aside0.mk A100
    clear A100
    by_cases c11 : t363 = true
    ·subst c11
     have H1 : (if t341 = 0 then ((reckonerref02_Parse.f k (⟨#[51, 51, 51, 51, 51, 51, 51, 51, 51, 51, 51, 51, 51, 51, 51, 51, 51, 51, 51, 51]⟩ : ByteArray)).bind fun t364 => ((reckonerref02_Is.f k t339 t364).bind fun t367 => (if t367 = true then ((reckonerref02_Is.f k t340 (([1] : List Int))).bind fun t371 => (if t371 = true then (some (t353 == 8)) else (none))) else (none)))) else (none)) = some r := by rw [if_pos rfl] at H; exact H
     clear H
     have H := H1
     clear H1
     by_cases c12 : t341 = 0
     ·rw [if_pos c12] at H
      have c12b0 : (t341 == 0) = true := beq_iff_eq.mpr c12
      have c12b1 : (t341 != 0) = false := bne_eq_false_iff_eq.mpr c12
      clear c12
      replace H := Option.bind_eq_some_iff.mp H
      obtain ⟨t364, A130, H⟩ := H
      replace H : ((reckonerref02_Is.f k t339 t364).bind fun t367 => (if t367 = true then ((reckonerref02_Is.f k t340 (([1] : List Int))).bind fun t371 => (if t371 = true then (some (t353 == 8)) else (none))) else (none))) = some r := H
      have A13 := Aside0.mk A130
      clear A130
      replace H := Option.bind_eq_some_iff.mp H
      obtain ⟨t367, A140, H⟩ := H
      replace H : (if t367 = true then ((reckonerref02_Is.f k t340 (([1] : List Int))).bind fun t371 => (if t371 = true then (some (t353 == 8)) else (none))) else (none)) = some r := H
      have A14 := Aside0.mk A140
      clear A140
      by_cases c15 : t367 = true
      ·subst c15
       have H1 : ((reckonerref02_Is.f k t340 (([1] : List Int))).bind fun t371 => (if t371 = true then (some (t353 == 8)) else (none))) = some r := by rw [if_pos rfl] at H; exact H
       clear H
       have H := H1
       clear H1
       obtain ⟨y368, hy368⟩ : ∃ y_ : List Int, y_ = (([1] : List Int)) := ⟨_, rfl⟩
       replace H : ((reckonerref02_Is.f k t340 y368).bind fun t371 => (if t371 = true then (some (t353 == 8)) else (none))) = some r := by first | (rw [hy368]; with_reducible exact H) | (have H2_ := (Option.bind_some _ _).symm.trans H; rw [hy368]; with_reducible exact H2_) | (have H2_ := (Option.bind_some _ _).symm.trans H; with_reducible exact H2_) | with_reducible exact H | (rw [hy368]; exact H) | exact H
       have Ny368 := Aside0.mk hy368
       clear hy368
       replace H := Option.bind_eq_some_iff.mp H
       obtain ⟨t371, A160, H⟩ := H
       replace H : (if t371 = true then (some (t353 == 8)) else (none)) = some r := H
       have A16 := Aside0.mk A160
       clear A160
       by_cases c17 : t371 = true
       ·subst c17
        have H1 : (some (t353 == 8)) = some r := by rw [if_pos rfl] at H; exact H
        clear H
        have H := H1
        clear H1
        obtain rfl := Option.some.inj H
        go_enter Tryd.func18, Tryd.ntmps18
        try simp only [List.append]
        go_wp2_with (first | ((with_reducible refine gate_dst (N := 11) rfl ?_); (try (refine gate_guard (by rfl) ?_; dsimp only)); refine Kd.R_lit (Kd.int .u64) _ 36 ?hg (N := 11) ?hd (xs := ([10] : List Int)) (inner := [.int .u64 10]) (ok := fun _ => True) (okp := fun _ => True) ?hr ?hp (fun _ hk => hk) trivial (Below.refl _ _) (Nat.le_refl _) (by simp) ?_; (case hd => rfl); (case hg => rfl); (case hr => first | (go_simp; done) | (go_simp; rfl)); (case hp => exact (Reps.one (show Kd.M (Kd.int .u64) _ _ _ 10 [.int .u64 10] from rfl) (Reps.none _ _))); intro v320 w18 ho19 hb hg_ hnew_; clear hg_ hnew_; (first | rw [← Ny319.out] at ho19 | (simp only [Int.reduceToNat] at ho19; rw [← Ny319.out] at ho19)); have n0_ := Aside0.mk (Kd.R_lower ho19 (below_size (by repeat (first | (with_reducible first | exact HB.out | apply below_alloc | apply pw_below_drewN | apply below_drew1) | exact HB.out)))); have n1_ := Aside0.mk (below_step (by repeat (first | (with_reducible first | exact HB.out | apply below_alloc | apply pw_below_drewN | apply below_drew1) | exact HB.out)) hb); clear HB; have HO321 := n0_; have HB := n1_; clear n0_ n1_; clear hb ho19; obtain ⟨Ao20, co20, eo20⟩ := Kd.R_slice HO321.out; subst eo20) | ((with_reducible refine gate_callee (f := 34) rfl ?_); refine goesL_ (some 12) rfl rfl Tryd.func34 (by kernel_rfl) rfl #[.slice Ao20 y319.length co20, .int .i64 20] rfl (by (try simp only [List.map_toArray, List.map_cons, List.map_nil]); first | done | rfl | (simp only [List.length_drop, List.length_take]; rfl)) ?_; (with_reducible refine (nat_Pow.calls _ _ y319 20 t322 t323 _ ?side1 ?side2 A1.out).mono ?_); (case side1 => repeat (first | exact (Kd.R_reads' HO321.out).2.2 | (with_reducible refine Kd.C_alloc ?_ _) | (with_reducible refine Kd.C_drewN ?_ _) | (with_reducible refine Kd.C_drew ?_))); (case side2 => exact (Kd.R_reads' HO321.out).2.1); rintro e w21 ⟨v324, rfl, ho0, hb⟩; refine ⟨_, rfl, ?_⟩; have n0_ := Aside0.mk (Kd.R_elder' (by (with_reducible repeat (first | apply Kd.R_alloc | apply Kd.R_drewN | apply Kd.R_drew)); exact HO321.out) (Kd.R_base ho0) hb); have n1_ := Aside0.mk (Kd.R_lower (Kd.R_new' ho0 (Kd.R_lt (by (with_reducible repeat (first | apply Kd.R_alloc | apply Kd.R_drewN | apply Kd.R_drew)); exact HO321.out))) (below_size (by repeat (first | (with_reducible first | exact HB.out | apply below_alloc | apply pw_below_drewN | apply below_drew1) | exact HB.out)))); have n2_ := Aside0.mk (below_step (by repeat (first | (with_reducible first | exact HB.out | apply below_alloc | apply pw_below_drewN | apply below_drew1) | exact HB.out)) hb); clear HO321; clear HB; have HO321 := n0_; have HO325 := n1_; have HB := n2_; clear n0_ n1_ n2_; (try clear hb); (try clear hb2); (try clear hk); (try clear hi); (try clear ho0)) | ((with_reducible refine gate_dst (N := 16) rfl ?_); (try (refine gate_guard (by rfl) ?_; dsimp only)); refine Kd.R_lit (Kd.int .u64) _ 36 ?hg (N := 16) ?hd (xs := ([18446744073709551615] : List Int)) (inner := [.int .u64 18446744073709551615]) (ok := fun _ => True) (okp := fun _ => True) ?hr ?hp (fun _ hk => hk) trivial (Below.refl _ _) (Nat.le_refl _) (by simp) ?_; (case hd => rfl); (case hg => rfl); (case hr => first | (go_simp; done) | (go_simp; rfl)); (case hp => exact (Reps.one (show Kd.M (Kd.int .u64) _ _ _ 18446744073709551615 [.int .u64 18446744073709551615] from rfl) (Reps.none _ _))); intro v327 w22 ho23 hb hg_ hnew_; clear hg_ hnew_; (first | rw [← Ny326.out] at ho23 | (simp only [Int.reduceToNat] at ho23; rw [← Ny326.out] at ho23)); have n0_ := Aside0.mk (Kd.R_elder' (by (with_reducible repeat (first | apply Kd.R_alloc | apply Kd.R_drewN | apply Kd.R_drew)); exact HO321.out) (Kd.R_base ho23) hb); have n1_ := Aside0.mk (Kd.R_elder' (by (with_reducible repeat (first | apply Kd.R_alloc | apply Kd.R_drewN | apply Kd.R_drew)); exact HO325.out) (Kd.R_base ho23) hb); have n2_ := Aside0.mk (Kd.R_lower (Kd.R_new' (Kd.R_new' ho23 (Kd.R_lt (by (with_reducible repeat (first | apply Kd.R_alloc | apply Kd.R_drewN | apply Kd.R_drew)); exact HO321.out))) (Kd.R_lt (by (with_reducible repeat (first | apply Kd.R_alloc | apply Kd.R_drewN | apply Kd.R_drew)); exact HO325.out))) (below_size (by repeat (first | (with_reducible first | exact HB.out | apply below_alloc | apply pw_below_drewN | apply below_drew1) | exact HB.out)))); have n3_ := Aside0.mk (below_step (by repeat (first | (with_reducible first | exact HB.out | apply below_alloc | apply pw_below_drewN | apply below_drew1) | exact HB.out)) hb); clear HO321; clear HO325; clear HB; have HO321 := n0_; have HO325 := n1_; have HO328 := n2_; have HB := n3_; clear n0_ n1_ n2_ n3_; clear hb ho23; obtain ⟨Ao24, co24, eo24⟩ := Kd.R_slice HO328.out; subst eo24) | ((with_reducible refine gate_callee (f := 38) rfl ?_); refine goesL_ (some 17) rfl rfl Tryd.func38 (by kernel_rfl) rfl #[.slice Ao24 y326.length co24] rfl (by (try simp only [List.map_toArray, List.map_cons, List.map_nil]); first | done | rfl | (simp only [List.length_drop, List.length_take]; rfl)) ?_; (with_reducible refine (nat_Square.calls _ _ y326 t329 t330 _ ?side1 ?side2 A2.out).mono ?_); (case side1 => repeat (first | exact (Kd.R_reads' HO328.out).2.2 | (with_reducible refine Kd.C_alloc ?_ _) | (with_reducible refine Kd.C_drewN ?_ _) | (with_reducible refine Kd.C_drew ?_))); (case side2 => exact (Kd.R_reads' HO328.out).2.1); rintro e w25 ⟨v331, rfl, ho0, hb⟩; refine ⟨_, rfl, ?_⟩; have n0_ := Aside0.mk (Kd.R_elder' (by (with_reducible repeat (first | apply Kd.R_alloc | apply Kd.R_drewN | apply Kd.R_drew)); exact HO321.out) (Kd.R_base ho0) hb); have n1_ := Aside0.mk (Kd.R_elder' (by (with_reducible repeat (first | apply Kd.R_alloc | apply Kd.R_drewN | apply Kd.R_drew)); exact HO325.out) (Kd.R_base ho0) hb); have n2_ := Aside0.mk (Kd.R_elder' (by (with_reducible repeat (first | apply Kd.R_alloc | apply Kd.R_drewN | apply Kd.R_drew)); exact HO328.out) (Kd.R_base ho0) hb); have n3_ := Aside0.mk (Kd.R_lower (Kd.R_new' (Kd.R_new' (Kd.R_new' ho0 (Kd.R_lt (by (with_reducible repeat (first | apply Kd.R_alloc | apply Kd.R_drewN | apply Kd.R_drew)); exact HO321.out))) (Kd.R_lt (by (with_reducible repeat (first | apply Kd.R_alloc | apply Kd.R_drewN | apply Kd.R_drew)); exact HO325.out))) (Kd.R_lt (by (with_reducible repeat (first | apply Kd.R_alloc | apply Kd.R_drewN | apply Kd.R_drew)); exact HO328.out))) (below_size (by repeat (first | (with_reducible first | exact HB.out | apply below_alloc | apply pw_below_drewN | apply below_drew1) | exact HB.out)))); have n4_ := Aside0.mk (below_step (by repeat (first | (with_reducible first | exact HB.out | apply below_alloc | apply pw_below_drewN | apply below_drew1) | exact HB.out)) hb); clear HO321; clear HO325; clear HO328; clear HB; have HO321 := n0_; have HO325 := n1_; have HO328 := n2_; have HO332 := n3_; have HB := n4_; clear n0_ n1_ n2_ n3_ n4_; (try clear hb); (try clear hb2); (try clear hk); (try clear hi); (try clear ho0)) | ((with_reducible refine gate_dst (N := 21) rfl ?_); (try (refine gate_guard (by rfl) ?_; dsimp only)); refine Kd.R_lit (Kd.int .u64) _ 36 ?hg (N := 21) ?hd (xs := ([7766279631452241920, 5] : List Int)) (inner := [.int .u64 7766279631452241920, .int .u64 5]) (ok := fun _ => True) (okp := fun _ => True) ?hr ?hp (fun _ hk => hk) trivial (Below.refl _ _) (Nat.le_refl _) (by simp) ?_; (case hd => rfl); (case hg => rfl); (case hr => first | (go_simp; done) | (go_simp; rfl)); (case hp => exact (Reps.one (show Kd.M (Kd.int .u64) _ _ _ 7766279631452241920 [.int .u64 7766279631452241920] from rfl) (Reps.one (show Kd.M (Kd.int .u64) _ _ _ 5 [.int .u64 5] from rfl) (Reps.none _ _)))); intro v334 w26 ho27 hb hg_ hnew_; clear hg_ hnew_; (first | rw [← Ny333.out] at ho27 | (simp only [Int.reduceToNat] at ho27; rw [← Ny333.out] at ho27)); have n0_ := Aside0.mk (Kd.R_elder' (by (with_reducible repeat (first | apply Kd.R_alloc | apply Kd.R_drewN | apply Kd.R_drew)); exact HO321.out) (Kd.R_base ho27) hb); have n1_ := Aside0.mk (Kd.R_elder' (by (with_reducible repeat (first | apply Kd.R_alloc | apply Kd.R_drewN | apply Kd.R_drew)); exact HO325.out) (Kd.R_base ho27) hb); have n2_ := Aside0.mk (Kd.R_elder' (by (with_reducible repeat (first | apply Kd.R_alloc | apply Kd.R_drewN | apply Kd.R_drew)); exact HO328.out) (Kd.R_base ho27) hb); have n3_ := Aside0.mk (Kd.R_elder' (by (with_reducible repeat (first | apply Kd.R_alloc | apply Kd.R_drewN | apply Kd.R_drew)); exact HO332.out) (Kd.R_base ho27) hb); have n4_ := Aside0.mk (Kd.R_lower (Kd.R_new' (Kd.R_new' (Kd.R_new' (Kd.R_new' ho27 (Kd.R_lt (by (with_reducible repeat (first | apply Kd.R_alloc | apply Kd.R_drewN | apply Kd.R_drew)); exact HO321.out))) (Kd.R_lt (by (with_reducible repeat (first | apply Kd.R_alloc | apply Kd.R_drewN | apply Kd.R_drew)); exact HO325.out))) (Kd.R_lt (by (with_reducible repeat (first | apply Kd.R_alloc | apply Kd.R_drewN | apply Kd.R_drew)); exact HO328.out))) (Kd.R_lt (by (with_reducible repeat (first | apply Kd.R_alloc | apply Kd.R_drewN | apply Kd.R_drew)); exact HO332.out))) (below_size (by repeat (first | (with_reducible first | exact HB.out | apply below_alloc | apply pw_below_drewN | apply below_drew1) | exact HB.out)))); have n5_ := Aside0.mk (below_step (by repeat (first | (with_reducible first | exact HB.out | apply below_alloc | apply pw_below_drewN | apply below_drew1) | exact HB.out)) hb); clear HO321; clear HO325; clear HO328; clear HO332; clear HB; have HO321 := n0_; have HO325 := n1_; have HO328 := n2_; have HO332 := n3_; have HO335 := n4_; have HB := n5_; clear n0_ n1_ n2_ n3_ n4_ n5_; clear hb ho27) | ((with_reducible refine gate_dst (N := 22) rfl ?_); (try (refine gate_guard (by rfl) ?_; dsimp only)); refine Kd.R_lit (Kd.int .u64) _ 36 ?hg (N := 22) ?hd (xs := ([3] : List Int)) (inner := [.int .u64 3]) (ok := fun _ => True) (okp := fun _ => True) ?hr ?hp (fun _ hk => hk) trivial (Below.refl _ _) (Nat.le_refl _) (by simp) ?_; (case hd => rfl); (case hg => rfl); (case hr => first | (go_simp; done) | (go_simp; rfl)); (case hp => exact (Reps.one (show Kd.M (Kd.int .u64) _ _ _ 3 [.int .u64 3] from rfl) (Reps.none _ _))); intro v337 w28 ho29 hb hg_ hnew_; clear hg_ hnew_; (first | rw [← Ny336.out] at ho29 | (simp only [Int.reduceToNat] at ho29; rw [← Ny336.out] at ho29)); have n0_ := Aside0.mk (Kd.R_elder' (by (with_reducible repeat (first | apply Kd.R_alloc | apply Kd.R_drewN | apply Kd.R_drew)); exact HO321.out) (Kd.R_base ho29) hb); have n1_ := Aside0.mk (Kd.R_elder' (by (with_reducible repeat (first | apply Kd.R_alloc | apply Kd.R_drewN | apply Kd.R_drew)); exact HO325.out) (Kd.R_base ho29) hb); have n2_ := Aside0.mk (Kd.R_elder' (by (with_reducible repeat (first | apply Kd.R_alloc | apply Kd.R_drewN | apply Kd.R_drew)); exact HO328.out) (Kd.R_base ho29) hb); have n3_ := Aside0.mk (Kd.R_elder' (by (with_reducible repeat (first | apply Kd.R_alloc | apply Kd.R_drewN | apply Kd.R_drew)); exact HO332.out) (Kd.R_base ho29) hb); have n4_ := Aside0.mk (Kd.R_elder' (by (with_reducible repeat (first | apply Kd.R_alloc | apply Kd.R_drewN | apply Kd.R_drew)); exact HO335.out) (Kd.R_base ho29) hb); have n5_ := Aside0.mk (Kd.R_lower (Kd.R_new' (Kd.R_new' (Kd.R_new' (Kd.R_new' (Kd.R_new' ho29 (Kd.R_lt (by (with_reducible repeat (first | apply Kd.R_alloc | apply Kd.R_drewN | apply Kd.R_drew)); exact HO321.out))) (Kd.R_lt (by (with_reducible repeat (first | apply Kd.R_alloc | apply Kd.R_drewN | apply Kd.R_drew)); exact HO325.out))) (Kd.R_lt (by (with_reducible repeat (first | apply Kd.R_alloc | apply Kd.R_drewN | apply Kd.R_drew)); exact HO328.out))) (Kd.R_lt (by (with_reducible repeat (first | apply Kd.R_alloc | apply Kd.R_drewN | apply Kd.R_drew)); exact HO332.out))) (Kd.R_lt (by (with_reducible repeat (first | apply Kd.R_alloc | apply Kd.R_drewN | apply Kd.R_drew)); exact HO335.out))) (below_size (by repeat (first | (with_reducible first | exact HB.out | apply below_alloc | apply pw_below_drewN | apply below_drew1) | exact HB.out)))); have n6_ := Aside0.mk (below_step (by repeat (first | (with_reducible first | exact HB.out | apply below_alloc | apply pw_below_drewN | apply below_drew1) | exact HB.out)) hb); clear HO321; clear HO325; clear HO328; clear HO332; clear HO335; clear HB; have HO321 := n0_; have HO325 := n1_; have HO328 := n2_; have HO332 := n3_; have HO335 := n4_; have HO338 := n5_; have HB := n6_; clear n0_ n1_ n2_ n3_ n4_ n5_ n6_; clear hb ho29; obtain ⟨Ao30, co30, eo30⟩ := Kd.R_slice HO335.out; subst eo30; obtain ⟨Ao31, co31, eo31⟩ := Kd.R_slice HO338.out; subst eo31) | ((with_reducible refine gate_callee (f := 33) rfl ?_); refine goesL_ (some 23) rfl rfl Tryd.func33 (by kernel_rfl) rfl #[.slice Ao30 y333.length co30, .slice Ao31 y336.length co31] rfl (by (try simp only [List.map_toArray, List.map_cons, List.map_nil]); first | done | rfl | (simp only [List.length_drop, List.length_take]; rfl)) ?_; (with_reducible refine (nat_DivMod.calls _ _ y333 _ _ y336 t339 t340 t341 _ ?side1 ?side2 ?side3 ?side4 A3.out).mono ?_); (case side1 => repeat (first | exact (Kd.R_reads' HO335.out).2.2 | (with_reducible refine Kd.C_alloc ?_ _) | (with_reducible refine Kd.C_drewN ?_ _) | (with_reducible refine Kd.C_drew ?_))); (case side2 => exact (Kd.R_reads' HO335.out).2.1); (case side3 => repeat (first | exact (Kd.R_reads' HO338.out).2.2 | (with_reducible refine Kd.C_alloc ?_ _) | (with_reducible refine Kd.C_drewN ?_ _) | (with_reducible refine Kd.C_drew ?_))); (case side4 => exact (Kd.R_reads' HO338.out).2.1); rintro e w32 ⟨v342, v344, rfl, ho0, ho1, hb⟩; refine ⟨_, rfl, ?_⟩; have n0_ := Aside0.mk (Kd.R_mono (Kd.R_told (Kd.R_told (Kd.R_old (by (with_reducible repeat (first | apply Kd.R_alloc | apply Kd.R_drewN | apply Kd.R_drew)); exact HO321.out) hb) (Kd.R_base ho0)) (Kd.R_base ho1)) (fun _ h_ => h_.1)); have n1_ := Aside0.mk (Kd.R_mono (Kd.R_told (Kd.R_told (Kd.R_old (by (with_reducible repeat (first | apply Kd.R_alloc | apply Kd.R_drewN | apply Kd.R_drew)); exact HO325.out) hb) (Kd.R_base ho0)) (Kd.R_base ho1)) (fun _ h_ => h_.1)); have n2_ := Aside0.mk (Kd.R_mono (Kd.R_told (Kd.R_told (Kd.R_old (by (with_reducible repeat (first | apply Kd.R_alloc | apply Kd.R_drewN | apply Kd.R_drew)); exact HO328.out) hb) (Kd.R_base ho0)) (Kd.R_base ho1)) (fun _ h_ => h_.1)); have n3_ := Aside0.mk (Kd.R_mono (Kd.R_told (Kd.R_told (Kd.R_old (by (with_reducible repeat (first | apply Kd.R_alloc | apply Kd.R_drewN | apply Kd.R_drew)); exact HO332.out) hb) (Kd.R_base ho0)) (Kd.R_base ho1)) (fun _ h_ => h_.1)); have n4_ := Aside0.mk (Kd.R_mono (Kd.R_told (Kd.R_told (Kd.R_old (by (with_reducible repeat (first | apply Kd.R_alloc | apply Kd.R_drewN | apply Kd.R_drew)); exact HO335.out) hb) (Kd.R_base ho0)) (Kd.R_base ho1)) (fun _ h_ => h_.1)); have n5_ := Aside0.mk (Kd.R_mono (Kd.R_told (Kd.R_told (Kd.R_old (by (with_reducible repeat (first | apply Kd.R_alloc | apply Kd.R_drewN | apply Kd.R_drew)); exact HO338.out) hb) (Kd.R_base ho0)) (Kd.R_base ho1)) (fun _ h_ => h_.1)); have n6_ := Aside0.mk (Kd.R_lower (Kd.R_new' (Kd.R_new' (Kd.R_new' (Kd.R_new' (Kd.R_new' (Kd.R_new' ho0 (Kd.R_lt (by (with_reducible repeat (first | apply Kd.R_alloc | apply Kd.R_drewN | apply Kd.R_drew)); exact HO321.out))) (Kd.R_lt (by (with_reducible repeat (first | apply Kd.R_alloc | apply Kd.R_drewN | apply Kd.R_drew)); exact HO325.out))) (Kd.R_lt (by (with_reducible repeat (first | apply Kd.R_alloc | apply Kd.R_drewN | apply Kd.R_drew)); exact HO328.out))) (Kd.R_lt (by (with_reducible repeat (first | apply Kd.R_alloc | apply Kd.R_drewN | apply Kd.R_drew)); exact HO332.out))) (Kd.R_lt (by (with_reducible repeat (first | apply Kd.R_alloc | apply Kd.R_drewN | apply Kd.R_drew)); exact HO335.out))) (Kd.R_lt (by (with_reducible repeat (first | apply Kd.R_alloc | apply Kd.R_drewN | apply Kd.R_drew)); exact HO338.out))) (below_size (by repeat (first | (with_reducible first | exact HB.out | apply below_alloc | apply pw_below_drewN | apply below_drew1) | exact HB.out)))); have n7_ := Aside0.mk (Kd.R_lower (Kd.R_new' (Kd.R_new' (Kd.R_new' (Kd.R_new' (Kd.R_new' (Kd.R_new' ho1 (Kd.R_lt (by (with_reducible repeat (first | apply Kd.R_alloc | apply Kd.R_drewN | apply Kd.R_drew)); exact HO321.out))) (Kd.R_lt (by (with_reducible repeat (first | apply Kd.R_alloc | apply Kd.R_drewN | apply Kd.R_drew)); exact HO325.out))) (Kd.R_lt (by (with_reducible repeat (first | apply Kd.R_alloc | apply Kd.R_drewN | apply Kd.R_drew)); exact HO328.out))) (Kd.R_lt (by (with_reducible repeat (first | apply Kd.R_alloc | apply Kd.R_drewN | apply Kd.R_drew)); exact HO332.out))) (Kd.R_lt (by (with_reducible repeat (first | apply Kd.R_alloc | apply Kd.R_drewN | apply Kd.R_drew)); exact HO335.out))) (Kd.R_lt (by (with_reducible repeat (first | apply Kd.R_alloc | apply Kd.R_drewN | apply Kd.R_drew)); exact HO338.out))) (below_size (by repeat (first | (with_reducible first | exact HB.out | apply below_alloc | apply pw_below_drewN | apply below_drew1) | exact HB.out)))); have n8_ := Aside0.mk (below_step (by repeat (first | (with_reducible first | exact HB.out | apply below_alloc | apply pw_below_drewN | apply below_drew1) | exact HB.out)) hb); clear HO321; clear HO325; clear HO328; clear HO332; clear HO335; clear HO338; clear HB; have HO321 := n0_; have HO325 := n1_; have HO328 := n2_; have HO332 := n3_; have HO335 := n4_; have HO338 := n5_; have HO343 := n6_; have HO345 := n7_; have HB := n8_; clear n0_ n1_ n2_ n3_ n4_ n5_ n6_ n7_ n8_; (try clear hb); (try clear hb2); (try clear hk); (try clear hi); (try clear ho0); (try clear ho1)) | ((with_reducible refine gate_dst (N := 28) rfl ?_); (try (refine gate_guard (by rfl) ?_; dsimp only)); refine Kd.R_lit (Kd.int .u64) _ 36 ?hg (N := 28) ?hd (xs := ([1] : List Int)) (inner := [.int .u64 1]) (ok := fun _ => True) (okp := fun _ => True) ?hr ?hp (fun _ hk => hk) trivial (Below.refl _ _) (Nat.le_refl _) (by simp) ?_; (case hd => rfl); (case hg => rfl); (case hr => first | (go_simp; done) | (go_simp; rfl)); (case hp => exact (Reps.one (show Kd.M (Kd.int .u64) _ _ _ 1 [.int .u64 1] from rfl) (Reps.none _ _))); intro v347 w33 ho34 hb hg_ hnew_; clear hg_ hnew_; (first | rw [← Ny346.out] at ho34 | (simp only [Int.reduceToNat] at ho34; rw [← Ny346.out] at ho34)); have n0_ := Aside0.mk (Kd.R_elder' (by (with_reducible repeat (first | apply Kd.R_alloc | apply Kd.R_drewN | apply Kd.R_drew)); exact HO321.out) (Kd.R_base ho34) hb); have n1_ := Aside0.mk (Kd.R_elder' (by (with_reducible repeat (first | apply Kd.R_alloc | apply Kd.R_drewN | apply Kd.R_drew)); exact HO325.out) (Kd.R_base ho34) hb); have n2_ := Aside0.mk (Kd.R_elder' (by (with_reducible repeat (first | apply Kd.R_alloc | apply Kd.R_drewN | apply Kd.R_drew)); exact HO328.out) (Kd.R_base ho34) hb); have n3_ := Aside0.mk (Kd.R_elder' (by (with_reducible repeat (first | apply Kd.R_alloc | apply Kd.R_drewN | apply Kd.R_drew)); exact HO332.out) (Kd.R_base ho34) hb); have n4_ := Aside0.mk (Kd.R_elder' (by (with_reducible repeat (first | apply Kd.R_alloc | apply Kd.R_drewN | apply Kd.R_drew)); exact HO335.out) (Kd.R_base ho34) hb); have n5_ := Aside0.mk (Kd.R_elder' (by (with_reducible repeat (first | apply Kd.R_alloc | apply Kd.R_drewN | apply Kd.R_drew)); exact HO338.out) (Kd.R_base ho34) hb); have n6_ := Aside0.mk (Kd.R_elder' (by (with_reducible repeat (first | apply Kd.R_alloc | apply Kd.R_drewN | apply Kd.R_drew)); exact HO343.out) (Kd.R_base ho34) hb); have n7_ := Aside0.mk (Kd.R_elder' (by (with_reducible repeat (first | apply Kd.R_alloc | apply Kd.R_drewN | apply Kd.R_drew)); exact HO345.out) (Kd.R_base ho34) hb); have n8_ := Aside0.mk (Kd.R_lower (Kd.R_new' (Kd.R_new' (Kd.R_new' (Kd.R_new' (Kd.R_new' (Kd.R_new' (Kd.R_new' (Kd.R_new' ho34 (Kd.R_lt (by (with_reducible repeat (first | apply Kd.R_alloc | apply Kd.R_drewN | apply Kd.R_drew)); exact HO321.out))) (Kd.R_lt (by (with_reducible repeat (first | apply Kd.R_alloc | apply Kd.R_drewN | apply Kd.R_drew)); exact HO325.out))) (Kd.R_lt (by (with_reducible repeat (first | apply Kd.R_alloc | apply Kd.R_drewN | apply Kd.R_drew)); exact HO328.out))) (Kd.R_lt (by (with_reducible repeat (first | apply Kd.R_alloc | apply Kd.R_drewN | apply Kd.R_drew)); exact HO332.out))) (Kd.R_lt (by (with_reducible repeat (first | apply Kd.R_alloc | apply Kd.R_drewN | apply Kd.R_drew)); exact HO335.out))) (Kd.R_lt (by (with_reducible repeat (first | apply Kd.R_alloc | apply Kd.R_drewN | apply Kd.R_drew)); exact HO338.out))) (Kd.R_lt (by (with_reducible repeat (first | apply Kd.R_alloc | apply Kd.R_drewN | apply Kd.R_drew)); exact HO343.out))) (Kd.R_lt (by (with_reducible repeat (first | apply Kd.R_alloc | apply Kd.R_drewN | apply Kd.R_drew)); exact HO345.out))) (below_size (by repeat (first | (with_reducible first | exact HB.out | apply below_alloc | apply pw_below_drewN | apply below_drew1) | exact HB.out)))); have n9_ := Aside0.mk (below_step (by repeat (first | (with_reducible first | exact HB.out | apply below_alloc | apply pw_below_drewN | apply below_drew1) | exact HB.out)) hb); clear HO321; clear HO325; clear HO328; clear HO332; clear HO335; clear HO338; clear HO343; clear HO345; clear HB; have HO321 := n0_; have HO325 := n1_; have HO328 := n2_; have HO332 := n3_; have HO335 := n4_; have HO338 := n5_; have HO343 := n6_; have HO345 := n7_; have HO348 := n8_; have HB := n9_; clear n0_ n1_ n2_ n3_ n4_ n5_ n6_ n7_ n8_ n9_; clear hb ho34) | ((with_reducible refine gate_dst (N := 29) rfl ?_); (try (refine gate_guard (by rfl) ?_; dsimp only)); refine Kd.R_lit (Kd.int .u64) _ 36 ?hg (N := 29) ?hd (xs := ([2] : List Int)) (inner := [.int .u64 2]) (ok := fun _ => True) (okp := fun _ => True) ?hr ?hp (fun _ hk => hk) trivial (Below.refl _ _) (Nat.le_refl _) (by simp) ?_; (case hd => rfl); (case hg => rfl); (case hr => first | (go_simp; done) | (go_simp; rfl)); (case hp => exact (Reps.one (show Kd.M (Kd.int .u64) _ _ _ 2 [.int .u64 2] from rfl) (Reps.none _ _))); intro v350 w35 ho36 hb hg_ hnew_; clear hg_ hnew_; (first | rw [← Ny349.out] at ho36 | (simp only [Int.reduceToNat] at ho36; rw [← Ny349.out] at ho36)); have n0_ := Aside0.mk (Kd.R_elder' (by (with_reducible repeat (first | apply Kd.R_alloc | apply Kd.R_drewN | apply Kd.R_drew)); exact HO321.out) (Kd.R_base ho36) hb); have n1_ := Aside0.mk (Kd.R_elder' (by (with_reducible repeat (first | apply Kd.R_alloc | apply Kd.R_drewN | apply Kd.R_drew)); exact HO325.out) (Kd.R_base ho36) hb); have n2_ := Aside0.mk (Kd.R_elder' (by (with_reducible repeat (first | apply Kd.R_alloc | apply Kd.R_drewN | apply Kd.R_drew)); exact HO328.out) (Kd.R_base ho36) hb); have n3_ := Aside0.mk (Kd.R_elder' (by (with_reducible repeat (first | apply Kd.R_alloc | apply Kd.R_drewN | apply Kd.R_drew)); exact HO332.out) (Kd.R_base ho36) hb); have n4_ := Aside0.mk (Kd.R_elder' (by (with_reducible repeat (first | apply Kd.R_alloc | apply Kd.R_drewN | apply Kd.R_drew)); exact HO335.out) (Kd.R_base ho36) hb); have n5_ := Aside0.mk (Kd.R_elder' (by (with_reducible repeat (first | apply Kd.R_alloc | apply Kd.R_drewN | apply Kd.R_drew)); exact HO338.out) (Kd.R_base ho36) hb); have n6_ := Aside0.mk (Kd.R_elder' (by (with_reducible repeat (first | apply Kd.R_alloc | apply Kd.R_drewN | apply Kd.R_drew)); exact HO343.out) (Kd.R_base ho36) hb); have n7_ := Aside0.mk (Kd.R_elder' (by (with_reducible repeat (first | apply Kd.R_alloc | apply Kd.R_drewN | apply Kd.R_drew)); exact HO345.out) (Kd.R_base ho36) hb); have n8_ := Aside0.mk (Kd.R_elder' (by (with_reducible repeat (first | apply Kd.R_alloc | apply Kd.R_drewN | apply Kd.R_drew)); exact HO348.out) (Kd.R_base ho36) hb); have n9_ := Aside0.mk (Kd.R_lower (Kd.R_new' (Kd.R_new' (Kd.R_new' (Kd.R_new' (Kd.R_new' (Kd.R_new' (Kd.R_new' (Kd.R_new' (Kd.R_new' ho36 (Kd.R_lt (by (with_reducible repeat (first | apply Kd.R_alloc | apply Kd.R_drewN | apply Kd.R_drew)); exact HO321.out))) (Kd.R_lt (by (with_reducible repeat (first | apply Kd.R_alloc | apply Kd.R_drewN | apply Kd.R_drew)); exact HO325.out))) (Kd.R_lt (by (with_reducible repeat (first | apply Kd.R_alloc | apply Kd.R_drewN | apply Kd.R_drew)); exact HO328.out))) (Kd.R_lt (by (with_reducible repeat (first | apply Kd.R_alloc | apply Kd.R_drewN | apply Kd.R_drew)); exact HO332.out))) (Kd.R_lt (by (with_reducible repeat (first | apply Kd.R_alloc | apply Kd.R_drewN | apply Kd.R_drew)); exact HO335.out))) (Kd.R_lt (by (with_reducible repeat (first | apply Kd.R_alloc | apply Kd.R_drewN | apply Kd.R_drew)); exact HO338.out))) (Kd.R_lt (by (with_reducible repeat (first | apply Kd.R_alloc | apply Kd.R_drewN | apply Kd.R_drew)); exact HO343.out))) (Kd.R_lt (by (with_reducible repeat (first | apply Kd.R_alloc | apply Kd.R_drewN | apply Kd.R_drew)); exact HO345.out))) (Kd.R_lt (by (with_reducible repeat (first | apply Kd.R_alloc | apply Kd.R_drewN | apply Kd.R_drew)); exact HO348.out))) (below_size (by repeat (first | (with_reducible first | exact HB.out | apply below_alloc | apply pw_below_drewN | apply below_drew1) | exact HB.out)))); have n10_ := Aside0.mk (below_step (by repeat (first | (with_reducible first | exact HB.out | apply below_alloc | apply pw_below_drewN | apply below_drew1) | exact HB.out)) hb); clear HO321; clear HO325; clear HO328; clear HO332; clear HO335; clear HO338; clear HO343; clear HO345; clear HO348; clear HB; have HO321 := n0_; have HO325 := n1_; have HO328 := n2_; have HO332 := n3_; have HO335 := n4_; have HO338 := n5_; have HO343 := n6_; have HO345 := n7_; have HO348 := n8_; have HO351 := n9_; have HB := n10_; clear n0_ n1_ n2_ n3_ n4_ n5_ n6_ n7_ n8_ n9_ n10_; clear hb ho36; obtain ⟨Ao37, co37, eo37⟩ := Kd.R_slice HO348.out; subst eo37; obtain ⟨Ao38, co38, eo38⟩ := Kd.R_slice HO351.out; subst eo38) | ((with_reducible refine gate_callee (f := 37) rfl ?_); refine goesL_ (some 30) rfl rfl Tryd.func37 (by kernel_rfl) rfl #[.slice Ao37 y346.length co37, .slice Ao38 y349.length co38] rfl (by (try simp only [List.map_toArray, List.map_cons, List.map_nil]); first | done | rfl | (simp only [List.length_drop, List.length_take]; rfl)) ?_; (with_reducible refine (nat_Sub.calls _ _ y346 _ _ y349 t352 t353 _ ?side1 ?side2 ?side3 ?side4 A4.out).mono ?_); (case side1 => repeat (first | exact (Kd.R_reads' HO348.out).2.2 | (with_reducible refine Kd.C_alloc ?_ _) | (with_reducible refine Kd.C_drewN ?_ _) | (with_reducible refine Kd.C_drew ?_))); (case side2 => exact (Kd.R_reads' HO348.out).2.1); (case side3 => repeat (first | exact (Kd.R_reads' HO351.out).2.2 | (with_reducible refine Kd.C_alloc ?_ _) | (with_reducible refine Kd.C_drewN ?_ _) | (with_reducible refine Kd.C_drew ?_))); (case side4 => exact (Kd.R_reads' HO351.out).2.1); rintro e w39 ⟨v354, rfl, ho0, hb⟩; refine ⟨_, rfl, ?_⟩; have n0_ := Aside0.mk (Kd.R_elder' (by (with_reducible repeat (first | apply Kd.R_alloc | apply Kd.R_drewN | apply Kd.R_drew)); exact HO321.out) (Kd.R_base ho0) hb); have n1_ := Aside0.mk (Kd.R_elder' (by (with_reducible repeat (first | apply Kd.R_alloc | apply Kd.R_drewN | apply Kd.R_drew)); exact HO325.out) (Kd.R_base ho0) hb); have n2_ := Aside0.mk (Kd.R_elder' (by (with_reducible repeat (first | apply Kd.R_alloc | apply Kd.R_drewN | apply Kd.R_drew)); exact HO328.out) (Kd.R_base ho0) hb); have n3_ := Aside0.mk (Kd.R_elder' (by (with_reducible repeat (first | apply Kd.R_alloc | apply Kd.R_drewN | apply Kd.R_drew)); exact HO332.out) (Kd.R_base ho0) hb); have n4_ := Aside0.mk (Kd.R_elder' (by (with_reducible repeat (first | apply Kd.R_alloc | apply Kd.R_drewN | apply Kd.R_drew)); exact HO335.out) (Kd.R_base ho0) hb); have n5_ := Aside0.mk (Kd.R_elder' (by (with_reducible repeat (first | apply Kd.R_alloc | apply Kd.R_drewN | apply Kd.R_drew)); exact HO338.out) (Kd.R_base ho0) hb); have n6_ := Aside0.mk (Kd.R_elder' (by (with_reducible repeat (first | apply Kd.R_alloc | apply Kd.R_drewN | apply Kd.R_drew)); exact HO343.out) (Kd.R_base ho0) hb); have n7_ := Aside0.mk (Kd.R_elder' (by (with_reducible repeat (first | apply Kd.R_alloc | apply Kd.R_drewN | apply Kd.R_drew)); exact HO345.out) (Kd.R_base ho0) hb); have n8_ := Aside0.mk (Kd.R_elder' (by (with_reducible repeat (first | apply Kd.R_alloc | apply Kd.R_drewN | apply Kd.R_drew)); exact HO348.out) (Kd.R_base ho0) hb); have n9_ := Aside0.mk (Kd.R_elder' (by (with_reducible repeat (first | apply Kd.R_alloc | apply Kd.R_drewN | apply Kd.R_drew)); exact HO351.out) (Kd.R_base ho0) hb); have n10_ := Aside0.mk (Kd.R_lower (Kd.R_new' (Kd.R_new' (Kd.R_new' (Kd.R_new' (Kd.R_new' (Kd.R_new' (Kd.R_new' (Kd.R_new' (Kd.R_new' (Kd.R_new' ho0 (Kd.R_lt (by (with_reducible repeat (first | apply Kd.R_alloc | apply Kd.R_drewN | apply Kd.R_drew)); exact HO321.out))) (Kd.R_lt (by (with_reducible repeat (first | apply Kd.R_alloc | apply Kd.R_drewN | apply Kd.R_drew)); exact HO325.out))) (Kd.R_lt (by (with_reducible repeat (first | apply Kd.R_alloc | apply Kd.R_drewN | apply Kd.R_drew)); exact HO328.out))) (Kd.R_lt (by (with_reducible repeat (first | apply Kd.R_alloc | apply Kd.R_drewN | apply Kd.R_drew)); exact HO332.out))) (Kd.R_lt (by (with_reducible repeat (first | apply Kd.R_alloc | apply Kd.R_drewN | apply Kd.R_drew)); exact HO335.out))) (Kd.R_lt (by (with_reducible repeat (first | apply Kd.R_alloc | apply Kd.R_drewN | apply Kd.R_drew)); exact HO338.out))) (Kd.R_lt (by (with_reducible repeat (first | apply Kd.R_alloc | apply Kd.R_drewN | apply Kd.R_drew)); exact HO343.out))) (Kd.R_lt (by (with_reducible repeat (first | apply Kd.R_alloc | apply Kd.R_drewN | apply Kd.R_drew)); exact HO345.out))) (Kd.R_lt (by (with_reducible repeat (first | apply Kd.R_alloc | apply Kd.R_drewN | apply Kd.R_drew)); exact HO348.out))) (Kd.R_lt (by (with_reducible repeat (first | apply Kd.R_alloc | apply Kd.R_drewN | apply Kd.R_drew)); exact HO351.out))) (below_size (by repeat (first | (with_reducible first | exact HB.out | apply below_alloc | apply pw_below_drewN | apply below_drew1) | exact HB.out)))); have n11_ := Aside0.mk (below_step (by repeat (first | (with_reducible first | exact HB.out | apply below_alloc | apply pw_below_drewN | apply below_drew1) | exact HB.out)) hb); clear HO321; clear HO325; clear HO328; clear HO332; clear HO335; clear HO338; clear HO343; clear HO345; clear HO348; clear HO351; clear HB; have HO321 := n0_; have HO325 := n1_; have HO328 := n2_; have HO332 := n3_; have HO335 := n4_; have HO338 := n5_; have HO343 := n6_; have HO345 := n7_; have HO348 := n8_; have HO351 := n9_; have HO355 := n10_; have HB := n11_; clear n0_ n1_ n2_ n3_ n4_ n5_ n6_ n7_ n8_ n9_ n10_ n11_; (try clear hb); (try clear hb2); (try clear hk); (try clear hi); (try clear ho0)) | (go_at_call 51; (with_reducible refine (reckonerref02_Parse.calls k (⟨#[49, 48, 48, 48, 48, 48, 48, 48, 48, 48, 48, 48, 48, 48, 48, 48, 48, 48, 48, 48, 48]⟩ : ByteArray) t356 _ A6.out).mono ?_); rintro e w40 ⟨v357, rfl, ho0, hb⟩; have n0_ := Aside0.mk (Kd.R_elder' (by (with_reducible repeat (first | apply Kd.R_alloc | apply Kd.R_drewN | apply Kd.R_drew)); exact HO321.out) (Kd.R_base ho0) hb); have n1_ := Aside0.mk (Kd.R_elder' (by (with_reducible repeat (first | apply Kd.R_alloc | apply Kd.R_drewN | apply Kd.R_drew)); exact HO325.out) (Kd.R_base ho0) hb); have n2_ := Aside0.mk (Kd.R_elder' (by (with_reducible repeat (first | apply Kd.R_alloc | apply Kd.R_drewN | apply Kd.R_drew)); exact HO328.out) (Kd.R_base ho0) hb); have n3_ := Aside0.mk (Kd.R_elder' (by (with_reducible repeat (first | apply Kd.R_alloc | apply Kd.R_drewN | apply Kd.R_drew)); exact HO332.out) (Kd.R_base ho0) hb); have n4_ := Aside0.mk (Kd.R_elder' (by (with_reducible repeat (first | apply Kd.R_alloc | apply Kd.R_drewN | apply Kd.R_drew)); exact HO335.out) (Kd.R_base ho0) hb); have n5_ := Aside0.mk (Kd.R_elder' (by (with_reducible repeat (first | apply Kd.R_alloc | apply Kd.R_drewN | apply Kd.R_drew)); exact HO338.out) (Kd.R_base ho0) hb); have n6_ := Aside0.mk (Kd.R_elder' (by (with_reducible repeat (first | apply Kd.R_alloc | apply Kd.R_drewN | apply Kd.R_drew)); exact HO343.out) (Kd.R_base ho0) hb); have n7_ := Aside0.mk (Kd.R_elder' (by (with_reducible repeat (first | apply Kd.R_alloc | apply Kd.R_drewN | apply Kd.R_drew)); exact HO345.out) (Kd.R_base ho0) hb); have n8_ := Aside0.mk (Kd.R_elder' (by (with_reducible repeat (first | apply Kd.R_alloc | apply Kd.R_drewN | apply Kd.R_drew)); exact HO348.out) (Kd.R_base ho0) hb); have n9_ := Aside0.mk (Kd.R_elder' (by (with_reducible repeat (first | apply Kd.R_alloc | apply Kd.R_drewN | apply Kd.R_drew)); exact HO351.out) (Kd.R_base ho0) hb); have n10_ := Aside0.mk (Kd.R_elder' (by (with_reducible repeat (first | apply Kd.R_alloc | apply Kd.R_drewN | apply Kd.R_drew)); exact HO355.out) (Kd.R_base ho0) hb); have n11_ := Aside0.mk (Kd.R_lower (Kd.R_new' (Kd.R_new' (Kd.R_new' (Kd.R_new' (Kd.R_new' (Kd.R_new' (Kd.R_new' (Kd.R_new' (Kd.R_new' (Kd.R_new' (Kd.R_new' ho0 (Kd.R_lt (by (with_reducible repeat (first | apply Kd.R_alloc | apply Kd.R_drewN | apply Kd.R_drew)); exact HO321.out))) (Kd.R_lt (by (with_reducible repeat (first | apply Kd.R_alloc | apply Kd.R_drewN | apply Kd.R_drew)); exact HO325.out))) (Kd.R_lt (by (with_reducible repeat (first | apply Kd.R_alloc | apply Kd.R_drewN | apply Kd.R_drew)); exact HO328.out))) (Kd.R_lt (by (with_reducible repeat (first | apply Kd.R_alloc | apply Kd.R_drewN | apply Kd.R_drew)); exact HO332.out))) (Kd.R_lt (by (with_reducible repeat (first | apply Kd.R_alloc | apply Kd.R_drewN | apply Kd.R_drew)); exact HO335.out))) (Kd.R_lt (by (with_reducible repeat (first | apply Kd.R_alloc | apply Kd.R_drewN | apply Kd.R_drew)); exact HO338.out))) (Kd.R_lt (by (with_reducible repeat (first | apply Kd.R_alloc | apply Kd.R_drewN | apply Kd.R_drew)); exact HO343.out))) (Kd.R_lt (by (with_reducible repeat (first | apply Kd.R_alloc | apply Kd.R_drewN | apply Kd.R_drew)); exact HO345.out))) (Kd.R_lt (by (with_reducible repeat (first | apply Kd.R_alloc | apply Kd.R_drewN | apply Kd.R_drew)); exact HO348.out))) (Kd.R_lt (by (with_reducible repeat (first | apply Kd.R_alloc | apply Kd.R_drewN | apply Kd.R_drew)); exact HO351.out))) (Kd.R_lt (by (with_reducible repeat (first | apply Kd.R_alloc | apply Kd.R_drewN | apply Kd.R_drew)); exact HO355.out))) (below_size (by repeat (first | (with_reducible first | exact HB.out | apply below_alloc | apply pw_below_drewN | apply below_drew1) | exact HB.out)))); have n12_ := Aside0.mk (below_step (by repeat (first | (with_reducible first | exact HB.out | apply below_alloc | apply pw_below_drewN | apply below_drew1) | exact HB.out)) hb); clear HO321; clear HO325; clear HO328; clear HO332; clear HO335; clear HO338; clear HO343; clear HO345; clear HO348; clear HO351; clear HO355; clear HB; have HO321 := n0_; have HO325 := n1_; have HO328 := n2_; have HO332 := n3_; have HO335 := n4_; have HO338 := n5_; have HO343 := n6_; have HO345 := n7_; have HO348 := n8_; have HO351 := n9_; have HO355 := n10_; have HO358 := n11_; have HB := n12_; clear n0_ n1_ n2_ n3_ n4_ n5_ n6_ n7_ n8_ n9_ n10_ n11_ n12_; (try clear hb); (try clear hb2); (try clear hk); (try clear hi); (try clear ho0); obtain ⟨Ao41, co41, eo41⟩ := Kd.R_slice HO325.out; subst eo41; obtain ⟨Ao42, co42, eo42⟩ := Kd.R_slice HO358.out; subst eo42) | (go_at_call 12; (with_reducible refine (reckonerref02_Is.calls k _ _ t322 _ _ t356 true _ ?side1 ?side2 ?side3 ?side4 A7.out).mono ?_); (case side1 => repeat (first | exact (Kd.R_reads' HO325.out).2.2 | (with_reducible refine Kd.C_alloc ?_ _) | (with_reducible refine Kd.C_drewN ?_ _) | (with_reducible refine Kd.C_drew ?_))); (case side2 => exact (Kd.R_reads' HO325.out).2.1); (case side3 => repeat (first | exact (Kd.R_reads' HO358.out).2.2 | (with_reducible refine Kd.C_alloc ?_ _) | (with_reducible refine Kd.C_drewN ?_ _) | (with_reducible refine Kd.C_drew ?_))); (case side4 => exact (Kd.R_reads' HO358.out).2.1); rintro e w43 ⟨rfl, hb⟩; have n0_ := Aside0.mk (Kd.R_below (by (with_reducible repeat (first | apply Kd.R_alloc | apply Kd.R_drewN | apply Kd.R_drew)); exact HO321.out) hb); have n1_ := Aside0.mk (Kd.R_below (by (with_reducible repeat (first | apply Kd.R_alloc | apply Kd.R_drewN | apply Kd.R_drew)); exact HO325.out) hb); have n2_ := Aside0.mk (Kd.R_below (by (with_reducible repeat (first | apply Kd.R_alloc | apply Kd.R_drewN | apply Kd.R_drew)); exact HO328.out) hb); have n3_ := Aside0.mk (Kd.R_below (by (with_reducible repeat (first | apply Kd.R_alloc | apply Kd.R_drewN | apply Kd.R_drew)); exact HO332.out) hb); have n4_ := Aside0.mk (Kd.R_below (by (with_reducible repeat (first | apply Kd.R_alloc | apply Kd.R_drewN | apply Kd.R_drew)); exact HO335.out) hb); have n5_ := Aside0.mk (Kd.R_below (by (with_reducible repeat (first | apply Kd.R_alloc | apply Kd.R_drewN | apply Kd.R_drew)); exact HO338.out) hb); have n6_ := Aside0.mk (Kd.R_below (by (with_reducible repeat (first | apply Kd.R_alloc | apply Kd.R_drewN | apply Kd.R_drew)); exact HO343.out) hb); have n7_ := Aside0.mk (Kd.R_below (by (with_reducible repeat (first | apply Kd.R_alloc | apply Kd.R_drewN | apply Kd.R_drew)); exact HO345.out) hb); have n8_ := Aside0.mk (Kd.R_below (by (with_reducible repeat (first | apply Kd.R_alloc | apply Kd.R_drewN | apply Kd.R_drew)); exact HO348.out) hb); have n9_ := Aside0.mk (Kd.R_below (by (with_reducible repeat (first | apply Kd.R_alloc | apply Kd.R_drewN | apply Kd.R_drew)); exact HO351.out) hb); have n10_ := Aside0.mk (Kd.R_below (by (with_reducible repeat (first | apply Kd.R_alloc | apply Kd.R_drewN | apply Kd.R_drew)); exact HO355.out) hb); have n11_ := Aside0.mk (Kd.R_below (by (with_reducible repeat (first | apply Kd.R_alloc | apply Kd.R_drewN | apply Kd.R_drew)); exact HO358.out) hb); have n12_ := Aside0.mk (below_step (by repeat (first | (with_reducible first | exact HB.out | apply below_alloc | apply pw_below_drewN | apply below_drew1) | exact HB.out)) hb); clear HO321; clear HO325; clear HO328; clear HO332; clear HO335; clear HO338; clear HO343; clear HO345; clear HO348; clear HO351; clear HO355; clear HO358; clear HB; have HO321 := n0_; have HO325 := n1_; have HO328 := n2_; have HO332 := n3_; have HO335 := n4_; have HO338 := n5_; have HO343 := n6_; have HO345 := n7_; have HO348 := n8_; have HO351 := n9_; have HO355 := n10_; have HO358 := n11_; have HB := n12_; clear n0_ n1_ n2_ n3_ n4_ n5_ n6_ n7_ n8_ n9_ n10_ n11_ n12_; (try clear hb); (try clear hb2); (try clear hk); (try clear hi)) | ((with_reducible refine gate_dst (N := 46) rfl ?_); (try (refine gate_guard (by rfl) ?_; dsimp only)); refine Kd.R_lit (Kd.int .u64) _ 36 ?hg (N := 46) ?hd (xs := ([1, 18446744073709551614] : List Int)) (inner := [.int .u64 1, .int .u64 18446744073709551614]) (ok := fun _ => True) (okp := fun _ => True) ?hr ?hp (fun _ hk => hk) trivial (Below.refl _ _) (Nat.le_refl _) (by simp) ?_; (case hd => rfl); (case hg => rfl); (case hr => first | (go_simp; done) | (go_simp; rfl)); (case hp => exact (Reps.one (show Kd.M (Kd.int .u64) _ _ _ 1 [.int .u64 1] from rfl) (Reps.one (show Kd.M (Kd.int .u64) _ _ _ 18446744073709551614 [.int .u64 18446744073709551614] from rfl) (Reps.none _ _)))); intro v361 w44 ho45 hb hg_ hnew_; clear hg_ hnew_; (first | rw [← Ny360.out] at ho45 | (simp only [Int.reduceToNat] at ho45; rw [← Ny360.out] at ho45)); have n0_ := Aside0.mk (Kd.R_elder' (by (with_reducible repeat (first | apply Kd.R_alloc | apply Kd.R_drewN | apply Kd.R_drew)); exact HO321.out) (Kd.R_base ho45) hb); have n1_ := Aside0.mk (Kd.R_elder' (by (with_reducible repeat (first | apply Kd.R_alloc | apply Kd.R_drewN | apply Kd.R_drew)); exact HO325.out) (Kd.R_base ho45) hb); have n2_ := Aside0.mk (Kd.R_elder' (by (with_reducible repeat (first | apply Kd.R_alloc | apply Kd.R_drewN | apply Kd.R_drew)); exact HO328.out) (Kd.R_base ho45) hb); have n3_ := Aside0.mk (Kd.R_elder' (by (with_reducible repeat (first | apply Kd.R_alloc | apply Kd.R_drewN | apply Kd.R_drew)); exact HO332.out) (Kd.R_base ho45) hb); have n4_ := Aside0.mk (Kd.R_elder' (by (with_reducible repeat (first | apply Kd.R_alloc | apply Kd.R_drewN | apply Kd.R_drew)); exact HO335.out) (Kd.R_base ho45) hb); have n5_ := Aside0.mk (Kd.R_elder' (by (with_reducible repeat (first | apply Kd.R_alloc | apply Kd.R_drewN | apply Kd.R_drew)); exact HO338.out) (Kd.R_base ho45) hb); have n6_ := Aside0.mk (Kd.R_elder' (by (with_reducible repeat (first | apply Kd.R_alloc | apply Kd.R_drewN | apply Kd.R_drew)); exact HO343.out) (Kd.R_base ho45) hb); have n7_ := Aside0.mk (Kd.R_elder' (by (with_reducible repeat (first | apply Kd.R_alloc | apply Kd.R_drewN | apply Kd.R_drew)); exact HO345.out) (Kd.R_base ho45) hb); have n8_ := Aside0.mk (Kd.R_elder' (by (with_reducible repeat (first | apply Kd.R_alloc | apply Kd.R_drewN | apply Kd.R_drew)); exact HO348.out) (Kd.R_base ho45) hb); have n9_ := Aside0.mk (Kd.R_elder' (by (with_reducible repeat (first | apply Kd.R_alloc | apply Kd.R_drewN | apply Kd.R_drew)); exact HO351.out) (Kd.R_base ho45) hb); have n10_ := Aside0.mk (Kd.R_elder' (by (with_reducible repeat (first | apply Kd.R_alloc | apply Kd.R_drewN | apply Kd.R_drew)); exact HO355.out) (Kd.R_base ho45) hb); have n11_ := Aside0.mk (Kd.R_elder' (by (with_reducible repeat (first | apply Kd.R_alloc | apply Kd.R_drewN | apply Kd.R_drew)); exact HO358.out) (Kd.R_base ho45) hb); have n12_ := Aside0.mk (Kd.R_lower (Kd.R_new' (Kd.R_new' (Kd.R_new' (Kd.R_new' (Kd.R_new' (Kd.R_new' (Kd.R_new' (Kd.R_new' (Kd.R_new' (Kd.R_new' (Kd.R_new' (Kd.R_new' ho45 (Kd.R_lt (by (with_reducible repeat (first | apply Kd.R_alloc | apply Kd.R_drewN | apply Kd.R_drew)); exact HO321.out))) (Kd.R_lt (by (with_reducible repeat (first | apply Kd.R_alloc | apply Kd.R_drewN | apply Kd.R_drew)); exact HO325.out))) (Kd.R_lt (by (with_reducible repeat (first | apply Kd.R_alloc | apply Kd.R_drewN | apply Kd.R_drew)); exact HO328.out))) (Kd.R_lt (by (with_reducible repeat (first | apply Kd.R_alloc | apply Kd.R_drewN | apply Kd.R_drew)); exact HO332.out))) (Kd.R_lt (by (with_reducible repeat (first | apply Kd.R_alloc | apply Kd.R_drewN | apply Kd.R_drew)); exact HO335.out))) (Kd.R_lt (by (with_reducible repeat (first | apply Kd.R_alloc | apply Kd.R_drewN | apply Kd.R_drew)); exact HO338.out))) (Kd.R_lt (by (with_reducible repeat (first | apply Kd.R_alloc | apply Kd.R_drewN | apply Kd.R_drew)); exact HO343.out))) (Kd.R_lt (by (with_reducible repeat (first | apply Kd.R_alloc | apply Kd.R_drewN | apply Kd.R_drew)); exact HO345.out))) (Kd.R_lt (by (with_reducible repeat (first | apply Kd.R_alloc | apply Kd.R_drewN | apply Kd.R_drew)); exact HO348.out))) (Kd.R_lt (by (with_reducible repeat (first | apply Kd.R_alloc | apply Kd.R_drewN | apply Kd.R_drew)); exact HO351.out))) (Kd.R_lt (by (with_reducible repeat (first | apply Kd.R_alloc | apply Kd.R_drewN | apply Kd.R_drew)); exact HO355.out))) (Kd.R_lt (by (with_reducible repeat (first | apply Kd.R_alloc | apply Kd.R_drewN | apply Kd.R_drew)); exact HO358.out))) (below_size (by repeat (first | (with_reducible first | exact HB.out | apply below_alloc | apply pw_below_drewN | apply below_drew1) | exact HB.out)))); have n13_ := Aside0.mk (below_step (by repeat (first | (with_reducible first | exact HB.out | apply below_alloc | apply pw_below_drewN | apply below_drew1) | exact HB.out)) hb); clear HO321; clear HO325; clear HO328; clear HO332; clear HO335; clear HO338; clear HO343; clear HO345; clear HO348; clear HO351; clear HO355; clear HO358; clear HB; have HO321 := n0_; have HO325 := n1_; have HO328 := n2_; have HO332 := n3_; have HO335 := n4_; have HO338 := n5_; have HO343 := n6_; have HO345 := n7_; have HO348 := n8_; have HO351 := n9_; have HO355 := n10_; have HO358 := n11_; have HO362 := n12_; have HB := n13_; clear n0_ n1_ n2_ n3_ n4_ n5_ n6_ n7_ n8_ n9_ n10_ n11_ n12_ n13_; clear hb ho45; obtain ⟨Ao46, co46, eo46⟩ := Kd.R_slice HO332.out; subst eo46; obtain ⟨Ao47, co47, eo47⟩ := Kd.R_slice HO362.out; subst eo47) | (go_at_call 12; (with_reducible refine (reckonerref02_Is.calls k _ _ t329 _ _ y360 true _ ?side1 ?side2 ?side3 ?side4 A10.out).mono ?_); (case side1 => repeat (first | exact (Kd.R_reads' HO332.out).2.2 | (with_reducible refine Kd.C_alloc ?_ _) | (with_reducible refine Kd.C_drewN ?_ _) | (with_reducible refine Kd.C_drew ?_))); (case side2 => exact (Kd.R_reads' HO332.out).2.1); (case side3 => repeat (first | exact (Kd.R_reads' HO362.out).2.2 | (with_reducible refine Kd.C_alloc ?_ _) | (with_reducible refine Kd.C_drewN ?_ _) | (with_reducible refine Kd.C_drew ?_))); (case side4 => exact (Kd.R_reads' HO362.out).2.1); rintro e w48 ⟨rfl, hb⟩; have n0_ := Aside0.mk (Kd.R_below (by (with_reducible repeat (first | apply Kd.R_alloc | apply Kd.R_drewN | apply Kd.R_drew)); exact HO321.out) hb); have n1_ := Aside0.mk (Kd.R_below (by (with_reducible repeat (first | apply Kd.R_alloc | apply Kd.R_drewN | apply Kd.R_drew)); exact HO325.out) hb); have n2_ := Aside0.mk (Kd.R_below (by (with_reducible repeat (first | apply Kd.R_alloc | apply Kd.R_drewN | apply Kd.R_drew)); exact HO328.out) hb); have n3_ := Aside0.mk (Kd.R_below (by (with_reducible repeat (first | apply Kd.R_alloc | apply Kd.R_drewN | apply Kd.R_drew)); exact HO332.out) hb); have n4_ := Aside0.mk (Kd.R_below (by (with_reducible repeat (first | apply Kd.R_alloc | apply Kd.R_drewN | apply Kd.R_drew)); exact HO335.out) hb); have n5_ := Aside0.mk (Kd.R_below (by (with_reducible repeat (first | apply Kd.R_alloc | apply Kd.R_drewN | apply Kd.R_drew)); exact HO338.out) hb); have n6_ := Aside0.mk (Kd.R_below (by (with_reducible repeat (first | apply Kd.R_alloc | apply Kd.R_drewN | apply Kd.R_drew)); exact HO343.out) hb); have n7_ := Aside0.mk (Kd.R_below (by (with_reducible repeat (first | apply Kd.R_alloc | apply Kd.R_drewN | apply Kd.R_drew)); exact HO345.out) hb); have n8_ := Aside0.mk (Kd.R_below (by (with_reducible repeat (first | apply Kd.R_alloc | apply Kd.R_drewN | apply Kd.R_drew)); exact HO348.out) hb); have n9_ := Aside0.mk (Kd.R_below (by (with_reducible repeat (first | apply Kd.R_alloc | apply Kd.R_drewN | apply Kd.R_drew)); exact HO351.out) hb); have n10_ := Aside0.mk (Kd.R_below (by (with_reducible repeat (first | apply Kd.R_alloc | apply Kd.R_drewN | apply Kd.R_drew)); exact HO355.out) hb); have n11_ := Aside0.mk (Kd.R_below (by (with_reducible repeat (first | apply Kd.R_alloc | apply Kd.R_drewN | apply Kd.R_drew)); exact HO358.out) hb); have n12_ := Aside0.mk (Kd.R_below (by (with_reducible repeat (first | apply Kd.R_alloc | apply Kd.R_drewN | apply Kd.R_drew)); exact HO362.out) hb); have n13_ := Aside0.mk (below_step (by repeat (first | (with_reducible first | exact HB.out | apply below_alloc | apply pw_below_drewN | apply below_drew1) | exact HB.out)) hb); clear HO321; clear HO325; clear HO328; clear HO332; clear HO335; clear HO338; clear HO343; clear HO345; clear HO348; clear HO351; clear HO355; clear HO358; clear HO362; clear HB; have HO321 := n0_; have HO325 := n1_; have HO328 := n2_; have HO332 := n3_; have HO335 := n4_; have HO338 := n5_; have HO343 := n6_; have HO345 := n7_; have HO348 := n8_; have HO351 := n9_; have HO355 := n10_; have HO358 := n11_; have HO362 := n12_; have HB := n13_; clear n0_ n1_ n2_ n3_ n4_ n5_ n6_ n7_ n8_ n9_ n10_ n11_ n12_ n13_; (try clear hb); (try clear hb2); (try clear hk); (try clear hi)) | (go_at_call 51; (with_reducible refine (reckonerref02_Parse.calls k (⟨#[51, 51, 51, 51, 51, 51, 51, 51, 51, 51, 51, 51, 51, 51, 51, 51, 51, 51, 51, 51]⟩ : ByteArray) t364 _ A13.out).mono ?_); rintro e w49 ⟨v365, rfl, ho0, hb⟩; have n0_ := Aside0.mk (Kd.R_elder' (by (with_reducible repeat (first | apply Kd.R_alloc | apply Kd.R_drewN | apply Kd.R_drew)); exact HO321.out) (Kd.R_base ho0) hb); have n1_ := Aside0.mk (Kd.R_elder' (by (with_reducible repeat (first | apply Kd.R_alloc | apply Kd.R_drewN | apply Kd.R_drew)); exact HO325.out) (Kd.R_base ho0) hb); have n2_ := Aside0.mk (Kd.R_elder' (by (with_reducible repeat (first | apply Kd.R_alloc | apply Kd.R_drewN | apply Kd.R_drew)); exact HO328.out) (Kd.R_base ho0) hb); have n3_ := Aside0.mk (Kd.R_elder' (by (with_reducible repeat (first | apply Kd.R_alloc | apply Kd.R_drewN | apply Kd.R_drew)); exact HO332.out) (Kd.R_base ho0) hb); have n4_ := Aside0.mk (Kd.R_elder' (by (with_reducible repeat (first | apply Kd.R_alloc | apply Kd.R_drewN | apply Kd.R_drew)); exact HO335.out) (Kd.R_base ho0) hb); have n5_ := Aside0.mk (Kd.R_elder' (by (with_reducible repeat (first | apply Kd.R_alloc | apply Kd.R_drewN | apply Kd.R_drew)); exact HO338.out) (Kd.R_base ho0) hb); have n6_ := Aside0.mk (Kd.R_elder' (by (with_reducible repeat (first | apply Kd.R_alloc | apply Kd.R_drewN | apply Kd.R_drew)); exact HO343.out) (Kd.R_base ho0) hb); have n7_ := Aside0.mk (Kd.R_elder' (by (with_reducible repeat (first | apply Kd.R_alloc | apply Kd.R_drewN | apply Kd.R_drew)); exact HO345.out) (Kd.R_base ho0) hb); have n8_ := Aside0.mk (Kd.R_elder' (by (with_reducible repeat (first | apply Kd.R_alloc | apply Kd.R_drewN | apply Kd.R_drew)); exact HO348.out) (Kd.R_base ho0) hb); have n9_ := Aside0.mk (Kd.R_elder' (by (with_reducible repeat (first | apply Kd.R_alloc | apply Kd.R_drewN | apply Kd.R_drew)); exact HO351.out) (Kd.R_base ho0) hb); have n10_ := Aside0.mk (Kd.R_elder' (by (with_reducible repeat (first | apply Kd.R_alloc | apply Kd.R_drewN | apply Kd.R_drew)); exact HO355.out) (Kd.R_base ho0) hb); have n11_ := Aside0.mk (Kd.R_elder' (by (with_reducible repeat (first | apply Kd.R_alloc | apply Kd.R_drewN | apply Kd.R_drew)); exact HO358.out) (Kd.R_base ho0) hb); have n12_ := Aside0.mk (Kd.R_elder' (by (with_reducible repeat (first | apply Kd.R_alloc | apply Kd.R_drewN | apply Kd.R_drew)); exact HO362.out) (Kd.R_base ho0) hb); have n13_ := Aside0.mk (Kd.R_lower (Kd.R_new' (Kd.R_new' (Kd.R_new' (Kd.R_new' (Kd.R_new' (Kd.R_new' (Kd.R_new' (Kd.R_new' (Kd.R_new' (Kd.R_new' (Kd.R_new' (Kd.R_new' (Kd.R_new' ho0 (Kd.R_lt (by (with_reducible repeat (first | apply Kd.R_alloc | apply Kd.R_drewN | apply Kd.R_drew)); exact HO321.out))) (Kd.R_lt (by (with_reducible repeat (first | apply Kd.R_alloc | apply Kd.R_drewN | apply Kd.R_drew)); exact HO325.out))) (Kd.R_lt (by (with_reducible repeat (first | apply Kd.R_alloc | apply Kd.R_drewN | apply Kd.R_drew)); exact HO328.out))) (Kd.R_lt (by (with_reducible repeat (first | apply Kd.R_alloc | apply Kd.R_drewN | apply Kd.R_drew)); exact HO332.out))) (Kd.R_lt (by (with_reducible repeat (first | apply Kd.R_alloc | apply Kd.R_drewN | apply Kd.R_drew)); exact HO335.out))) (Kd.R_lt (by (with_reducible repeat (first | apply Kd.R_alloc | apply Kd.R_drewN | apply Kd.R_drew)); exact HO338.out))) (Kd.R_lt (by (with_reducible repeat (first | apply Kd.R_alloc | apply Kd.R_drewN | apply Kd.R_drew)); exact HO343.out))) (Kd.R_lt (by (with_reducible repeat (first | apply Kd.R_alloc | apply Kd.R_drewN | apply Kd.R_drew)); exact HO345.out))) (Kd.R_lt (by (with_reducible repeat (first | apply Kd.R_alloc | apply Kd.R_drewN | apply Kd.R_drew)); exact HO348.out))) (Kd.R_lt (by (with_reducible repeat (first | apply Kd.R_alloc | apply Kd.R_drewN | apply Kd.R_drew)); exact HO351.out))) (Kd.R_lt (by (with_reducible repeat (first | apply Kd.R_alloc | apply Kd.R_drewN | apply Kd.R_drew)); exact HO355.out))) (Kd.R_lt (by (with_reducible repeat (first | apply Kd.R_alloc | apply Kd.R_drewN | apply Kd.R_drew)); exact HO358.out))) (Kd.R_lt (by (with_reducible repeat (first | apply Kd.R_alloc | apply Kd.R_drewN | apply Kd.R_drew)); exact HO362.out))) (below_size (by repeat (first | (with_reducible first | exact HB.out | apply below_alloc | apply pw_below_drewN | apply below_drew1) | exact HB.out)))); have n14_ := Aside0.mk (below_step (by repeat (first | (with_reducible first | exact HB.out | apply below_alloc | apply pw_below_drewN | apply below_drew1) | exact HB.out)) hb); clear HO321; clear HO325; clear HO328; clear HO332; clear HO335; clear HO338; clear HO343; clear HO345; clear HO348; clear HO351; clear HO355; clear HO358; clear HO362; clear HB; have HO321 := n0_; have HO325 := n1_; have HO328 := n2_; have HO332 := n3_; have HO335 := n4_; have HO338 := n5_; have HO343 := n6_; have HO345 := n7_; have HO348 := n8_; have HO351 := n9_; have HO355 := n10_; have HO358 := n11_; have HO362 := n12_; have HO366 := n13_; have HB := n14_; clear n0_ n1_ n2_ n3_ n4_ n5_ n6_ n7_ n8_ n9_ n10_ n11_ n12_ n13_ n14_; (try clear hb); (try clear hb2); (try clear hk); (try clear hi); (try clear ho0); obtain ⟨Ao50, co50, eo50⟩ := Kd.R_slice HO343.out; subst eo50; obtain ⟨Ao51, co51, eo51⟩ := Kd.R_slice HO366.out; subst eo51) | (go_at_call 12; (with_reducible refine (reckonerref02_Is.calls k _ _ t339 _ _ t364 true _ ?side1 ?side2 ?side3 ?side4 A14.out).mono ?_); (case side1 => repeat (first | exact (Kd.R_reads' HO343.out).2.2 | (with_reducible refine Kd.C_alloc ?_ _) | (with_reducible refine Kd.C_drewN ?_ _) | (with_reducible refine Kd.C_drew ?_))); (case side2 => exact (Kd.R_reads' HO343.out).2.1); (case side3 => repeat (first | exact (Kd.R_reads' HO366.out).2.2 | (with_reducible refine Kd.C_alloc ?_ _) | (with_reducible refine Kd.C_drewN ?_ _) | (with_reducible refine Kd.C_drew ?_))); (case side4 => exact (Kd.R_reads' HO366.out).2.1); rintro e w52 ⟨rfl, hb⟩; have n0_ := Aside0.mk (Kd.R_below (by (with_reducible repeat (first | apply Kd.R_alloc | apply Kd.R_drewN | apply Kd.R_drew)); exact HO321.out) hb); have n1_ := Aside0.mk (Kd.R_below (by (with_reducible repeat (first | apply Kd.R_alloc | apply Kd.R_drewN | apply Kd.R_drew)); exact HO325.out) hb); have n2_ := Aside0.mk (Kd.R_below (by (with_reducible repeat (first | apply Kd.R_alloc | apply Kd.R_drewN | apply Kd.R_drew)); exact HO328.out) hb); have n3_ := Aside0.mk (Kd.R_below (by (with_reducible repeat (first | apply Kd.R_alloc | apply Kd.R_drewN | apply Kd.R_drew)); exact HO332.out) hb); have n4_ := Aside0.mk (Kd.R_below (by (with_reducible repeat (first | apply Kd.R_alloc | apply Kd.R_drewN | apply Kd.R_drew)); exact HO335.out) hb); have n5_ := Aside0.mk (Kd.R_below (by (with_reducible repeat (first | apply Kd.R_alloc | apply Kd.R_drewN | apply Kd.R_drew)); exact HO338.out) hb); have n6_ := Aside0.mk (Kd.R_below (by (with_reducible repeat (first | apply Kd.R_alloc | apply Kd.R_drewN | apply Kd.R_drew)); exact HO343.out) hb); have n7_ := Aside0.mk (Kd.R_below (by (with_reducible repeat (first | apply Kd.R_alloc | apply Kd.R_drewN | apply Kd.R_drew)); exact HO345.out) hb); have n8_ := Aside0.mk (Kd.R_below (by (with_reducible repeat (first | apply Kd.R_alloc | apply Kd.R_drewN | apply Kd.R_drew)); exact HO348.out) hb); have n9_ := Aside0.mk (Kd.R_below (by (with_reducible repeat (first | apply Kd.R_alloc | apply Kd.R_drewN | apply Kd.R_drew)); exact HO351.out) hb); have n10_ := Aside0.mk (Kd.R_below (by (with_reducible repeat (first | apply Kd.R_alloc | apply Kd.R_drewN | apply Kd.R_drew)); exact HO355.out) hb); have n11_ := Aside0.mk (Kd.R_below (by (with_reducible repeat (first | apply Kd.R_alloc | apply Kd.R_drewN | apply Kd.R_drew)); exact HO358.out) hb); have n12_ := Aside0.mk (Kd.R_below (by (with_reducible repeat (first | apply Kd.R_alloc | apply Kd.R_drewN | apply Kd.R_drew)); exact HO362.out) hb); have n13_ := Aside0.mk (Kd.R_below (by (with_reducible repeat (first | apply Kd.R_alloc | apply Kd.R_drewN | apply Kd.R_drew)); exact HO366.out) hb); have n14_ := Aside0.mk (below_step (by repeat (first | (with_reducible first | exact HB.out | apply below_alloc | apply pw_below_drewN | apply below_drew1) | exact HB.out)) hb); clear HO321; clear HO325; clear HO328; clear HO332; clear HO335; clear HO338; clear HO343; clear HO345; clear HO348; clear HO351; clear HO355; clear HO358; clear HO362; clear HO366; clear HB; have HO321 := n0_; have HO325 := n1_; have HO328 := n2_; have HO332 := n3_; have HO335 := n4_; have HO338 := n5_; have HO343 := n6_; have HO345 := n7_; have HO348 := n8_; have HO351 := n9_; have HO355 := n10_; have HO358 := n11_; have HO362 := n12_; have HO366 := n13_; have HB := n14_; clear n0_ n1_ n2_ n3_ n4_ n5_ n6_ n7_ n8_ n9_ n10_ n11_ n12_ n13_ n14_; (try clear hb); (try clear hb2); (try clear hk); (try clear hi)) | ((with_reducible refine gate_dst (N := 60) rfl ?_); (try (refine gate_guard (by rfl) ?_; dsimp only)); refine Kd.R_lit (Kd.int .u64) _ 36 ?hg (N := 60) ?hd (xs := ([1] : List Int)) (inner := [.int .u64 1]) (ok := fun _ => True) (okp := fun _ => True) ?hr ?hp (fun _ hk => hk) trivial (Below.refl _ _) (Nat.le_refl _) (by simp) ?_; (case hd => rfl); (case hg => rfl); (case hr => first | (go_simp; done) | (go_simp; rfl)); (case hp => exact (Reps.one (show Kd.M (Kd.int .u64) _ _ _ 1 [.int .u64 1] from rfl) (Reps.none _ _))); intro v369 w53 ho54 hb hg_ hnew_; clear hg_ hnew_; (first | rw [← Ny368.out] at ho54 | (simp only [Int.reduceToNat] at ho54; rw [← Ny368.out] at ho54)); have n0_ := Aside0.mk (Kd.R_elder' (by (with_reducible repeat (first | apply Kd.R_alloc | apply Kd.R_drewN | apply Kd.R_drew)); exact HO321.out) (Kd.R_base ho54) hb); have n1_ := Aside0.mk (Kd.R_elder' (by (with_reducible repeat (first | apply Kd.R_alloc | apply Kd.R_drewN | apply Kd.R_drew)); exact HO325.out) (Kd.R_base ho54) hb); have n2_ := Aside0.mk (Kd.R_elder' (by (with_reducible repeat (first | apply Kd.R_alloc | apply Kd.R_drewN | apply Kd.R_drew)); exact HO328.out) (Kd.R_base ho54) hb); have n3_ := Aside0.mk (Kd.R_elder' (by (with_reducible repeat (first | apply Kd.R_alloc | apply Kd.R_drewN | apply Kd.R_drew)); exact HO332.out) (Kd.R_base ho54) hb); have n4_ := Aside0.mk (Kd.R_elder' (by (with_reducible repeat (first | apply Kd.R_alloc | apply Kd.R_drewN | apply Kd.R_drew)); exact HO335.out) (Kd.R_base ho54) hb); have n5_ := Aside0.mk (Kd.R_elder' (by (with_reducible repeat (first | apply Kd.R_alloc | apply Kd.R_drewN | apply Kd.R_drew)); exact HO338.out) (Kd.R_base ho54) hb); have n6_ := Aside0.mk (Kd.R_elder' (by (with_reducible repeat (first | apply Kd.R_alloc | apply Kd.R_drewN | apply Kd.R_drew)); exact HO343.out) (Kd.R_base ho54) hb); have n7_ := Aside0.mk (Kd.R_elder' (by (with_reducible repeat (first | apply Kd.R_alloc | apply Kd.R_drewN | apply Kd.R_drew)); exact HO345.out) (Kd.R_base ho54) hb); have n8_ := Aside0.mk (Kd.R_elder' (by (with_reducible repeat (first | apply Kd.R_alloc | apply Kd.R_drewN | apply Kd.R_drew)); exact HO348.out) (Kd.R_base ho54) hb); have n9_ := Aside0.mk (Kd.R_elder' (by (with_reducible repeat (first | apply Kd.R_alloc | apply Kd.R_drewN | apply Kd.R_drew)); exact HO351.out) (Kd.R_base ho54) hb); have n10_ := Aside0.mk (Kd.R_elder' (by (with_reducible repeat (first | apply Kd.R_alloc | apply Kd.R_drewN | apply Kd.R_drew)); exact HO355.out) (Kd.R_base ho54) hb); have n11_ := Aside0.mk (Kd.R_elder' (by (with_reducible repeat (first | apply Kd.R_alloc | apply Kd.R_drewN | apply Kd.R_drew)); exact HO358.out) (Kd.R_base ho54) hb); have n12_ := Aside0.mk (Kd.R_elder' (by (with_reducible repeat (first | apply Kd.R_alloc | apply Kd.R_drewN | apply Kd.R_drew)); exact HO362.out) (Kd.R_base ho54) hb); have n13_ := Aside0.mk (Kd.R_elder' (by (with_reducible repeat (first | apply Kd.R_alloc | apply Kd.R_drewN | apply Kd.R_drew)); exact HO366.out) (Kd.R_base ho54) hb); have n14_ := Aside0.mk (Kd.R_lower (Kd.R_new' (Kd.R_new' (Kd.R_new' (Kd.R_new' (Kd.R_new' (Kd.R_new' (Kd.R_new' (Kd.R_new' (Kd.R_new' (Kd.R_new' (Kd.R_new' (Kd.R_new' (Kd.R_new' (Kd.R_new' ho54 (Kd.R_lt (by (with_reducible repeat (first | apply Kd.R_alloc | apply Kd.R_drewN | apply Kd.R_drew)); exact HO321.out))) (Kd.R_lt (by (with_reducible repeat (first | apply Kd.R_alloc | apply Kd.R_drewN | apply Kd.R_drew)); exact HO325.out))) (Kd.R_lt (by (with_reducible repeat (first | apply Kd.R_alloc | apply Kd.R_drewN | apply Kd.R_drew)); exact HO328.out))) (Kd.R_lt (by (with_reducible repeat (first | apply Kd.R_alloc | apply Kd.R_drewN | apply Kd.R_drew)); exact HO332.out))) (Kd.R_lt (by (with_reducible repeat (first | apply Kd.R_alloc | apply Kd.R_drewN | apply Kd.R_drew)); exact HO335.out))) (Kd.R_lt (by (with_reducible repeat (first | apply Kd.R_alloc | apply Kd.R_drewN | apply Kd.R_drew)); exact HO338.out))) (Kd.R_lt (by (with_reducible repeat (first | apply Kd.R_alloc | apply Kd.R_drewN | apply Kd.R_drew)); exact HO343.out))) (Kd.R_lt (by (with_reducible repeat (first | apply Kd.R_alloc | apply Kd.R_drewN | apply Kd.R_drew)); exact HO345.out))) (Kd.R_lt (by (with_reducible repeat (first | apply Kd.R_alloc | apply Kd.R_drewN | apply Kd.R_drew)); exact HO348.out))) (Kd.R_lt (by (with_reducible repeat (first | apply Kd.R_alloc | apply Kd.R_drewN | apply Kd.R_drew)); exact HO351.out))) (Kd.R_lt (by (with_reducible repeat (first | apply Kd.R_alloc | apply Kd.R_drewN | apply Kd.R_drew)); exact HO355.out))) (Kd.R_lt (by (with_reducible repeat (first | apply Kd.R_alloc | apply Kd.R_drewN | apply Kd.R_drew)); exact HO358.out))) (Kd.R_lt (by (with_reducible repeat (first | apply Kd.R_alloc | apply Kd.R_drewN | apply Kd.R_drew)); exact HO362.out))) (Kd.R_lt (by (with_reducible repeat (first | apply Kd.R_alloc | apply Kd.R_drewN | apply Kd.R_drew)); exact HO366.out))) (below_size (by repeat (first | (with_reducible first | exact HB.out | apply below_alloc | apply pw_below_drewN | apply below_drew1) | exact HB.out)))); have n15_ := Aside0.mk (below_step (by repeat (first | (with_reducible first | exact HB.out | apply below_alloc | apply pw_below_drewN | apply below_drew1) | exact HB.out)) hb); clear HO321; clear HO325; clear HO328; clear HO332; clear HO335; clear HO338; clear HO343; clear HO345; clear HO348; clear HO351; clear HO355; clear HO358; clear HO362; clear HO366; clear HB; have HO321 := n0_; have HO325 := n1_; have HO328 := n2_; have HO332 := n3_; have HO335 := n4_; have HO338 := n5_; have HO343 := n6_; have HO345 := n7_; have HO348 := n8_; have HO351 := n9_; have HO355 := n10_; have HO358 := n11_; have HO362 := n12_; have HO366 := n13_; have HO370 := n14_; have HB := n15_; clear n0_ n1_ n2_ n3_ n4_ n5_ n6_ n7_ n8_ n9_ n10_ n11_ n12_ n13_ n14_ n15_; clear hb ho54; obtain ⟨Ao55, co55, eo55⟩ := Kd.R_slice HO345.out; subst eo55; obtain ⟨Ao56, co56, eo56⟩ := Kd.R_slice HO370.out; subst eo56) | (go_at_call 12; (with_reducible refine (reckonerref02_Is.calls k _ _ t340 _ _ y368 true _ ?side1 ?side2 ?side3 ?side4 A16.out).mono ?_); (case side1 => repeat (first | exact (Kd.R_reads' HO345.out).2.2 | (with_reducible refine Kd.C_alloc ?_ _) | (with_reducible refine Kd.C_drewN ?_ _) | (with_reducible refine Kd.C_drew ?_))); (case side2 => exact (Kd.R_reads' HO345.out).2.1); (case side3 => repeat (first | exact (Kd.R_reads' HO370.out).2.2 | (with_reducible refine Kd.C_alloc ?_ _) | (with_reducible refine Kd.C_drewN ?_ _) | (with_reducible refine Kd.C_drew ?_))); (case side4 => exact (Kd.R_reads' HO370.out).2.1); rintro e w57 ⟨rfl, hb⟩; have n0_ := Aside0.mk (Kd.R_below (by (with_reducible repeat (first | apply Kd.R_alloc | apply Kd.R_drewN | apply Kd.R_drew)); exact HO321.out) hb); have n1_ := Aside0.mk (Kd.R_below (by (with_reducible repeat (first | apply Kd.R_alloc | apply Kd.R_drewN | apply Kd.R_drew)); exact HO325.out) hb); have n2_ := Aside0.mk (Kd.R_below (by (with_reducible repeat (first | apply Kd.R_alloc | apply Kd.R_drewN | apply Kd.R_drew)); exact HO328.out) hb); have n3_ := Aside0.mk (Kd.R_below (by (with_reducible repeat (first | apply Kd.R_alloc | apply Kd.R_drewN | apply Kd.R_drew)); exact HO332.out) hb); have n4_ := Aside0.mk (Kd.R_below (by (with_reducible repeat (first | apply Kd.R_alloc | apply Kd.R_drewN | apply Kd.R_drew)); exact HO335.out) hb); have n5_ := Aside0.mk (Kd.R_below (by (with_reducible repeat (first | apply Kd.R_alloc | apply Kd.R_drewN | apply Kd.R_drew)); exact HO338.out) hb); have n6_ := Aside0.mk (Kd.R_below (by (with_reducible repeat (first | apply Kd.R_alloc | apply Kd.R_drewN | apply Kd.R_drew)); exact HO343.out) hb); have n7_ := Aside0.mk (Kd.R_below (by (with_reducible repeat (first | apply Kd.R_alloc | apply Kd.R_drewN | apply Kd.R_drew)); exact HO345.out) hb); have n8_ := Aside0.mk (Kd.R_below (by (with_reducible repeat (first | apply Kd.R_alloc | apply Kd.R_drewN | apply Kd.R_drew)); exact HO348.out) hb); have n9_ := Aside0.mk (Kd.R_below (by (with_reducible repeat (first | apply Kd.R_alloc | apply Kd.R_drewN | apply Kd.R_drew)); exact HO351.out) hb); have n10_ := Aside0.mk (Kd.R_below (by (with_reducible repeat (first | apply Kd.R_alloc | apply Kd.R_drewN | apply Kd.R_drew)); exact HO355.out) hb); have n11_ := Aside0.mk (Kd.R_below (by (with_reducible repeat (first | apply Kd.R_alloc | apply Kd.R_drewN | apply Kd.R_drew)); exact HO358.out) hb); have n12_ := Aside0.mk (Kd.R_below (by (with_reducible repeat (first | apply Kd.R_alloc | apply Kd.R_drewN | apply Kd.R_drew)); exact HO362.out) hb); have n13_ := Aside0.mk (Kd.R_below (by (with_reducible repeat (first | apply Kd.R_alloc | apply Kd.R_drewN | apply Kd.R_drew)); exact HO366.out) hb); have n14_ := Aside0.mk (Kd.R_below (by (with_reducible repeat (first | apply Kd.R_alloc | apply Kd.R_drewN | apply Kd.R_drew)); exact HO370.out) hb); have n15_ := Aside0.mk (below_step (by repeat (first | (with_reducible first | exact HB.out | apply below_alloc | apply pw_below_drewN | apply below_drew1) | exact HB.out)) hb); clear HO321; clear HO325; clear HO328; clear HO332; clear HO335; clear HO338; clear HO343; clear HO345; clear HO348; clear HO351; clear HO355; clear HO358; clear HO362; clear HO366; clear HO370; clear HB; have HO321 := n0_; have HO325 := n1_; have HO328 := n2_; have HO332 := n3_; have HO335 := n4_; have HO338 := n5_; have HO343 := n6_; have HO345 := n7_; have HO348 := n8_; have HO351 := n9_; have HO355 := n10_; have HO358 := n11_; have HO362 := n12_; have HO366 := n13_; have HO370 := n14_; have HB := n15_; clear n0_ n1_ n2_ n3_ n4_ n5_ n6_ n7_ n8_ n9_ n10_ n11_ n12_ n13_ n14_ n15_; (try clear hb); (try clear hb2); (try clear hk); (try clear hi)))
        go_ret
        exact ⟨by first | rfl | (simp [errW_none, errW_some] <;> rfl) | (simp [*, errW_none, errW_some] <;> rfl), by repeat (first | (with_reducible first | exact HB.out | apply below_alloc | apply pw_below_drewN | apply below_drew1) | exact HB.out)⟩
       ·replace c17 := Bool.eq_false_iff.mpr c17
        subst c17
        have H1 : (none) = some r := by rw [if_neg (show ¬ (false = true) by decide)] at H; exact H
        clear H
        have H := H1
        clear H1
        exact absurd H (by simp)
      ·replace c15 := Bool.eq_false_iff.mpr c15
       subst c15
       have H1 : (none) = some r := by rw [if_neg (show ¬ (false = true) by decide)] at H; exact H
       clear H
       have H := H1
       clear H1
       exact absurd H (by simp)
     ·rw [if_neg c12] at H
      exact absurd H (by simp)
    ·replace c11 := Bool.eq_false_iff.mpr c11
     subst c11
     have H1 : (none) = some r := by rw [if_neg (show ¬ (false = true) by decide)] at H; exact H
     clear H
     have H := H1
     clear H1
     exact absurd H (by simp)
   ·rw [if_neg c9] at H
    exact absurd H (by simp)
  ·replace c8 := Bool.eq_false_iff.mpr c8
   subst c8
   have H1 : (none) = some r := by rw [if_neg (show ¬ (false = true) by decide)] at H; exact H
   clear H
   have H := H1
   clear H1
   exact absurd H (by simp)
 ·rw [if_neg c5] at H
  exact absurd H (by simp)
end Go.Proofs.YtkkkbalefnileaaDoor.T
/- The reference's functions on numbers. -/
namespace Go.Proofs.YtkkkbalefnileaaDoor.Ex
open Go.RowKit Go.Proofs.YtkkkbalefnileaaDoorW.PrintWords Go.Proofs.YtkkkbalefnileaaDoorW.PrintLast Go.Proofs.YtkkkbalefnileaaDoorW.PrintMore Go.Proofs.YtkkkbalefnileaaDoor.T
set_option linter.unusedVariables false
set_option linter.unusedSimpArgs false

theorem isW_of_wf {x : Int} (h : (Lit.int .u64 x).wf = true) : isW x := by
  have h1 : 0 ≤ x ∧ x ≤ 18446744073709551615 := by
    simp [Lit.wf, IntKind.min, IntKind.max, IntKind.signed, IntKind.bits] at h
    omega
  unfold isW
  rw [W64_eq]
  omega
theorem inW_of_wf {l : List Int} (h : ∀ x ∈ l, (Lit.int .u64 x).wf = true) : inW l := fun x hx => isW_of_wf (h x hx)
theorem inW_take {l : List Int} (h : inW l) (n : Nat) : inW (l.take n) := fun x hx => h x (List.mem_of_mem_take hx)
theorem few_some (l : List Int) (n : Nat) (h : l.length ≤ 17592186044415) : reckonerlaw02_few.f l (n : Int) = some (l.take n) := by
  unfold reckonerlaw02_few.f
  rw [if_pos ⟨by omega, Or.inl h⟩, Int.toNat_natCast]
/-- A row of n words whose value has n words is the value's. -/
theorem can_of_len {r : List Int} (hr : inW r) (h : r = [] ∨ W64 ^ (r.length - 1) ≤ valB W64 r) : r = can (valB W64 r) := by
  have h0 := valW_nonneg hr
  rcases h with h | h
  · rw [h]; rfl
  · have h1 := can_high h0 h
    have h2 := can_le hr
    exact valB_inj W64_pos hr (can_in h0) (by omega) (can_val h0).symm
theorem RNat_ev (d : List Int) (hd : inB H32 d) (hm : d.length ≤ 1000000) : Ev (fun k => reckonerref02_nat.f k d) (can (valB H32 d)) := by
  obtain ⟨m, hm1, hs, hv, hnz⟩ := Short_ev d (by omega)
  have hdm : inB H32 (d.take m) := inB_take hd m
  have hlm : (d.take m).length = m := by rw [List.length_take]; omega
  obtain ⟨r, t, hc, hr1, hr2, hr3, hr4⟩ := Cut_ev ((m + 1) / 2) (by omega) (d.take m) hdm (by omega)
  have hlt := valB_lt H32_pos hdm
  have h0 := valB_nonneg H32_pos hdm
  rw [hlm] at hlt
  have hp : H32 ^ m ≤ W64 ^ ((m + 1) / 2) := by rw [← H32_pow]; exact pow_leB (by omega)
  have hpp := pow_posB W64_pos ((m + 1) / 2)
  have hmod : valB H32 (d.take m) % (W64 ^ ((m + 1) / 2) * W64) = valB H32 (d.take m) := by
    refine Int.emod_eq_of_lt h0 ?_
    have h1 : W64 ^ ((m + 1) / 2) * 1 ≤ W64 ^ ((m + 1) / 2) * W64 := Int.mul_le_mul_of_nonneg_left (by decide) (Int.le_of_lt hpp)
    rw [Int.mul_one] at h1
    omega
  rw [hmod, hv] at hr4
  rw [hv] at hlt h0
  have hrl := valB_lt W64_pos hr1
  have hr0 := valB_nonneg W64_pos hr1
  rw [hr2] at hrl
  have ht : t = 0 := by
    by_cases ht : t ≤ 0
    · have := hr3.1; omega
    · have h1 : W64 ^ ((m + 1) / 2) * 1 ≤ W64 ^ ((m + 1) / 2) * t := Int.mul_le_mul_of_nonneg_left (by omega) (Int.le_of_lt hpp)
      rw [Int.mul_one] at h1
      omega
  rw [ht, Int.mul_zero, Int.add_zero] at hr4
  have hcan : r = can (valB H32 d) := by
    have h1 := can_of_len hr1 (by
      rw [hr2]
      by_cases hm0 : m = 0
      · left; rw [hm0] at hr2; exact List.eq_nil_of_length_eq_zero hr2
      · right
        rw [hr4, ← hv]
        have h2 := valB_take_succ H32 d (m - 1) (by omega)
        rw [show m - 1 + 1 = m by omega] at h2
        rw [h2]
        have h3 := valB_nonneg H32_pos (inB_take hd (m - 1))
        have h4 : 1 ≤ d.getD (m - 1) 0 := by
          have h5 := (inB_getD H32_pos hd (m - 1)).1
          rcases hnz with h | h
          · exact (hm0 h).elim
          · omega
        have h6 : H32 ^ (m - 1) * 1 ≤ H32 ^ (m - 1) * d.getD (m - 1) 0 := Int.mul_le_mul_of_nonneg_left h4 (Int.le_of_lt (pow_posB H32_pos _))
        rw [Int.mul_one] at h6
        have h7 : W64 ^ ((m + 1) / 2 - 1) ≤ H32 ^ (m - 1) := by rw [← H32_pow]; exact pow_leB (by omega)
        omega)
    rw [hr4] at h1
    exact h1
  have e : wrap64 (Int.tdiv (wrap64 (((d.take m).length : Int) + 1)) 2) = (((m + 1) / 2 : Nat) : Int) := by
    rw [hlm, show ((m : Int) + 1) = ((m + 1 : Nat) : Int) by omega, w64_nat (m + 1) (by omega)]
    exact w64_nat ((m + 1) / 2) (by omega)
  refine Ev.bind hs ?_
  simp only [e]
  refine Ev.bind hc ?_
  rw [← hcan]
  exact Ev.now _
theorem RTrim_ev (x : List Int) (hx : inW x) (hn : x.length ≤ 400000) : Ev (fun k => reckonerref02_Trim.f k x) (can (valB W64 x)) := by
  have h := RNat_ev (digitsL x) (digitsL_in hx) (by rw [digitsL_length]; omega)
  rw [digitsL_val] at h
  exact Ev.bind (Digits_ev x hx (by omega)) (Ev.bind h (Ev.now _))
theorem RCan_some {x : List Int} (h : canL x) (hn : x.length ≤ 400000) : reckonerref02_Canonical.f x = some true := by
  unfold reckonerref02_Canonical.f
  by_cases h0 : x = []
  · subst h0; rfl
  · have hp : 0 < x.length := List.length_pos_iff.2 h0
    have e : wrap64 ((x.length : Int) - 1) = ((x.length - 1 : Nat) : Int) := by rw [← w64_nat (x.length - 1) (by omega)]; congr 1; omega
    have hl : x.getD (x.length - 1) 0 ≠ 0 := by
      intro e
      have h1 := canL_low h h0
      have h2 := valB_take_succ W64 x (x.length - 1) (by omega)
      rw [List.take_of_length_le (by omega), e, Int.mul_zero, Int.add_zero] at h2
      have h3 := valB_lt W64_pos (inB_take (canL_in h) (x.length - 1))
      rw [List.length_take, Nat.min_eq_left (by omega)] at h3
      omega
    rw [if_neg (by omega), e, if_pos (by omega), if_pos (by omega), rd_nat, bne_iff_ne.2 hl]
theorem RIs_ev {v : Int} (y : List Int) (hy : inW y) (hn : y.length ≤ 400000) (h : valB W64 y = v) : Ev (fun k => reckonerref02_Is.f k (can v) y) true := by
  have hv : 0 ≤ v := by rw [← h]; exact valW_nonneg hy
  have hl := can_le hy
  rw [h] at hl
  have ht := RTrim_ev y hy hn
  rw [h] at ht
  have hs := RSame_ev (can v) (can v) (by omega)
  rw [decide_eq_true rfl] at hs
  refine Ev.congr (f := fun k => (reckonerref02_Trim.f k y).bind fun t => (reckonerref01_Same.f k (can v) t).bind fun t => some t) (fun k => ?_) (Ev.bind ht (Ev.bind hs (Ev.now true)))
  show reckonerref02_Is.f k (can v) y = _
  unfold reckonerref02_Is.f
  rw [RCan_some (can_canL hv) (by omega), Option.bind_some, if_pos rfl]
theorem RWord_ev (w : Int) (hw : isW w) : Ev (fun k => reckonerref02_FromWord.f k w) (can w) := by
  have h := RNat_ev [w % H32, w / H32] (word_in w hw) (by simp)
  rw [word_val] at h
  refine Ev.congr (f := fun k => (reckonerref02_nat.f k [w % H32, w / H32]).bind fun t => some t) (fun k => ?_) (Ev.bind h (Ev.now _))
  show reckonerref02_FromWord.f k w = _
  unfold reckonerref02_FromWord.f
  rw [Word_some w hw, Option.bind_some]
theorem RAdd_ev (x y : List Int) (hx : inW x) (hy : inW y) (hn : x.length ≤ 400000) (hm : y.length ≤ 400000) : Ev (fun k => reckonerref02_Add.f k x y) (can (valB W64 x + valB W64 y)) := by
  obtain ⟨p, hp1, hp2, hp3, hp4⟩ := Plus_ev (digitsL x) (digitsL y) (digitsL_in hx) (digitsL_in hy) (by rw [digitsL_length]; omega) (by rw [digitsL_length]; omega)
  rw [digitsL_length, digitsL_length] at hp3
  rw [digitsL_val, digitsL_val] at hp4
  have h := RNat_ev p hp2 (by omega)
  rw [hp4] at h
  exact Ev.bind (Digits_ev x hx (by omega)) (Ev.bind (Digits_ev y hy (by omega)) (Ev.bind hp1 (Ev.bind h (Ev.now _))))
theorem RMul_ev (x y : List Int) (hx : inW x) (hy : inW y) (hn : x.length ≤ 200000) (hm : y.length ≤ 200000) : Ev (fun k => reckonerref02_Mul.f k x y) (can (valB W64 x * valB W64 y)) := by
  obtain ⟨p, hp1, hp2, hp3, hp4⟩ := Times_ev (digitsL x) (digitsL y) (digitsL_in hx) (digitsL_in hy) (by rw [digitsL_length]; omega) (by rw [digitsL_length]; omega)
  rw [digitsL_length, digitsL_length] at hp3
  rw [digitsL_val, digitsL_val] at hp4
  have h := RNat_ev p hp2 (by omega)
  rw [hp4] at h
  exact Ev.bind (Digits_ev x hx (by omega)) (Ev.bind (Digits_ev y hy (by omega)) (Ev.bind hp1 (Ev.bind h (Ev.now _))))
end Go.Proofs.YtkkkbalefnileaaDoor.Ex
/- The bits of a value: how many are set, which is the lowest. No program here. -/
namespace Go.Proofs.YtkkkbalefnileaaDoor.Ex
open Go.RowKit Go.Proofs.YtkkkbalefnileaaDoorW.PrintWords Go.Proofs.YtkkkbalefnileaaDoorW.PrintLast Go.Proofs.YtkkkbalefnileaaDoorW.PrintMore Go.Proofs.YtkkkbalefnileaaDoor.T
set_option linter.unusedVariables false
set_option linter.unusedSimpArgs false

/-- t is the lowest bit below n that is set (d if none is). -/
def LowB (v : Int) (n : Nat) (d t : Int) : Prop := (∃ j : Nat, j < n ∧ t = (j : Int) ∧ v / 2 ^ j % 2 = 1 ∧ ∀ i, i < j → v / 2 ^ i % 2 = 0) ∨ (t = d ∧ ∀ i, i < n → v / 2 ^ i % 2 = 0)
theorem LowB.one {v : Int} {n : Nat} {d t t' : Int} (h : LowB v n d t) (h' : LowB v n d t') : t = t' := by
  rcases h with ⟨j, h1, h2, h3, h4⟩ | ⟨h1, h2⟩ <;> rcases h' with ⟨j', k1, k2, k3, k4⟩ | ⟨k1, k2⟩
  · rcases Nat.lt_trichotomy j j' with c | c | c
    · have := k4 j c; omega
    · subst c; rw [h2, k2]
    · have := h4 j' c; omega
  · have := k2 j h1; omega
  · have := h2 j' k1; omega
  · rw [h1, k1]
theorem bit_beyond {v : Int} (h0 : 0 ≤ v) {n i : Nat} (h : v < 2 ^ n) (hi : n ≤ i) : v / 2 ^ i % 2 = 0 := by
  rw [Int.ediv_eq_zero_of_lt h0 (Int.lt_of_lt_of_le h (pow_mono (by decide) hi))]
  rfl
theorem LowB.more {v : Int} (h0 : 0 ≤ v) {n m : Nat} {d t : Int} (h : LowB v n d t) (hv : v < 2 ^ n) (hm : n ≤ m) : LowB v m d t := by
  rcases h with ⟨j, h1, h2, h3, h4⟩ | ⟨h1, h2⟩
  · exact Or.inl ⟨j, by omega, h2, h3, h4⟩
  · refine Or.inr ⟨h1, fun i hi => ?_⟩
    by_cases hin : i < n
    · exact h2 i hin
    · exact bit_beyond h0 hv (by omega)
end Go.Proofs.YtkkkbalefnileaaDoor.Ex
/- The reference's joined numbers, and its numbers with another bit. -/
namespace Go.Proofs.YtkkkbalefnileaaDoor.Ex
open Go.RowKit Go.Proofs.YtkkkbalefnileaaDoorW.PrintWords Go.Proofs.YtkkkbalefnileaaDoorW.PrintLast Go.Proofs.YtkkkbalefnileaaDoorW.PrintMore Go.Proofs.YtkkkbalefnileaaDoor.T
set_option linter.unusedVariables false
set_option linter.unusedSimpArgs false

theorem and_one (x : Int) (hx : isW x) : bits .and .u64 x 1 = Int.tmod x 2 := by
  obtain ⟨X, rfl⟩ := Int.eq_ofNat_of_zero_le hx.1
  have hX := hx.2
  rw [W64_eq] at hX
  have h := bits_and_u64_nat X 1 (by omega) (by decide)
  rw [Nat.and_one_is_mod] at h
  rw [Int.tmod_eq_emod_of_nonneg (by omega)]
  exact h
end Go.Proofs.YtkkkbalefnileaaDoor.Ex
/- nat.Sum. -/
namespace Go.Proofs.YtkkkbalefnileaaDoor.Ex
open Go.RowKit Go.Shelf Go.Proofs.YtkkkbalefnileaaDoorW.PrintWords Go.Proofs.YtkkkbalefnileaaDoorW.PrintLast Go.Proofs.YtkkkbalefnileaaDoorW.PrintMore
set_option linter.unusedVariables false
set_option linter.unusedSimpArgs false

def sumV (l : List (List Int)) : Int := (l.map (valB W64)).sum
theorem sumV_cons (x : List Int) (l : List (List Int)) : sumV (x :: l) = valB W64 x + sumV l := by simp [sumV]
theorem sumV_succ (l : List (List Int)) (k : Nat) (h : k < l.length) : sumV (l.take (k + 1)) = sumV (l.take k) + valB W64 l[k] := by
  unfold sumV
  rw [List.take_succ_eq_append_getElem h, List.map_append, List.sum_append]
  simp
theorem sumV_bound (n : Nat) : ∀ (l : List (List Int)), (∀ x ∈ l, inW x) → (∀ x ∈ l, x.length ≤ n) → 0 ≤ sumV l ∧ sumV l ≤ l.length * W64 ^ n
  | [], _, _ => by simp [sumV]
  | x :: l, h1, h2 => by
    have hx := h1 x (List.mem_cons_self ..)
    have ih := sumV_bound n l (fun y hy => h1 y (List.mem_cons_of_mem _ hy)) (fun y hy => h2 y (List.mem_cons_of_mem _ hy))
    have a0 := valW_nonneg hx
    have a1 := valB_lt W64_pos hx
    have a2 := pow_mono (B := W64) (by decide) (h2 x (List.mem_cons_self ..))
    rw [sumV_cons, List.length_cons, Int.natCast_add, Int.add_mul, Int.natCast_one, Int.one_mul]
    omega
theorem sumV_short (n : Nat) (l : List (List Int)) (h1 : ∀ x ∈ l, inW x) (h2 : ∀ x ∈ l, x.length ≤ n) (h3 : l.length ≤ 1000) : (can (sumV l)).length ≤ n + 1 := by
  obtain ⟨b1, b2⟩ := sumV_bound n l h1 h2
  refine can_short b1 (Int.lt_of_le_of_lt b2 ?_)
  rw [Int.pow_succ, Int.mul_comm]
  exact Int.mul_lt_mul_of_pos_left (Int.lt_of_le_of_lt (Int.ofNat_le.2 h3) (by decide)) (pow_posB W64_pos n)
def nat_Sum.f (l0 : List (List Int)) : Option (List Int × Int) :=
  if ∀ x ∈ l0, inW x then
    if l0.length ≤ 1000 then
      if ∀ x ∈ l0, x.length ≤ 4096 then some (fitV (sumV l0)) else some ([], 2)
    else some ([], 1)
  else none
theorem large_list {l0 : List (List Int)} {b : Bool} (h : decide (∀ x ∈ l0, x.length ≤ 4096) = b) : nat_large.f l0 = some (!b) := by
  unfold nat_large.f
  rw [← h]
  congr 2
  rw [Bool.eq_iff_iff, List.all_eq_true, decide_eq_true_iff]
  simp
set_option maxRecDepth 100000 in
set_option maxHeartbeats 4000000 in
theorem nat_Sum.calls (A0 : Option Addr) (c0 : Nat) (l0 : List (List Int)) (r1 : List Int) (r2 : Int) (w : World) (hr0 : Kd.C (Kd.slice 36 (Kd.int .u64)) w A0 l0.length l0) (hc0 : l0.length ≤ c0) (h : nat_Sum.f l0 = some (r1, r2)) :
  Calls Tryd.prog 32 #[.slice A0 l0.length c0] w fun e w' => ∃ v0_ : Value, e = .returned (.tuple #[v0_, .int .i64 r2]) ∧ Kd.R (Kd.int .u64) 36 w' w.heap.size (fun _ => True) v0_ r1 ∧ Below w.heap.size w w' := by
 unfold nat_Sum.f at h
 by_cases hw : ∀ x ∈ l0, inW x
 ·rw [if_pos hw] at h
  have HR := Aside0.mk hr0
  clear hr0
  by_cases hn : l0.length ≤ 1000
  ·rw [if_pos hn] at h
   have hnb : decide ((1000 : Int) < (l0.length : Int)) = false := decide_eq_false (by omega)
   by_cases h4 : ∀ x ∈ l0, x.length ≤ 4096
   ·rw [if_pos h4] at h
    have HL := Aside0.mk (large_list (decide_eq_true h4))
    have HT := Aside0.mk (fun k => sumV_short 4096 (l0.take k) (fun x hx => hw x (List.mem_of_mem_take hx)) (fun x hx => h4 x (List.mem_of_mem_take hx)) (by rw [List.length_take]; omega))
    have HT0 := Aside0.mk (fun k => (sumV_bound 4096 (l0.take k) (fun x hx => hw x (List.mem_of_mem_take hx)) (fun x hx => h4 x (List.mem_of_mem_take hx))).1)
    have HW := Aside0.mk hw
    have H4 := Aside0.mk h4
    have HH := Aside0.mk h
    clear hw h4 h
    go_enter Tryd.func32, Tryd.ntmps32
    go_wp2_with fail
    refine (nat_large.calls A0 c0 l0 _ _ HR.out hc0 HL.out).mono ?_
    rintro e w1 ⟨rfl, hd⟩
    have HB1 := Aside0.mk hd.below
    clear hd HL
    go_wp2
    go_loopw [4, 14] (fun v i wr => ∃ k : Nat, k ≤ l0.length ∧ i = .int .i64 k ∧ Aside0 (Kd.R (Kd.int .u64) 36 wr w.heap.size (fun _ => True) v (can (sumV (l0.take k)))) ∧ Aside0 (Below w.heap.size w wr)) (fun _ i _ => l0.length - (intOf i).toNat)
    case atStart => exact ⟨0, Nat.zero_le _, rfl, ⟨Kd.R_nil _ _ _ _ _⟩, HB1⟩
    case round =>
     clear HB1
     obtain ⟨k, hk, rfl, HO, HB⟩ := hrel
     obtain ⟨Az, cz, rfl⟩ := Kd.R_slice HO.out
     by_cases hlt : k < l0.length
     ·have hlti : (k : Int) < (l0.length : Int) := by omega
      obtain ⟨ad, c, rfl, hcl, hK, hcell⟩ := Kd.C_get (Kd.C_below HR.out HB.out) [] k (by omega) (by omega)
      obtain ⟨A1, c1, rfl, hl1, hC1⟩ := hK
      have hc1 := hcell 0 _ rfl
      simp only [Int.toNat_natCast] at hc1 hC1 hl1
      have e0 : k * (Kd.slice 36 (Kd.int .u64)).sz + 0 = k := by simp [Kd.slice]
      rw [e0] at hc1
      have hgd : l0.getD k [] = l0[k] := by rw [List.getD_eq_getElem?_getD, List.getElem?_eq_getElem hlt]; rfl
      rw [hgd] at hc1 hC1 hl1
      have HS := Aside0.mk (sumV_succ l0 k hlt)
      have hA : nat_add.f (can (sumV (l0.take k))) l0[k] = some (can (sumV (l0.take (k + 1)))) := by
       unfold nat_add.f
       have q1 := HT.out k
       have q2 := H4.out l0[k] (List.getElem_mem _)
       rw [if_pos ⟨can_in (HT0.out k), HW.out _ (List.getElem_mem _), by omega, by omega⟩, can_val (HT0.out k), HS.out]
      have HA := Aside0.mk hA
      have HC1 := Aside0.mk hC1
      obtain ⟨x, hx⟩ : ∃ x, x = l0[k] := ⟨_, rfl⟩
      rw [← hx] at hc1 hl1 HC1 HA
      clear hcell hC1 hcl hA hx HS hgd
      go_wp2_with fail
      refine (nat_add.calls _ _ _ _ _ _ _ _ (R_C HO.out) (R_cap HO.out) HC1.out hl1 HA.out).mono ?_
      rintro e w2 ⟨v2, rfl, hR2, hb2⟩
      have HO2 := Aside0.mk (Kd.R_lower hR2 (below_size HB.out))
      have HB2 := Aside0.mk (below_step HB.out hb2)
      clear hR2 hb2 HO HB
      go_wp2
      go_roundw
      case rel => exact ⟨k + 1, by omega, by go_num, HO2, HB2⟩
      case measure => simp [intOf]; omega
     ·obtain rfl : k = l0.length := by omega
      have hv := HT0.out l0.length
      rw [List.take_length] at hv HO ⊢
      generalize sumV l0 = v at *
      have hF := fit1 Az cz (can v) _ (can_in hv) (R_C HO.out) (R_cap HO.out)
      rw [can_val hv] at hF
      have hh := HH.out
      unfold fitV at hh
      by_cases h9 : (can v).length ≤ 4096
      ·rw [if_pos h9] at hF hh
       cases hh
       have HF := Aside0.mk hF
       clear hF
       go_wp2_with fail
       refine HF.out.mono ?_
       rintro e w9 ⟨rfl, rfl⟩
       go_wp2
       go_ret2
       exact ⟨_, rfl, HO.out, HB.out⟩
      ·rw [if_neg h9] at hF hh
       cases hh
       have HF := Aside0.mk hF
       clear hF
       go_wp2_with fail
       refine HF.out.mono ?_
       rintro e w9 ⟨rfl, rfl⟩
       go_wp2
       go_ret2
       exact ⟨_, rfl, Kd.R_nil _ _ _ _ _, HB.out⟩
   ·rw [if_neg h4] at h
    cases h
    have HL := Aside0.mk (large_list (decide_eq_false h4))
    clear hw h4
    go_enter Tryd.func32, Tryd.ntmps32
    go_wp2_with fail
    refine (nat_large.calls A0 c0 l0 _ _ HR.out hc0 HL.out).mono ?_
    rintro e w1 ⟨rfl, hd⟩
    have HB1 := Aside0.mk hd.below
    clear hd HL
    go_wp2
    go_ret2
    exact ⟨_, rfl, Kd.R_nil _ _ _ _ _, HB1.out⟩
  ·rw [if_neg hn] at h
   cases h
   have hnb : decide ((1000 : Int) < (l0.length : Int)) = true := decide_eq_true (by omega)
   clear hw
   go_enter Tryd.func32, Tryd.ntmps32
   go_wp2
   go_ret2
   exact ⟨_, rfl, Kd.R_nil _ _ _ _ _, Below.refl _ _⟩
 ·rw [if_neg hw] at h
  cases h
end Go.Proofs.YtkkkbalefnileaaDoor.Ex
/- nat.Product. -/
namespace Go.Proofs.YtkkkbalefnileaaDoor.Ex
open Go.RowKit Go.Shelf Go.Proofs.YtkkkbalefnileaaDoorW.PrintWords Go.Proofs.YtkkkbalefnileaaDoorW.PrintLast Go.Proofs.YtkkkbalefnileaaDoorW.PrintMore
set_option linter.unusedVariables false
set_option linter.unusedSimpArgs false

def prodV : List (List Int) → Int
  | [] => 1
  | x :: l => valB W64 x * prodV l
theorem prodV_append (a b : List (List Int)) : prodV (a ++ b) = prodV a * prodV b := by
  induction a with
  | nil => simp [prodV]
  | cons x a ih => simp [prodV, ih, Int.mul_assoc]
theorem prodV_succ (l : List (List Int)) (k : Nat) (h : k < l.length) : prodV (l.take (k + 1)) = prodV (l.take k) * valB W64 l[k] := by
  rw [List.take_succ_eq_append_getElem h, prodV_append]
  simp [prodV]
theorem prodV_nonneg : ∀ (l : List (List Int)), (∀ x ∈ l, inW x) → 0 ≤ prodV l
  | [], _ => by simp [prodV]
  | x :: l, h => Int.mul_nonneg (valW_nonneg (h x (List.mem_cons_self ..))) (prodV_nonneg l fun y hy => h y (List.mem_cons_of_mem _ hy))
theorem prodV_pos : ∀ (l : List (List Int)), (∀ x ∈ l, 1 ≤ valB W64 x) → 1 ≤ prodV l
  | [], _ => by simp [prodV]
  | x :: l, h => by
    have h1 := h x (List.mem_cons_self ..)
    have h2 := prodV_pos l fun y hy => h y (List.mem_cons_of_mem _ hy)
    have h3 : 1 * 1 ≤ valB W64 x * prodV l := Int.mul_le_mul h1 h2 (by decide) (by omega)
    simpa [prodV] using h3
theorem prodV_le (l : List (List Int)) (h : ∀ x ∈ l, 1 ≤ valB W64 x) (k : Nat) : prodV (l.take k) ≤ prodV l := by
  have e : prodV l = prodV (l.take k) * prodV (l.drop k) := by rw [← prodV_append, List.take_append_drop]
  have h1 := prodV_pos (l.take k) fun x hx => h x (List.mem_of_mem_take hx)
  have h2 := prodV_pos (l.drop k) fun x hx => h x (List.mem_of_mem_drop hx)
  have h3 : prodV (l.take k) * 1 ≤ prodV (l.take k) * prodV (l.drop k) := Int.mul_le_mul_of_nonneg_left h2 (by omega)
  rw [e]
  omega
theorem prodV_zero : ∀ (l : List (List Int)), (∃ x ∈ l, valB W64 x = 0) → prodV l = 0
  | [], h => by obtain ⟨x, hx, _⟩ := h; cases hx
  | y :: l, h => by
    obtain ⟨x, hx, h0⟩ := h
    rcases List.mem_cons.1 hx with rfl | hx
    · simp [prodV, h0]
    · simp [prodV, prodV_zero l ⟨x, hx, h0⟩]
/-- Has a number no value? -/
def zeroL (l : List Int) : Bool := decide ((can (valB W64 l)).length = 0)
theorem zeroL_iff {l : List Int} (h : inW l) : zeroL l = true ↔ valB W64 l = 0 := by
  unfold zeroL
  rw [decide_eq_true_iff, List.length_eq_zero_iff, can_nil_iff (valW_nonneg h)]
theorem prod1 (A : Option Addr) (c : Nat) (l : List Int) (w : World) (hw : inW l) (hr : Kd.C (Kd.int .u64) w A l.length l) (hc : l.length ≤ c) :
    Calls Tryd.prog 74 #[.slice A l.length c] w fun e w' => e = .returned (.bool (zeroL l)) ∧ w = w' := by
  have HT0 := Aside0.mk (trim1 A c l w hw hr hc)
  unfold zeroL
  generalize (can (valB W64 l)).length = n at *
  clear hr
  by_cases hn : n = 0
  · subst hn
    go_enter Tryd.func74, Tryd.ntmps74
    go_wp2_with fail
    refine HT0.out.mono ?_
    rintro e w1 ⟨rfl, rfl⟩
    go_wp2
    go_ret
    exact ⟨rfl, rfl⟩
  · have d0 : decide ((n : Int) = 0) = false := decide_eq_false (by omega)
    have d1 : decide (n = 0) = false := decide_eq_false hn
    have d2 : ((n : Int) == 0) = false := by have : ¬ (n : Int) = 0 := by omega
                                             simpa using this
    go_enter Tryd.func74, Tryd.ntmps74
    go_wp2_with fail
    refine HT0.out.mono ?_
    rintro e w1 ⟨rfl, rfl⟩
    go_wp2
    go_ret
    exact ⟨by rw [d1]; rfl, rfl⟩
theorem any_take_succL (z : List Int → Bool) (l : List (List Int)) (k : Nat) (h : k < l.length) : (l.take (k + 1)).any z = ((l.take k).any z || z l[k]) := by
  rw [List.take_succ_eq_append_getElem h, List.any_append, List.any_cons, List.any_nil, Bool.or_false]
theorem idxProd (A0 : Option Addr) (c0 : Nat) (l0 : List (List Int)) (w : World) (hw : ∀ x ∈ l0, inW x) (hr0 : Kd.C (Kd.slice 36 (Kd.int .u64)) w A0 l0.length l0) (hc0 : l0.length ≤ c0) :
    Calls Tryd.prog 97 #[.slice A0 l0.length c0, .func (.func 74) #[] #[]] w
      fun e w' => (∃ i : Int, e = .returned (.int .i64 i) ∧ decide (0 ≤ i) = l0.any zeroL) ∧ w = w' := by
  have HR := Aside0.mk hr0
  have HW := Aside0.mk hw
  have hn : l0.length ≤ 9223372036854775807 := hr0.2.1
  clear hr0 hw
  go_enter Tryd.func97, Tryd.ntmps97
  go_wp2
  go_loop [5, 8] (fun _ i => ∃ k : Nat, k ≤ l0.length ∧ i = .int .i64 k ∧ Aside0 ((l0.take k).any zeroL = false)) (fun _ i => l0.length - (intOf i).toNat)
  case atStart => exact ⟨0, Nat.zero_le _, rfl, ⟨by simp⟩⟩
  case round =>
    obtain ⟨k, hk, rfl, HA⟩ := hrel
    by_cases hlt : k < l0.length
    · obtain ⟨ad, c, rfl, hcl, hK, hcell⟩ := Kd.C_get HR.out [] k (by omega) (by omega)
      obtain ⟨A1, c1, rfl, hl1, hC1⟩ := hK
      have hc1 := hcell 0 _ rfl
      simp only [Int.toNat_natCast] at hc1 hC1 hl1
      have e0 : k * (Kd.slice 36 (Kd.int .u64)).sz + 0 = k := by simp [Kd.slice]
      rw [e0] at hc1
      have HS := Aside0.mk (any_take_succL zeroL l0 k hlt)
      have hg : (l0[k]?.getD []) = l0[k] := by rw [List.getElem?_eq_getElem hlt]; rfl
      have hgd : l0.getD k [] = l0[k] := by rw [List.getD_eq_getElem?_getD, hg]
      rw [hgd] at hc1 hC1 hl1
      have HP := Aside0.mk (prod1 A1 c1 l0[k] w (HW.out _ (List.getElem_mem _)) hC1 hl1)
      have HM := Aside0.mk (List.getElem_mem (l := l0) hlt)
      obtain ⟨x, hx⟩ : ∃ x, x = l0[k] := ⟨_, rfl⟩
      rw [← hx] at hc1 HP HS HM
      clear hcell hC1 hl1 hcl hx hg hgd
      by_cases h4 : zeroL x = true
      · rw [h4] at HP
        go_wp2_with (go_at_call 74; refine HP.out.mono ?_; rintro e w' ⟨rfl, rfl⟩)
        go_ret
        refine ⟨⟨k, rfl, ?_⟩, rfl⟩
        have hf : l0.any zeroL = true := List.any_eq_true.2 ⟨x, HM.out, h4⟩
        rw [hf]
        exact decide_eq_true (by omega)
      · have h4b : zeroL x = false := by simpa using h4
        rw [h4b] at HP HS
        go_wp2_with (go_at_call 74; refine HP.out.mono ?_; rintro e w' ⟨rfl, rfl⟩)
        go_round
        case rel => exact ⟨k + 1, by omega, by go_num, ⟨by rw [HS.out, HA.out]; rfl⟩⟩
        case measure => simp [intOf]; omega
    · obtain rfl : k = l0.length := by omega
      go_wp2
      go_ret
      have h1 := HA.out
      rw [List.take_length] at h1
      exact ⟨⟨-1, rfl, by rw [h1]; rfl⟩, rfl⟩
theorem containsProd (A0 : Option Addr) (c0 : Nat) (l0 : List (List Int)) (w : World) (hw : ∀ x ∈ l0, inW x) (hr0 : Kd.C (Kd.slice 36 (Kd.int .u64)) w A0 l0.length l0) (hc0 : l0.length ≤ c0) :
    Calls Tryd.prog 73 #[.slice A0 l0.length c0, .func (.func 74) #[] #[]] w
      fun e w' => e = .returned (.bool (l0.any zeroL)) ∧ w = w' := by
  have HR := Aside0.mk hr0
  have HW := Aside0.mk hw
  clear hr0 hw
  go_enter Tryd.func73, Tryd.ntmps73
  go_wp2_with (go_at_call 97; refine (idxProd _ _ l0 _ HW.out HR.out hc0).mono ?_; rintro e w' ⟨⟨i, rfl, hi⟩, rfl⟩; have HI := Aside0.mk hi; clear hi)
  go_ret
  exact ⟨by rw [← HI.out]; rfl, rfl⟩
def nat_Product.f (l0 : List (List Int)) : Option (List Int × Int) :=
  if ∀ x ∈ l0, inW x then
    if l0.length ≤ 1000 then
      if ∀ x ∈ l0, x.length ≤ 4096 then some (fitV (prodV l0)) else some ([], 2)
    else some ([], 1)
  else none
/-- One round of the loop, told by values. -/
theorem prod_round {v x : Int} (hv : 1 ≤ v) (hx : 1 ≤ x) (hxl : (can x).length ≤ 4096) :
    (0 < lenL (can v) ∧ 0 < lenL (can x)) ∧ (262144 < lenL (can v) + lenL (can x) - 1 → 4096 < (can (v * x)).length) ∧ (lenL (can v) + lenL (can x) - 1 ≤ 262144 → (can v).length ≤ 4096 ∧ (can (v * x)).length ≤ 4097) := by
  have cv := can_canL (v := v) (by omega)
  have cx := can_canL (v := x) (by omega)
  have nv : can v ≠ [] := fun e => by have := (can_nil_iff (by omega)).1 e; omega
  have nx : can x ≠ [] := fun e => by have := (can_nil_iff (by omega)).1 e; omega
  obtain ⟨p1, p2, p3, p4, p5⟩ := lenL_bounds cv nv
  obtain ⟨q1, q2, q3, q4, q5⟩ := lenL_bounds cx nx
  have hm := fun h => mul_long cv cx (by omega) (by omega) h
  rw [can_val (by omega)] at p4 p5 hm
  rw [can_val (by omega)] at q4 q5 hm
  refine ⟨⟨by omega, by omega⟩, hm, fun h => ⟨by omega, ?_⟩⟩
  refine can_short (Int.mul_nonneg (by omega) (by omega)) ?_
  have h1 : v * x < 2 ^ (lenL (can v)).toNat * 2 ^ (lenL (can x)).toNat := by
    have h2 : v * x < 2 ^ (lenL (can v)).toNat * x := Int.mul_lt_mul_of_pos_right p5 (by omega)
    have h3 : 2 ^ (lenL (can v)).toNat * x ≤ 2 ^ (lenL (can v)).toNat * 2 ^ (lenL (can x)).toNat := Int.mul_le_mul_of_nonneg_left (Int.le_of_lt q5) (Int.pow_nonneg (by decide))
    exact Int.lt_of_lt_of_le h2 h3
  rw [← Int.pow_add] at h1
  rw [pow2_W]
  exact Int.lt_of_lt_of_le h1 (pow_mono (by decide) (by omega))
set_option maxRecDepth 100000 in
set_option maxHeartbeats 4000000 in
theorem nat_Product.calls (A0 : Option Addr) (c0 : Nat) (l0 : List (List Int)) (r1 : List Int) (r2 : Int) (w : World) (hr0 : Kd.C (Kd.slice 36 (Kd.int .u64)) w A0 l0.length l0) (hc0 : l0.length ≤ c0) (h : nat_Product.f l0 = some (r1, r2)) :
  Calls Tryd.prog 40 #[.slice A0 l0.length c0] w fun e w' => ∃ v0_ : Value, e = .returned (.tuple #[v0_, .int .i64 r2]) ∧ Kd.R (Kd.int .u64) 36 w' w.heap.size (fun _ => True) v0_ r1 ∧ Below w.heap.size w w' := by
 unfold nat_Product.f at h
 by_cases hw : ∀ x ∈ l0, inW x
 ·rw [if_pos hw] at h
  have HR := Aside0.mk hr0
  clear hr0
  by_cases hn : l0.length ≤ 1000
  ·rw [if_pos hn] at h
   have hnb : decide ((1000 : Int) < (l0.length : Int)) = false := decide_eq_false (by omega)
   by_cases h4 : ∀ x ∈ l0, x.length ≤ 4096
   ·rw [if_pos h4] at h
    have HL := Aside0.mk (large_list (decide_eq_true h4))
    by_cases hz : l0.any zeroL = true
    ·have hz0 : prodV l0 = 0 := by
      obtain ⟨x, hx, h0⟩ := List.any_eq_true.1 hz
      exact prodV_zero l0 ⟨x, hx, (zeroL_iff (hw x hx)).1 h0⟩
     rw [hz0] at h
     have e0 : fitV 0 = ([], 0) := by unfold fitV; rw [show can 0 = [] from rfl]; rfl
     rw [e0] at h
     cases h
     have HW := Aside0.mk hw
     clear hw h4
     go_enter Tryd.func40, Tryd.ntmps40
     go_wp2_with fail
     refine (nat_large.calls A0 c0 l0 _ _ HR.out hc0 HL.out).mono ?_
     rintro e w1 ⟨rfl, hd⟩
     have HB1 := Aside0.mk hd.below
     clear hd HL
     have HCP := Aside0.mk (containsProd A0 c0 l0 w1 HW.out (Kd.C_below HR.out HB1.out) hc0)
     rw [hz] at HCP
     go_wp2_with fail
     refine HCP.out.mono ?_
     rintro e w2 ⟨rfl, rfl⟩
     go_wp2
     go_ret2
     exact ⟨_, rfl, Kd.R_nil _ _ _ _ _, HB1.out⟩
    ·have hzf : l0.any zeroL = false := by simpa using hz
     have h1 : ∀ x ∈ l0, 1 ≤ valB W64 x := fun x hx => by
      have h0 := valW_nonneg (hw x hx)
      have h2 : ¬ valB W64 x = 0 := fun e => hz (List.any_eq_true.2 ⟨x, hx, (zeroL_iff (hw x hx)).2 e⟩)
      omega
     have HP1 := Aside0.mk (fun k => prodV_pos (l0.take k) fun x hx => h1 x (List.mem_of_mem_take hx))
     have HPle := Aside0.mk (fun k => prodV_le l0 h1 k)
     have HW := Aside0.mk hw
     have H4 := Aside0.mk h4
     have HH := Aside0.mk h
     have H1 := Aside0.mk h1
     clear hw h4 h h1 hz
     go_enter Tryd.func40, Tryd.ntmps40
     go_wp2_with fail
     refine (nat_large.calls A0 c0 l0 _ _ HR.out hc0 HL.out).mono ?_
     rintro e w1 ⟨rfl, hd⟩
     have HB1 := Aside0.mk hd.below
     clear hd HL
     have HCP := Aside0.mk (containsProd A0 c0 l0 w1 HW.out (Kd.C_below HR.out HB1.out) hc0)
     rw [hzf] at HCP
     go_wp2_with fail
     refine HCP.out.mono ?_
     rintro e w2 ⟨rfl, rfl⟩
     clear HCP
     go_wp2
     have hone : can 1 = [1] := by decide
     have HO1 := Aside0.mk (show Kd.R (Kd.int .u64) 36 (w1.alloc (.cells #[.int .u64 1] 36)) w.heap.size (fun _ => True) (.slice (some ⟨w1.heap.size, 0, none⟩) 1 1) ([1] : List Int) from Kd.R_of_own (enc := Value.int .u64) (h1 := fun _ => rfl) (own_lit w1 w.heap.size 36 .u64 [1] (below_size HB1.out) (by simp)) (fun _ _ => trivial))
     have HBa := Aside0.mk (below_alloc HB1.out (.cells #[.int .u64 1] 36))
     go_loopw [4, 17] (fun v i wr => ∃ k : Nat, k ≤ l0.length ∧ i = .int .i64 k ∧ Aside0 ((can (prodV (l0.take k))).length ≤ 4097) ∧ Aside0 (Kd.R (Kd.int .u64) 36 wr w.heap.size (fun _ => True) v (can (prodV (l0.take k)))) ∧ Aside0 (Below w.heap.size w wr)) (fun _ i _ => l0.length - (intOf i).toNat)
     case atStart => exact ⟨0, Nat.zero_le _, rfl, ⟨by show (can 1).length ≤ 4097; rw [hone]; decide⟩, ⟨by show Kd.R _ _ _ _ _ _ (can 1); rw [hone]; exact HO1.out⟩, HBa⟩
     case round =>
      clear HB1 HO1 HBa
      obtain ⟨k, hk, rfl, H97, HO, HB⟩ := hrel
      obtain ⟨Az, cz, rfl⟩ := Kd.R_slice HO.out
      by_cases hlt : k < l0.length
      ·have hlti : (k : Int) < (l0.length : Int) := by omega
       obtain ⟨ad, c, rfl, hcl, hK, hcell⟩ := Kd.C_get (Kd.C_below HR.out HB.out) [] k (by omega) (by omega)
       obtain ⟨A1, c1, rfl, hl1, hC1⟩ := hK
       have hc1 := hcell 0 _ rfl
       simp only [Int.toNat_natCast] at hc1 hC1 hl1
       have e0 : k * (Kd.slice 36 (Kd.int .u64)).sz + 0 = k := by simp [Kd.slice]
       rw [e0] at hc1
       have hgd : l0.getD k [] = l0[k] := by rw [List.getD_eq_getElem?_getD, List.getElem?_eq_getElem hlt]; rfl
       rw [hgd] at hc1 hC1 hl1
       have HS := Aside0.mk (prodV_succ l0 k hlt)
       have p1 := HP1.out k
       have xw := HW.out _ (List.getElem_mem hlt)
       have x4 := H4.out _ (List.getElem_mem hlt)
       have x1 := H1.out _ (List.getElem_mem hlt)
       have xc := can_le xw
       have HPn := Aside0.mk (HPle.out (k + 1))
       obtain ⟨⟨r1, r2⟩, r3, r4⟩ := prod_round (v := prodV (l0.take k)) (x := valB W64 l0[k]) p1 x1 (by omega)
       have hvw := can_in (v := prodV (l0.take k)) (by omega)
       have HLen0 := Aside0.mk (show nat_length.f (can (prodV (l0.take k))) = some (lenL (can (prodV (l0.take k)))) by unfold nat_length.f; rw [if_pos ⟨hvw, by have := H97.out; omega⟩])
       have HLen1 := Aside0.mk (show nat_Len.f l0[k] = some (lenL (can (valB W64 l0[k]))) by unfold nat_Len.f; rw [if_pos ⟨xw, by omega⟩])
       have HM := fun h : (can (prodV (l0.take k))).length ≤ 4096 => (show nat_mul.f (can (prodV (l0.take k))) l0[k] = some (can (prodV (l0.take k) * valB W64 l0[k])) by unfold nat_mul.f; rw [if_pos ⟨hvw, xw, by omega, by omega, by rw [can_val (by omega)]; omega⟩, can_val (by omega)])
       have u0 := (lenL_bounds (can_canL (v := prodV (l0.take k)) (by omega)) (fun e => by have := (can_nil_iff (by omega)).1 e; omega)).2.2.1
       have u1 := (lenL_bounds (can_canL (v := valB W64 l0[k]) (by omega)) (fun e => by have := (can_nil_iff (by omega)).1 e; omega)).2.2.1
       have u2 := H97.out
       rw [← HS.out] at r3 r4 HM
       have HC1 := Aside0.mk hC1
       obtain ⟨V, hV⟩ : ∃ V, V = can (prodV (l0.take k)) := ⟨_, rfl⟩
       obtain ⟨x, hx⟩ : ∃ x, x = l0[k] := ⟨_, rfl⟩
       rw [← hV] at HO HLen0 HM r1 r3 r4 u0 u2 ⊢
       rw [← hx] at hc1 hl1 HC1 HLen1 HM r2 r3 r4 u1
       have u3 : (can (valB W64 x)).length ≤ 4096 := by rw [hx]; omega
       obtain ⟨L, hL⟩ : ∃ L, L = lenL V := ⟨_, rfl⟩
       obtain ⟨M, hM⟩ : ∃ M, M = lenL (can (valB W64 x)) := ⟨_, rfl⟩
       rw [← hL] at HLen0 r1 r3 r4 u0
       rw [← hM] at HLen1 r2 r3 r4 u1
       clear hcell hC1 hcl hx hgd hV hL hM p1 xw x4 x1 xc hvw H97
       by_cases hearly : 262144 < L + M - 1
       ·have HTL := Aside0.mk (show nat_tooLong.f L M = some true by unfold nat_tooLong.f; rw [if_pos ⟨by omega, by omega, by omega, by omega⟩, decide_eq_true ⟨r1, r2, hearly⟩])
        have hlong := r3 hearly
        have hv0 := prodV_nonneg (l0.take (k + 1)) (fun y hy => HW.out y (List.mem_of_mem_take hy))
        have hh := HH.out
        have hlong2 : ¬ (can (prodV l0)).length ≤ 4096 := fun h => by
         rw [can_le_iff _ (by have := HPn.out; omega)] at h
         have := can_short hv0 (Int.lt_of_le_of_lt HPn.out h)
         omega
        unfold fitV at hh
        rw [if_neg hlong2] at hh
        cases hh
        clear hlong hlong2 hv0 r3 r4 HM HPn HS HH
        go_wp2_with fail
        refine (nat_length.calls _ _ V _ _ (R_C HO.out) (R_cap HO.out) HLen0.out).mono ?_
        rintro e w2 ⟨rfl, hd⟩
        have HB2 := Aside0.mk (below_step HB.out hd.below)
        have HC2 := Aside0.mk (Kd.C_below HC1.out hd.below)
        clear hd HB HC1
        go_wp2_with fail
        refine (nat_Len.calls _ _ x _ _ HC2.out hl1 HLen1.out).mono ?_
        rintro e w3 ⟨rfl, hd⟩
        have HB3 := Aside0.mk (below_step HB2.out hd.below)
        clear hd HB2
        go_wp2_with fail
        refine (nat_tooLong.calls L M _ _ HTL.out).mono ?_
        rintro e w4 ⟨rfl, hd⟩
        have HB4 := Aside0.mk (below_step HB3.out hd.below)
        clear hd HB3
        go_wp2
        go_ret2
        exact ⟨_, rfl, Kd.R_nil _ _ _ _ _, HB4.out⟩
       ·have HTL := Aside0.mk (show nat_tooLong.f L M = some false by unfold nat_tooLong.f; rw [if_pos ⟨by omega, by omega, by omega, by omega⟩, decide_eq_false (fun h => hearly h.2.2)])
        obtain ⟨q1, q2⟩ := r4 (by omega)
        have HMM := Aside0.mk (HM q1)
        have HQ2 := Aside0.mk q2
        clear r3 r4 HM HPn HS q2
        go_wp2_with fail
        refine (nat_length.calls _ _ V _ _ (R_C HO.out) (R_cap HO.out) HLen0.out).mono ?_
        rintro e w2 ⟨rfl, hd⟩
        have HB2 := Aside0.mk (below_step HB.out hd.below)
        have HC2 := Aside0.mk (Kd.C_below HC1.out hd.below)
        have HO2 := Aside0.mk (Kd.R_below HO.out hd.below)
        clear hd HB HC1 HO
        go_wp2_with fail
        refine (nat_Len.calls _ _ x _ _ HC2.out hl1 HLen1.out).mono ?_
        rintro e w3 ⟨rfl, hd⟩
        have HB3 := Aside0.mk (below_step HB2.out hd.below)
        have HC3 := Aside0.mk (Kd.C_below HC2.out hd.below)
        have HO3 := Aside0.mk (Kd.R_below HO2.out hd.below)
        clear hd HB2 HC2 HO2
        go_wp2_with fail
        refine (nat_tooLong.calls L M _ _ HTL.out).mono ?_
        rintro e w4 ⟨rfl, hd⟩
        have HB4 := Aside0.mk (below_step HB3.out hd.below)
        have HC4 := Aside0.mk (Kd.C_below HC3.out hd.below)
        have HO4 := Aside0.mk (Kd.R_below HO3.out hd.below)
        clear hd HB3 HC3 HO3
        go_wp2_with fail
        refine (nat_mul.calls _ _ V _ _ x _ _ (R_C HO4.out) (R_cap HO4.out) HC4.out hl1 HMM.out).mono ?_
        rintro e w5 ⟨v5, rfl, hR5, hb5⟩
        have HO5 := Aside0.mk (Kd.R_lower hR5 (below_size HB4.out))
        have HB5 := Aside0.mk (below_step HB4.out hb5)
        clear hR5 hb5 HO4 HB4
        go_wp2
        go_roundw
        case rel => exact ⟨k + 1, by omega, by go_num, HQ2, HO5, HB5⟩
        case measure => simp [intOf]; omega
      ·obtain rfl : k = l0.length := by omega
       have hv := HP1.out l0.length
       rw [List.take_length] at hv HO ⊢
       have hv : 0 ≤ prodV l0 := by omega
       generalize prodV l0 = v at *
       have hF := fit1 Az cz (can v) _ (can_in hv) (R_C HO.out) (R_cap HO.out)
       rw [can_val hv] at hF
       have hh := HH.out
       unfold fitV at hh
       by_cases h9 : (can v).length ≤ 4096
       ·rw [if_pos h9] at hF hh
        cases hh
        have HF := Aside0.mk hF
        clear hF
        go_wp2_with fail
        refine HF.out.mono ?_
        rintro e w9 ⟨rfl, rfl⟩
        go_wp2
        go_ret2
        exact ⟨_, rfl, HO.out, HB.out⟩
       ·rw [if_neg h9] at hF hh
        cases hh
        have HF := Aside0.mk hF
        clear hF
        go_wp2_with fail
        refine HF.out.mono ?_
        rintro e w9 ⟨rfl, rfl⟩
        go_wp2
        go_ret2
        exact ⟨_, rfl, Kd.R_nil _ _ _ _ _, HB.out⟩
   ·rw [if_neg h4] at h
    cases h
    have HL := Aside0.mk (large_list (decide_eq_false h4))
    clear hw h4
    go_enter Tryd.func40, Tryd.ntmps40
    go_wp2_with fail
    refine (nat_large.calls A0 c0 l0 _ _ HR.out hc0 HL.out).mono ?_
    rintro e w1 ⟨rfl, hd⟩
    have HB1 := Aside0.mk hd.below
    clear hd HL
    go_wp2
    go_ret2
    exact ⟨_, rfl, Kd.R_nil _ _ _ _ _, HB1.out⟩
  ·rw [if_neg hn] at h
   cases h
   have hnb : decide ((1000 : Int) < (l0.length : Int)) = true := decide_eq_true (by omega)
   clear hw
   go_enter Tryd.func40, Tryd.ntmps40
   go_wp2
   go_ret2
   exact ⟨_, rfl, Kd.R_nil _ _ _ _ _, Below.refl _ _⟩
 ·rw [if_neg hw] at h
  cases h
end Go.Proofs.YtkkkbalefnileaaDoor.Ex
/- What each function of the package says of a number that is too large. -/
namespace Go.Proofs.YtkkkbalefnileaaDoor.Ex
open Go.RowKit Go.Shelf Go.Proofs.YtkkkbalefnileaaDoorW.PrintWords Go.Proofs.YtkkkbalefnileaaDoorW.PrintLast Go.Proofs.YtkkkbalefnileaaDoorW.PrintMore Go.Proofs.YtkkkbalefnileaaDoor.T
set_option linter.unusedVariables false
set_option linter.unusedSimpArgs false

theorem sz_Add (W : World) (g n : Nat) (Lg : List Int) (hLl : Lg.length = n) (hLi : inW Lg) (hn1 : 4096 < n) (hn2 : n ≤ 5000) (hg : RowB W g Lg) (A : Option Addr) (c : Nat) (a : List Int) (hai : inW a) (hal : a.length ≤ 5) (ha : Kd.C (Kd.int .u64) W A a.length a) (hc : a.length ≤ c) : Calls Tryd.prog 29 #[.slice (some ⟨g, 0, none⟩) n n, .slice A a.length c] W fun e w' => (∃ (A1 : Option Addr) (c1 : Nat), e = .returned (.tuple #[.slice A1 0 c1, .int .i64 2])) ∧ Below W.heap.size W w' := by
  subst hLl
  have f : nat_Add.f Lg a = some ([], 2) := by unfold nat_Add.f; rw [if_pos ⟨hLi, hai⟩, if_neg (by omega)]
  refine (nat_Add.calls _ _ Lg _ _ a [] 2 W (R_C (hg.own' 0 (Nat.zero_le _) (by omega))) (Nat.le_refl _) ha hc f).mono ?_
  rintro e w' ⟨v, rfl, hR, hb⟩
  obtain ⟨A1, c1, rfl⟩ := Kd.R_slice hR
  exact ⟨⟨A1, c1, rfl⟩, hb⟩
theorem sz_Sub (W : World) (g n : Nat) (Lg : List Int) (hLl : Lg.length = n) (hLi : inW Lg) (hn1 : 4096 < n) (hn2 : n ≤ 5000) (hg : RowB W g Lg) (A : Option Addr) (c : Nat) (a : List Int) (hai : inW a) (hal : a.length ≤ 5) (ha : Kd.C (Kd.int .u64) W A a.length a) (hc : a.length ≤ c) : Calls Tryd.prog 37 #[.slice A a.length c, .slice (some ⟨g, 0, none⟩) n n] W fun e w' => (∃ (A1 : Option Addr) (c1 : Nat), e = .returned (.tuple #[.slice A1 0 c1, .int .i64 2])) ∧ Below W.heap.size W w' := by
  subst hLl
  have f : nat_Sub.f a Lg = some ([], 2) := by unfold nat_Sub.f; rw [if_pos ⟨hai, hLi⟩, if_neg (by omega)]
  refine (nat_Sub.calls _ _ a _ _ Lg [] 2 W ha hc (R_C (hg.own' 0 (Nat.zero_le _) (by omega))) (Nat.le_refl _) f).mono ?_
  rintro e w' ⟨v, rfl, hR, hb⟩
  obtain ⟨A1, c1, rfl⟩ := Kd.R_slice hR
  exact ⟨⟨A1, c1, rfl⟩, hb⟩
theorem sz_Mul (W : World) (g n : Nat) (Lg : List Int) (hLl : Lg.length = n) (hLi : inW Lg) (hn1 : 4096 < n) (hn2 : n ≤ 5000) (hg : RowB W g Lg) (A : Option Addr) (c : Nat) (a : List Int) (hai : inW a) (hal : a.length ≤ 5) (ha : Kd.C (Kd.int .u64) W A a.length a) (hc : a.length ≤ c) : Calls Tryd.prog 30 #[.slice A a.length c, .slice (some ⟨g, 0, none⟩) n n] W fun e w' => (∃ (A1 : Option Addr) (c1 : Nat), e = .returned (.tuple #[.slice A1 0 c1, .int .i64 2])) ∧ Below W.heap.size W w' := by
  subst hLl
  have f : nat_Mul.f a Lg = some ([], 2) := by unfold nat_Mul.f; rw [if_pos ⟨hai, hLi⟩, if_neg (by omega)]
  refine (nat_Mul.calls _ _ a _ _ Lg [] 2 W ha hc (R_C (hg.own' 0 (Nat.zero_le _) (by omega))) (Nat.le_refl _) f).mono ?_
  rintro e w' ⟨v, rfl, hR, hb⟩
  obtain ⟨A1, c1, rfl⟩ := Kd.R_slice hR
  exact ⟨⟨A1, c1, rfl⟩, hb⟩
theorem sz_Square (W : World) (g n : Nat) (Lg : List Int) (hLl : Lg.length = n) (hLi : inW Lg) (hn1 : 4096 < n) (hn2 : n ≤ 5000) (hg : RowB W g Lg) : Calls Tryd.prog 38 #[.slice (some ⟨g, 0, none⟩) n n] W fun e w' => (∃ (A1 : Option Addr) (c1 : Nat), e = .returned (.tuple #[.slice A1 0 c1, .int .i64 2])) ∧ Below W.heap.size W w' := by
  subst hLl
  have f : nat_Square.f Lg = some ([], 2) := by unfold nat_Square.f; rw [if_pos hLi, if_neg (by omega)]
  refine (nat_Square.calls _ _ Lg [] 2 W (R_C (hg.own' 0 (Nat.zero_le _) (by omega))) (Nat.le_refl _) f).mono ?_
  rintro e w' ⟨v, rfl, hR, hb⟩
  obtain ⟨A1, c1, rfl⟩ := Kd.R_slice hR
  exact ⟨⟨A1, c1, rfl⟩, hb⟩
theorem sz_DivMod (W : World) (g n : Nat) (Lg : List Int) (hLl : Lg.length = n) (hLi : inW Lg) (hn1 : 4096 < n) (hn2 : n ≤ 5000) (hg : RowB W g Lg) (A : Option Addr) (c : Nat) (a : List Int) (hai : inW a) (hal : a.length ≤ 5) (ha : Kd.C (Kd.int .u64) W A a.length a) (hc : a.length ≤ c) : Calls Tryd.prog 33 #[.slice A a.length c, .slice (some ⟨g, 0, none⟩) n n] W fun e w' => (∃ (A1 : Option Addr) (c1 : Nat) (A2 : Option Addr) (c2 : Nat), e = .returned (.tuple #[.slice A1 0 c1, .slice A2 0 c2, .int .i64 2])) ∧ Below W.heap.size W w' := by
  subst hLl
  have f : nat_DivMod.f a Lg = some ([], [], 2) := by unfold nat_DivMod.f; rw [if_pos ⟨hai, hLi⟩, if_neg (by omega)]
  refine (nat_DivMod.calls _ _ a _ _ Lg [] [] 2 W ha hc (R_C (hg.own' 0 (Nat.zero_le _) (by omega))) (Nat.le_refl _) f).mono ?_
  rintro e w' ⟨v, v2, rfl, hR, hR2, hb⟩
  obtain ⟨A1, c1, rfl⟩ := Kd.R_slice hR
  obtain ⟨A2, c2, rfl⟩ := Kd.R_slice hR2
  exact ⟨⟨A1, c1, A2, c2, rfl⟩, hb⟩
theorem sz_DivWord (W : World) (g n : Nat) (Lg : List Int) (hLl : Lg.length = n) (hLi : inW Lg) (hn1 : 4096 < n) (hn2 : n ≤ 5000) (hg : RowB W g Lg) : Calls Tryd.prog 39 #[.slice (some ⟨g, 0, none⟩) n n, .int .u64 0] W fun e w' => (∃ (A1 : Option Addr) (c1 : Nat), e = .returned (.tuple #[.slice A1 0 c1, .int .u64 0, .int .i64 2])) ∧ Below W.heap.size W w' := by
  subst hLl
  have f : nat_DivWord.f Lg 0 = some ([], 0, 2) := by unfold nat_DivWord.f; rw [if_pos ⟨hLi, by decide⟩, if_neg (by omega)]
  refine (nat_DivWord.calls _ _ Lg 0 [] 0 2 W (R_C (hg.own' 0 (Nat.zero_le _) (by omega))) (Nat.le_refl _) f).mono ?_
  rintro e w' ⟨v, rfl, hR, hb⟩
  obtain ⟨A1, c1, rfl⟩ := Kd.R_slice hR
  exact ⟨⟨A1, c1, rfl⟩, hb⟩
theorem sz_Pow (W : World) (g n : Nat) (Lg : List Int) (hLl : Lg.length = n) (hLi : inW Lg) (hn1 : 4096 < n) (hn2 : n ≤ 5000) (hg : RowB W g Lg) : Calls Tryd.prog 34 #[.slice (some ⟨g, 0, none⟩) n n, .int .i64 (-1)] W fun e w' => (∃ (A1 : Option Addr) (c1 : Nat), e = .returned (.tuple #[.slice A1 0 c1, .int .i64 2])) ∧ Below W.heap.size W w' := by
  subst hLl
  have f : nat_Pow.f Lg (-1) = some ([], 2) := by unfold nat_Pow.f; rw [if_pos hLi, if_neg (by omega)]
  refine (nat_Pow.calls _ _ Lg (-1) [] 2 W (R_C (hg.own' 0 (Nat.zero_le _) (by omega))) (Nat.le_refl _) f).mono ?_
  rintro e w' ⟨v, rfl, hR, hb⟩
  obtain ⟨A1, c1, rfl⟩ := Kd.R_slice hR
  exact ⟨⟨A1, c1, rfl⟩, hb⟩
theorem sz_Left (W : World) (g n : Nat) (Lg : List Int) (hLl : Lg.length = n) (hLi : inW Lg) (hn1 : 4096 < n) (hn2 : n ≤ 5000) (hg : RowB W g Lg) : Calls Tryd.prog 31 #[.slice (some ⟨g, 0, none⟩) n n, .int .i64 (-1)] W fun e w' => (∃ (A1 : Option Addr) (c1 : Nat), e = .returned (.tuple #[.slice A1 0 c1, .int .i64 2])) ∧ Below W.heap.size W w' := by
  subst hLl
  have f : nat_Left.f Lg (-1) = some ([], 2) := by unfold nat_Left.f; rw [if_pos hLi, if_neg (by omega)]
  refine (nat_Left.calls _ _ Lg (-1) [] 2 W (R_C (hg.own' 0 (Nat.zero_le _) (by omega))) (Nat.le_refl _) f).mono ?_
  rintro e w' ⟨v, rfl, hR, hb⟩
  obtain ⟨A1, c1, rfl⟩ := Kd.R_slice hR
  exact ⟨⟨A1, c1, rfl⟩, hb⟩
theorem sz_Right (W : World) (g n : Nat) (Lg : List Int) (hLl : Lg.length = n) (hLi : inW Lg) (hn1 : 4096 < n) (hn2 : n ≤ 5000) (hg : RowB W g Lg) : Calls Tryd.prog 35 #[.slice (some ⟨g, 0, none⟩) n n, .int .i64 (-1)] W fun e w' => (∃ (A1 : Option Addr) (c1 : Nat), e = .returned (.tuple #[.slice A1 0 c1, .int .i64 2])) ∧ Below W.heap.size W w' := by
  subst hLl
  have f : nat_Right.f Lg (-1) = some ([], 2) := by unfold nat_Right.f; rw [if_pos hLi, if_neg (by omega)]
  refine (nat_Right.calls _ _ Lg (-1) [] 2 W (R_C (hg.own' 0 (Nat.zero_le _) (by omega))) (Nat.le_refl _) f).mono ?_
  rintro e w' ⟨v, rfl, hR, hb⟩
  obtain ⟨A1, c1, rfl⟩ := Kd.R_slice hR
  exact ⟨⟨A1, c1, rfl⟩, hb⟩
theorem sz_Low (W : World) (g n : Nat) (Lg : List Int) (hLl : Lg.length = n) (hLi : inW Lg) (hn1 : 4096 < n) (hn2 : n ≤ 5000) (hg : RowB W g Lg) : Calls Tryd.prog 36 #[.slice (some ⟨g, 0, none⟩) n n, .int .i64 (-1)] W fun e w' => (∃ (A1 : Option Addr) (c1 : Nat), e = .returned (.tuple #[.slice A1 0 c1, .int .i64 2])) ∧ Below W.heap.size W w' := by
  subst hLl
  have f : nat_Low.f Lg (-1) = some ([], 2) := by unfold nat_Low.f; rw [if_pos hLi, if_neg (by omega)]
  refine (nat_Low.calls _ _ Lg (-1) [] 2 W (R_C (hg.own' 0 (Nat.zero_le _) (by omega))) (Nat.le_refl _) f).mono ?_
  rintro e w' ⟨v, rfl, hR, hb⟩
  obtain ⟨A1, c1, rfl⟩ := Kd.R_slice hR
  exact ⟨⟨A1, c1, rfl⟩, hb⟩
theorem sz_SetBit (W : World) (g n : Nat) (Lg : List Int) (hLl : Lg.length = n) (hLi : inW Lg) (hn1 : 4096 < n) (hn2 : n ≤ 5000) (hg : RowB W g Lg) : Calls Tryd.prog 9 #[.slice (some ⟨g, 0, none⟩) n n, .int .i64 (-1), .bool true] W fun e w' => (∃ (A1 : Option Addr) (c1 : Nat), e = .returned (.tuple #[.slice A1 0 c1, .int .i64 2])) ∧ Below W.heap.size W w' := by
  subst hLl
  have f : nat_SetBit.f Lg (-1) true = some ([], 2) := by unfold nat_SetBit.f; rw [if_pos hLi, if_neg (by omega)]
  refine (nat_SetBit.calls _ _ Lg (-1) true [] 2 W (R_C (hg.own' 0 (Nat.zero_le _) (by omega))) (Nat.le_refl _) f).mono ?_
  rintro e w' ⟨v, rfl, hR, hb⟩
  obtain ⟨A1, c1, rfl⟩ := Kd.R_slice hR
  exact ⟨⟨A1, c1, rfl⟩, hb⟩
theorem sz_And (W : World) (g n : Nat) (Lg : List Int) (hLl : Lg.length = n) (hLi : inW Lg) (hn1 : 4096 < n) (hn2 : n ≤ 5000) (hg : RowB W g Lg) (A : Option Addr) (c : Nat) (a : List Int) (hai : inW a) (hal : a.length ≤ 5) (ha : Kd.C (Kd.int .u64) W A a.length a) (hc : a.length ≤ c) (hj : LaidJ W) : Calls Tryd.prog 14 #[.slice (some ⟨g, 0, none⟩) n n, .slice A a.length c] W fun e w' => (∃ (A1 : Option Addr) (c1 : Nat), e = .returned (.tuple #[.slice A1 0 c1, .int .i64 2])) ∧ Below W.heap.size W w' := by
  subst hLl
  have f0 : nat_join.f Lg a andS = some ([], 2) := by unfold nat_join.f; rw [if_pos ⟨hLi, hai⟩, if_neg (by omega)]
  have f : nat_And.f Lg a = some ([], 2) := by unfold nat_And.f; rw [f0, Option.bind_some]
  refine (nat_And.calls _ _ Lg _ _ a [] 2 W (R_C (hg.own' 0 (Nat.zero_le _) (by omega))) (Nat.le_refl _) ha hc hj f).mono ?_
  rintro e w' ⟨v, rfl, hR, hb⟩
  obtain ⟨A1, c1, rfl⟩ := Kd.R_slice hR
  exact ⟨⟨A1, c1, rfl⟩, hb⟩
theorem sz_Or (W : World) (g n : Nat) (Lg : List Int) (hLl : Lg.length = n) (hLi : inW Lg) (hn1 : 4096 < n) (hn2 : n ≤ 5000) (hg : RowB W g Lg) (A : Option Addr) (c : Nat) (a : List Int) (hai : inW a) (hal : a.length ≤ 5) (ha : Kd.C (Kd.int .u64) W A a.length a) (hc : a.length ≤ c) (hj : LaidJ W) : Calls Tryd.prog 15 #[.slice A a.length c, .slice (some ⟨g, 0, none⟩) n n] W fun e w' => (∃ (A1 : Option Addr) (c1 : Nat), e = .returned (.tuple #[.slice A1 0 c1, .int .i64 2])) ∧ Below W.heap.size W w' := by
  subst hLl
  have f0 : nat_join.f a Lg orS = some ([], 2) := by unfold nat_join.f; rw [if_pos ⟨hai, hLi⟩, if_neg (by omega)]
  have f : nat_Or.f a Lg = some ([], 2) := by unfold nat_Or.f; rw [f0, Option.bind_some]
  refine (nat_Or.calls _ _ a _ _ Lg [] 2 W ha hc (R_C (hg.own' 0 (Nat.zero_le _) (by omega))) (Nat.le_refl _) hj f).mono ?_
  rintro e w' ⟨v, rfl, hR, hb⟩
  obtain ⟨A1, c1, rfl⟩ := Kd.R_slice hR
  exact ⟨⟨A1, c1, rfl⟩, hb⟩
theorem sz_Xor (W : World) (g n : Nat) (Lg : List Int) (hLl : Lg.length = n) (hLi : inW Lg) (hn1 : 4096 < n) (hn2 : n ≤ 5000) (hg : RowB W g Lg) (A : Option Addr) (c : Nat) (a : List Int) (hai : inW a) (hal : a.length ≤ 5) (ha : Kd.C (Kd.int .u64) W A a.length a) (hc : a.length ≤ c) (hj : LaidJ W) : Calls Tryd.prog 16 #[.slice (some ⟨g, 0, none⟩) n n, .slice A a.length c] W fun e w' => (∃ (A1 : Option Addr) (c1 : Nat), e = .returned (.tuple #[.slice A1 0 c1, .int .i64 2])) ∧ Below W.heap.size W w' := by
  subst hLl
  have f0 : nat_join.f Lg a xorS = some ([], 2) := by unfold nat_join.f; rw [if_pos ⟨hLi, hai⟩, if_neg (by omega)]
  have f : nat_Xor.f Lg a = some ([], 2) := by unfold nat_Xor.f; rw [f0, Option.bind_some]
  refine (nat_Xor.calls _ _ Lg _ _ a [] 2 W (R_C (hg.own' 0 (Nat.zero_le _) (by omega))) (Nat.le_refl _) ha hc hj f).mono ?_
  rintro e w' ⟨v, rfl, hR, hb⟩
  obtain ⟨A1, c1, rfl⟩ := Kd.R_slice hR
  exact ⟨⟨A1, c1, rfl⟩, hb⟩
theorem sz_Sum (W : World) (g n : Nat) (Lg : List Int) (hLl : Lg.length = n) (hLi : inW Lg) (hn1 : 4096 < n) (hn2 : n ≤ 5000) (hg : RowB W g Lg) (A : Option Addr) (c : Nat) (a : List Int) (hai : inW a) (hal : a.length ≤ 5) (ha : Kd.C (Kd.int .u64) W A a.length a) (hc : a.length ≤ c) : Calls Tryd.prog 32 #[.slice (some ⟨W.heap.size, 0, none⟩) 2 2] (W.alloc (.cells #[.slice A a.length c, .slice (some ⟨g, 0, none⟩) n n] 23)) fun e w' => (∃ (A1 : Option Addr) (c1 : Nat), e = .returned (.tuple #[.slice A1 0 c1, .int .i64 2])) ∧ Below W.heap.size W w' := by
  subst hLl
  have hB := below_alloc (Below.refl W.heap.size W) (.cells #[.slice A a.length c, .slice (some ⟨g, 0, none⟩) Lg.length Lg.length] 23)
  have hgC := R_C ((hg.alloc (.cells #[.slice A a.length c, .slice (some ⟨g, 0, none⟩) Lg.length Lg.length] 23)).own' 0 (Nat.zero_le _) (by omega))
  have haC := Kd.C_below ha hB
  have hw : ∀ x ∈ [a, Lg], inW x := by
    intro x hx
    simp at hx
    rcases hx with rfl | rfl <;> assumption
  have hl : ¬ ∀ x ∈ [a, Lg], x.length ≤ 4096 := fun h => by
    have := h Lg (by simp)
    omega
  have f : nat_Sum.f [a, Lg] = some ([], 2) := by
    unfold nat_Sum.f
    rw [if_pos hw, if_pos (by show (2 : Nat) ≤ 1000; decide), if_neg hl]
  refine (nat_Sum.calls (some ⟨W.heap.size, 0, none⟩) 2 [a, Lg] [] 2 _ (C_two haC hc hgC (Nat.le_refl _) (heap_alloc_new _ _)) (Nat.le_refl 2) f).mono ?_
  rintro e w' ⟨v, rfl, hR, hb⟩
  obtain ⟨A1, c1, rfl⟩ := Kd.R_slice hR
  exact ⟨⟨A1, c1, rfl⟩, below_step hB hb⟩
theorem sz_Product (W : World) (g n : Nat) (Lg : List Int) (hLl : Lg.length = n) (hLi : inW Lg) (hn1 : 4096 < n) (hn2 : n ≤ 5000) (hg : RowB W g Lg) (A : Option Addr) (c : Nat) (a : List Int) (hai : inW a) (hal : a.length ≤ 5) (ha : Kd.C (Kd.int .u64) W A a.length a) (hc : a.length ≤ c) : Calls Tryd.prog 40 #[.slice (some ⟨W.heap.size, 0, none⟩) 2 2] (W.alloc (.cells #[.slice (some ⟨g, 0, none⟩) n n, .slice A a.length c] 23)) fun e w' => (∃ (A1 : Option Addr) (c1 : Nat), e = .returned (.tuple #[.slice A1 0 c1, .int .i64 2])) ∧ Below W.heap.size W w' := by
  subst hLl
  have hB := below_alloc (Below.refl W.heap.size W) (.cells #[.slice (some ⟨g, 0, none⟩) Lg.length Lg.length, .slice A a.length c] 23)
  have hgC := R_C ((hg.alloc (.cells #[.slice (some ⟨g, 0, none⟩) Lg.length Lg.length, .slice A a.length c] 23)).own' 0 (Nat.zero_le _) (by omega))
  have haC := Kd.C_below ha hB
  have hw : ∀ x ∈ [Lg, a], inW x := by
    intro x hx
    simp at hx
    rcases hx with rfl | rfl <;> assumption
  have hl : ¬ ∀ x ∈ [Lg, a], x.length ≤ 4096 := fun h => by
    have := h Lg (by simp)
    omega
  have f : nat_Product.f [Lg, a] = some ([], 2) := by
    unfold nat_Product.f
    rw [if_pos hw, if_pos (by show (2 : Nat) ≤ 1000; decide), if_neg hl]
  refine (nat_Product.calls (some ⟨W.heap.size, 0, none⟩) 2 [Lg, a] [] 2 _ (C_two hgC (Nat.le_refl _) haC hc (heap_alloc_new _ _)) (Nat.le_refl 2) f).mono ?_
  rintro e w' ⟨v, rfl, hR, hb⟩
  obtain ⟨A1, c1, rfl⟩ := Kd.R_slice hR
  exact ⟨⟨A1, c1, rfl⟩, below_step hB hb⟩
end Go.Proofs.YtkkkbalefnileaaDoor.Ex
