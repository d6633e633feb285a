/- NatLists: for every list of rows of words and every int, the sum and the product of its first 20 numbers (of each the first 8 words) are those that the reference tells; a list of more than 1000 numbers is refused; a product with a 0 in it is 0, and one that is too large is refused. (Part 3 of 4.) -/
import Derived.Test.YtkkkbalefnileaaProg
import Derived.Below
import Derived.Deep.Draws
import Derived.Deep.AppendLies
import Derived.Maps.AppendAt
import Derived.OwnWalk
import Derived.Laws.BytesArg
import Derived.Laws.MakeOwn
import Derived.Laws.OwnMore
import Derived.Deep.OwnRows
import Derived.Tactics
import Derived.Lib.ConvBytes
import Derived.Laws.Slices
import Derived.WalkKit
import Derived.KernelRfl
import Derived.RowKit3
import Derived.Deep.LoopGhost
import Derived.Deep.QuietTactic
import Derived.BigQuiet
import Derived.WideLaws
import Derived.Deep.DeepCutAuto
import Derived.Deep.CutBlock
import Derived.Deep.RegionHeld3
import Derived.Laws.Rows
import Derived.Lib.AppendStr
import Derived.ArgAppend
import Derived.Laws.IdiomCopy
import Derived.OrdersHeld
import Derived.Laws.BitsLemmas
import Derived.RowKit
import Derived.Test.YtkkkbalefnileaaMNatLists1
/- nat.Product. -/
namespace Go.Proofs.Ytkkkbalefnileaa.Ex
open Go.RowKit Go.Shelf Go.Proofs.YtkkkbalefnileaaW.PrintWords Go.Proofs.YtkkkbalefnileaaW.PrintLast Go.Proofs.YtkkkbalefnileaaW.PrintMore
set_option linter.unusedVariables false
set_option linter.unusedSimpArgs false

def prodV : List (List Int) → Int
  | [] => 1
  | x :: l => valB W64 x * prodV l
theorem prodV_append (a b : List (List Int)) : prodV (a ++ b) = prodV a * prodV b := by
  induction a with
  | nil => simp [prodV]
  | cons x a ih => simp [prodV, ih, Int.mul_assoc]
theorem prodV_succ (l : List (List Int)) (k : Nat) (h : k < l.length) : prodV (l.take (k + 1)) = prodV (l.take k) * valB W64 l[k] := by
  rw [List.take_succ_eq_append_getElem h, prodV_append]
  simp [prodV]
theorem prodV_nonneg : ∀ (l : List (List Int)), (∀ x ∈ l, inW x) → 0 ≤ prodV l
  | [], _ => by simp [prodV]
  | x :: l, h => Int.mul_nonneg (valW_nonneg (h x (List.mem_cons_self ..))) (prodV_nonneg l fun y hy => h y (List.mem_cons_of_mem _ hy))
theorem prodV_pos : ∀ (l : List (List Int)), (∀ x ∈ l, 1 ≤ valB W64 x) → 1 ≤ prodV l
  | [], _ => by simp [prodV]
  | x :: l, h => by
    have h1 := h x (List.mem_cons_self ..)
    have h2 := prodV_pos l fun y hy => h y (List.mem_cons_of_mem _ hy)
    have h3 : 1 * 1 ≤ valB W64 x * prodV l := Int.mul_le_mul h1 h2 (by decide) (by omega)
    simpa [prodV] using h3
theorem prodV_le (l : List (List Int)) (h : ∀ x ∈ l, 1 ≤ valB W64 x) (k : Nat) : prodV (l.take k) ≤ prodV l := by
  have e : prodV l = prodV (l.take k) * prodV (l.drop k) := by rw [← prodV_append, List.take_append_drop]
  have h1 := prodV_pos (l.take k) fun x hx => h x (List.mem_of_mem_take hx)
  have h2 := prodV_pos (l.drop k) fun x hx => h x (List.mem_of_mem_drop hx)
  have h3 : prodV (l.take k) * 1 ≤ prodV (l.take k) * prodV (l.drop k) := Int.mul_le_mul_of_nonneg_left h2 (by omega)
  rw [e]
  omega
theorem prodV_zero : ∀ (l : List (List Int)), (∃ x ∈ l, valB W64 x = 0) → prodV l = 0
  | [], h => by obtain ⟨x, hx, _⟩ := h; cases hx
  | y :: l, h => by
    obtain ⟨x, hx, h0⟩ := h
    rcases List.mem_cons.1 hx with rfl | hx
    · simp [prodV, h0]
    · simp [prodV, prodV_zero l ⟨x, hx, h0⟩]
/-- Has a number no value? -/
def zeroL (l : List Int) : Bool := decide ((can (valB W64 l)).length = 0)
theorem zeroL_iff {l : List Int} (h : inW l) : zeroL l = true ↔ valB W64 l = 0 := by
  unfold zeroL
  rw [decide_eq_true_iff, List.length_eq_zero_iff, can_nil_iff (valW_nonneg h)]
theorem prod1 (A : Option Addr) (c : Nat) (l : List Int) (w : World) (hw : inW l) (hr : Kd.C (Kd.int .u64) w A l.length l) (hc : l.length ≤ c) :
    Calls Try.prog 72 #[.slice A l.length c] w fun e w' => e = .returned (.bool (zeroL l)) ∧ w = w' := by
  have HT0 := Aside0.mk (trim1 A c l w hw hr hc)
  unfold zeroL
  generalize (can (valB W64 l)).length = n at *
  clear hr
  by_cases hn : n = 0
  · subst hn
    go_enter Try.func72, Try.ntmps72
    go_wp2_with fail
    refine HT0.out.mono ?_
    rintro e w1 ⟨rfl, rfl⟩
    go_wp2
    go_ret
    exact ⟨rfl, rfl⟩
  · have d0 : decide ((n : Int) = 0) = false := decide_eq_false (by omega)
    have d1 : decide (n = 0) = false := decide_eq_false hn
    have d2 : ((n : Int) == 0) = false := by have : ¬ (n : Int) = 0 := by omega
                                             simpa using this
    go_enter Try.func72, Try.ntmps72
    go_wp2_with fail
    refine HT0.out.mono ?_
    rintro e w1 ⟨rfl, rfl⟩
    go_wp2
    go_ret
    exact ⟨by rw [d1]; rfl, rfl⟩
theorem any_take_succL (z : List Int → Bool) (l : List (List Int)) (k : Nat) (h : k < l.length) : (l.take (k + 1)).any z = ((l.take k).any z || z l[k]) := by
  rw [List.take_succ_eq_append_getElem h, List.any_append, List.any_cons, List.any_nil, Bool.or_false]
theorem idxProd (A0 : Option Addr) (c0 : Nat) (l0 : List (List Int)) (w : World) (hw : ∀ x ∈ l0, inW x) (hr0 : Kd.C (Kd.slice 33 (Kd.int .u64)) w A0 l0.length l0) (hc0 : l0.length ≤ c0) :
    Calls Try.prog 95 #[.slice A0 l0.length c0, .func (.func 72) #[] #[]] w
      fun e w' => (∃ i : Int, e = .returned (.int .i64 i) ∧ decide (0 ≤ i) = l0.any zeroL) ∧ w = w' := by
  have HR := Aside0.mk hr0
  have HW := Aside0.mk hw
  have hn : l0.length ≤ 9223372036854775807 := hr0.2.1
  clear hr0 hw
  go_enter Try.func95, Try.ntmps95
  go_wp2
  go_loop [5, 8] (fun _ i => ∃ k : Nat, k ≤ l0.length ∧ i = .int .i64 k ∧ Aside0 ((l0.take k).any zeroL = false)) (fun _ i => l0.length - (intOf i).toNat)
  case atStart => exact ⟨0, Nat.zero_le _, rfl, ⟨by simp⟩⟩
  case round =>
    obtain ⟨k, hk, rfl, HA⟩ := hrel
    by_cases hlt : k < l0.length
    · obtain ⟨ad, c, rfl, hcl, hK, hcell⟩ := Kd.C_get HR.out [] k (by omega) (by omega)
      obtain ⟨A1, c1, rfl, hl1, hC1⟩ := hK
      have hc1 := hcell 0 _ rfl
      simp only [Int.toNat_natCast] at hc1 hC1 hl1
      have e0 : k * (Kd.slice 33 (Kd.int .u64)).sz + 0 = k := by simp [Kd.slice]
      rw [e0] at hc1
      have HS := Aside0.mk (any_take_succL zeroL l0 k hlt)
      have hg : (l0[k]?.getD []) = l0[k] := by rw [List.getElem?_eq_getElem hlt]; rfl
      have hgd : l0.getD k [] = l0[k] := by rw [List.getD_eq_getElem?_getD, hg]
      rw [hgd] at hc1 hC1 hl1
      have HP := Aside0.mk (prod1 A1 c1 l0[k] w (HW.out _ (List.getElem_mem _)) hC1 hl1)
      have HM := Aside0.mk (List.getElem_mem (l := l0) hlt)
      obtain ⟨x, hx⟩ : ∃ x, x = l0[k] := ⟨_, rfl⟩
      rw [← hx] at hc1 HP HS HM
      clear hcell hC1 hl1 hcl hx hg hgd
      by_cases h4 : zeroL x = true
      · rw [h4] at HP
        go_wp2_with (go_at_call 72; refine HP.out.mono ?_; rintro e w' ⟨rfl, rfl⟩)
        go_ret
        refine ⟨⟨k, rfl, ?_⟩, rfl⟩
        have hf : l0.any zeroL = true := List.any_eq_true.2 ⟨x, HM.out, h4⟩
        rw [hf]
        exact decide_eq_true (by omega)
      · have h4b : zeroL x = false := by simpa using h4
        rw [h4b] at HP HS
        go_wp2_with (go_at_call 72; refine HP.out.mono ?_; rintro e w' ⟨rfl, rfl⟩)
        go_round
        case rel => exact ⟨k + 1, by omega, by go_num, ⟨by rw [HS.out, HA.out]; rfl⟩⟩
        case measure => simp [intOf]; omega
    · obtain rfl : k = l0.length := by omega
      go_wp2
      go_ret
      have h1 := HA.out
      rw [List.take_length] at h1
      exact ⟨⟨-1, rfl, by rw [h1]; rfl⟩, rfl⟩
theorem containsProd (A0 : Option Addr) (c0 : Nat) (l0 : List (List Int)) (w : World) (hw : ∀ x ∈ l0, inW x) (hr0 : Kd.C (Kd.slice 33 (Kd.int .u64)) w A0 l0.length l0) (hc0 : l0.length ≤ c0) :
    Calls Try.prog 71 #[.slice A0 l0.length c0, .func (.func 72) #[] #[]] w
      fun e w' => e = .returned (.bool (l0.any zeroL)) ∧ w = w' := by
  have HR := Aside0.mk hr0
  have HW := Aside0.mk hw
  clear hr0 hw
  go_enter Try.func71, Try.ntmps71
  go_wp2_with (go_at_call 95; refine (idxProd _ _ l0 _ HW.out HR.out hc0).mono ?_; rintro e w' ⟨⟨i, rfl, hi⟩, rfl⟩; have HI := Aside0.mk hi; clear hi)
  go_ret
  exact ⟨by rw [← HI.out]; rfl, rfl⟩
def nat_Product.f (l0 : List (List Int)) : Option (List Int × Int) :=
  if ∀ x ∈ l0, inW x then
    if l0.length ≤ 1000 then
      if ∀ x ∈ l0, x.length ≤ 4096 then some (fitV (prodV l0)) else some ([], 2)
    else some ([], 1)
  else none
/-- One round of the loop, told by values. -/
theorem prod_round {v x : Int} (hv : 1 ≤ v) (hx : 1 ≤ x) (hxl : (can x).length ≤ 4096) :
    (0 < lenL (can v) ∧ 0 < lenL (can x)) ∧ (262144 < lenL (can v) + lenL (can x) - 1 → 4096 < (can (v * x)).length) ∧ (lenL (can v) + lenL (can x) - 1 ≤ 262144 → (can v).length ≤ 4096 ∧ (can (v * x)).length ≤ 4097) := by
  have cv := can_canL (v := v) (by omega)
  have cx := can_canL (v := x) (by omega)
  have nv : can v ≠ [] := fun e => by have := (can_nil_iff (by omega)).1 e; omega
  have nx : can x ≠ [] := fun e => by have := (can_nil_iff (by omega)).1 e; omega
  obtain ⟨p1, p2, p3, p4, p5⟩ := lenL_bounds cv nv
  obtain ⟨q1, q2, q3, q4, q5⟩ := lenL_bounds cx nx
  have hm := fun h => mul_long cv cx (by omega) (by omega) h
  rw [can_val (by omega)] at p4 p5 hm
  rw [can_val (by omega)] at q4 q5 hm
  refine ⟨⟨by omega, by omega⟩, hm, fun h => ⟨by omega, ?_⟩⟩
  refine can_short (Int.mul_nonneg (by omega) (by omega)) ?_
  have h1 : v * x < 2 ^ (lenL (can v)).toNat * 2 ^ (lenL (can x)).toNat := by
    have h2 : v * x < 2 ^ (lenL (can v)).toNat * x := Int.mul_lt_mul_of_pos_right p5 (by omega)
    have h3 : 2 ^ (lenL (can v)).toNat * x ≤ 2 ^ (lenL (can v)).toNat * 2 ^ (lenL (can x)).toNat := Int.mul_le_mul_of_nonneg_left (Int.le_of_lt q5) (Int.pow_nonneg (by decide))
    exact Int.lt_of_lt_of_le h2 h3
  rw [← Int.pow_add] at h1
  rw [pow2_W]
  exact Int.lt_of_lt_of_le h1 (pow_mono (by decide) (by omega))
set_option maxRecDepth 100000 in
set_option maxHeartbeats 4000000 in
theorem nat_Product.calls (A0 : Option Addr) (c0 : Nat) (l0 : List (List Int)) (r1 : List Int) (r2 : Int) (w : World) (hr0 : Kd.C (Kd.slice 33 (Kd.int .u64)) w A0 l0.length l0) (hc0 : l0.length ≤ c0) (h : nat_Product.f l0 = some (r1, r2)) :
  Calls Try.prog 30 #[.slice A0 l0.length c0] w fun e w' => ∃ v0_ : Value, e = .returned (.tuple #[v0_, .int .i64 r2]) ∧ Kd.R (Kd.int .u64) 33 w' w.heap.size (fun _ => True) v0_ r1 ∧ Below w.heap.size w w' := by
 unfold nat_Product.f at h
 by_cases hw : ∀ x ∈ l0, inW x
 ·rw [if_pos hw] at h
  have HR := Aside0.mk hr0
  clear hr0
  by_cases hn : l0.length ≤ 1000
  ·rw [if_pos hn] at h
   have hnb : decide ((1000 : Int) < (l0.length : Int)) = false := decide_eq_false (by omega)
   by_cases h4 : ∀ x ∈ l0, x.length ≤ 4096
   ·rw [if_pos h4] at h
    have HL := Aside0.mk (large_list (decide_eq_true h4))
    by_cases hz : l0.any zeroL = true
    ·have hz0 : prodV l0 = 0 := by
      obtain ⟨x, hx, h0⟩ := List.any_eq_true.1 hz
      exact prodV_zero l0 ⟨x, hx, (zeroL_iff (hw x hx)).1 h0⟩
     rw [hz0] at h
     have e0 : fitV 0 = ([], 0) := by unfold fitV; rw [show can 0 = [] from rfl]; rfl
     rw [e0] at h
     cases h
     have HW := Aside0.mk hw
     clear hw h4
     go_enter Try.func30, Try.ntmps30
     go_wp2_with fail
     refine (nat_large.calls A0 c0 l0 _ _ HR.out hc0 HL.out).mono ?_
     rintro e w1 ⟨rfl, hd⟩
     have HB1 := Aside0.mk hd.below
     clear hd HL
     have HCP := Aside0.mk (containsProd A0 c0 l0 w1 HW.out (Kd.C_below HR.out HB1.out) hc0)
     rw [hz] at HCP
     go_wp2_with fail
     refine HCP.out.mono ?_
     rintro e w2 ⟨rfl, rfl⟩
     go_wp2
     go_ret2
     exact ⟨_, rfl, Kd.R_nil _ _ _ _ _, HB1.out⟩
    ·have hzf : l0.any zeroL = false := by simpa using hz
     have h1 : ∀ x ∈ l0, 1 ≤ valB W64 x := fun x hx => by
      have h0 := valW_nonneg (hw x hx)
      have h2 : ¬ valB W64 x = 0 := fun e => hz (List.any_eq_true.2 ⟨x, hx, (zeroL_iff (hw x hx)).2 e⟩)
      omega
     have HP1 := Aside0.mk (fun k => prodV_pos (l0.take k) fun x hx => h1 x (List.mem_of_mem_take hx))
     have HPle := Aside0.mk (fun k => prodV_le l0 h1 k)
     have HW := Aside0.mk hw
     have H4 := Aside0.mk h4
     have HH := Aside0.mk h
     have H1 := Aside0.mk h1
     clear hw h4 h h1 hz
     go_enter Try.func30, Try.ntmps30
     go_wp2_with fail
     refine (nat_large.calls A0 c0 l0 _ _ HR.out hc0 HL.out).mono ?_
     rintro e w1 ⟨rfl, hd⟩
     have HB1 := Aside0.mk hd.below
     clear hd HL
     have HCP := Aside0.mk (containsProd A0 c0 l0 w1 HW.out (Kd.C_below HR.out HB1.out) hc0)
     rw [hzf] at HCP
     go_wp2_with fail
     refine HCP.out.mono ?_
     rintro e w2 ⟨rfl, rfl⟩
     clear HCP
     go_wp2
     have hone : can 1 = [1] := by decide
     have HO1 := Aside0.mk (show Kd.R (Kd.int .u64) 33 (w1.alloc (.cells #[.int .u64 1] 33)) w.heap.size (fun _ => True) (.slice (some ⟨w1.heap.size, 0, none⟩) 1 1) ([1] : List Int) from Kd.R_of_own (enc := Value.int .u64) (h1 := fun _ => rfl) (own_lit w1 w.heap.size 33 .u64 [1] (below_size HB1.out) (by simp)) (fun _ _ => trivial))
     have HBa := Aside0.mk (below_alloc HB1.out (.cells #[.int .u64 1] 33))
     go_loopw [4, 17] (fun v i wr => ∃ k : Nat, k ≤ l0.length ∧ i = .int .i64 k ∧ Aside0 ((can (prodV (l0.take k))).length ≤ 4097) ∧ Aside0 (Kd.R (Kd.int .u64) 33 wr w.heap.size (fun _ => True) v (can (prodV (l0.take k)))) ∧ Aside0 (Below w.heap.size w wr)) (fun _ i _ => l0.length - (intOf i).toNat)
     case atStart => exact ⟨0, Nat.zero_le _, rfl, ⟨by show (can 1).length ≤ 4097; rw [hone]; decide⟩, ⟨by show Kd.R _ _ _ _ _ _ (can 1); rw [hone]; exact HO1.out⟩, HBa⟩
     case round =>
      clear HB1 HO1 HBa
      obtain ⟨k, hk, rfl, H97, HO, HB⟩ := hrel
      obtain ⟨Az, cz, rfl⟩ := Kd.R_slice HO.out
      by_cases hlt : k < l0.length
      ·have hlti : (k : Int) < (l0.length : Int) := by omega
       obtain ⟨ad, c, rfl, hcl, hK, hcell⟩ := Kd.C_get (Kd.C_below HR.out HB.out) [] k (by omega) (by omega)
       obtain ⟨A1, c1, rfl, hl1, hC1⟩ := hK
       have hc1 := hcell 0 _ rfl
       simp only [Int.toNat_natCast] at hc1 hC1 hl1
       have e0 : k * (Kd.slice 33 (Kd.int .u64)).sz + 0 = k := by simp [Kd.slice]
       rw [e0] at hc1
       have hgd : l0.getD k [] = l0[k] := by rw [List.getD_eq_getElem?_getD, List.getElem?_eq_getElem hlt]; rfl
       rw [hgd] at hc1 hC1 hl1
       have HS := Aside0.mk (prodV_succ l0 k hlt)
       have p1 := HP1.out k
       have xw := HW.out _ (List.getElem_mem hlt)
       have x4 := H4.out _ (List.getElem_mem hlt)
       have x1 := H1.out _ (List.getElem_mem hlt)
       have xc := can_le xw
       have HPn := Aside0.mk (HPle.out (k + 1))
       obtain ⟨⟨r1, r2⟩, r3, r4⟩ := prod_round (v := prodV (l0.take k)) (x := valB W64 l0[k]) p1 x1 (by omega)
       have hvw := can_in (v := prodV (l0.take k)) (by omega)
       have HLen0 := Aside0.mk (show nat_length.f (can (prodV (l0.take k))) = some (lenL (can (prodV (l0.take k)))) by unfold nat_length.f; rw [if_pos ⟨hvw, by have := H97.out; omega⟩])
       have HLen1 := Aside0.mk (show nat_Len.f l0[k] = some (lenL (can (valB W64 l0[k]))) by unfold nat_Len.f; rw [if_pos ⟨xw, by omega⟩])
       have HM := fun h : (can (prodV (l0.take k))).length ≤ 4096 => (show nat_mul.f (can (prodV (l0.take k))) l0[k] = some (can (prodV (l0.take k) * valB W64 l0[k])) by unfold nat_mul.f; rw [if_pos ⟨hvw, xw, by omega, by omega, by rw [can_val (by omega)]; omega⟩, can_val (by omega)])
       have u0 := (lenL_bounds (can_canL (v := prodV (l0.take k)) (by omega)) (fun e => by have := (can_nil_iff (by omega)).1 e; omega)).2.2.1
       have u1 := (lenL_bounds (can_canL (v := valB W64 l0[k]) (by omega)) (fun e => by have := (can_nil_iff (by omega)).1 e; omega)).2.2.1
       have u2 := H97.out
       rw [← HS.out] at r3 r4 HM
       have HC1 := Aside0.mk hC1
       obtain ⟨V, hV⟩ : ∃ V, V = can (prodV (l0.take k)) := ⟨_, rfl⟩
       obtain ⟨x, hx⟩ : ∃ x, x = l0[k] := ⟨_, rfl⟩
       rw [← hV] at HO HLen0 HM r1 r3 r4 u0 u2 ⊢
       rw [← hx] at hc1 hl1 HC1 HLen1 HM r2 r3 r4 u1
       have u3 : (can (valB W64 x)).length ≤ 4096 := by rw [hx]; omega
       obtain ⟨L, hL⟩ : ∃ L, L = lenL V := ⟨_, rfl⟩
       obtain ⟨M, hM⟩ : ∃ M, M = lenL (can (valB W64 x)) := ⟨_, rfl⟩
       rw [← hL] at HLen0 r1 r3 r4 u0
       rw [← hM] at HLen1 r2 r3 r4 u1
       clear hcell hC1 hcl hx hgd hV hL hM p1 xw x4 x1 xc hvw H97
       by_cases hearly : 262144 < L + M - 1
       ·have HTL := Aside0.mk (show nat_tooLong.f L M = some true by unfold nat_tooLong.f; rw [if_pos ⟨by omega, by omega, by omega, by omega⟩, decide_eq_true ⟨r1, r2, hearly⟩])
        have hlong := r3 hearly
        have hv0 := prodV_nonneg (l0.take (k + 1)) (fun y hy => HW.out y (List.mem_of_mem_take hy))
        have hh := HH.out
        have hlong2 : ¬ (can (prodV l0)).length ≤ 4096 := fun h => by
         rw [can_le_iff _ (by have := HPn.out; omega)] at h
         have := can_short hv0 (Int.lt_of_le_of_lt HPn.out h)
         omega
        unfold fitV at hh
        rw [if_neg hlong2] at hh
        cases hh
        clear hlong hlong2 hv0 r3 r4 HM HPn HS HH
        go_wp2_with fail
        refine (nat_length.calls _ _ V _ _ (R_C HO.out) (R_cap HO.out) HLen0.out).mono ?_
        rintro e w2 ⟨rfl, hd⟩
        have HB2 := Aside0.mk (below_step HB.out hd.below)
        have HC2 := Aside0.mk (Kd.C_below HC1.out hd.below)
        clear hd HB HC1
        go_wp2_with fail
        refine (nat_Len.calls _ _ x _ _ HC2.out hl1 HLen1.out).mono ?_
        rintro e w3 ⟨rfl, hd⟩
        have HB3 := Aside0.mk (below_step HB2.out hd.below)
        clear hd HB2
        go_wp2_with fail
        refine (nat_tooLong.calls L M _ _ HTL.out).mono ?_
        rintro e w4 ⟨rfl, hd⟩
        have HB4 := Aside0.mk (below_step HB3.out hd.below)
        clear hd HB3
        go_wp2
        go_ret2
        exact ⟨_, rfl, Kd.R_nil _ _ _ _ _, HB4.out⟩
       ·have HTL := Aside0.mk (show nat_tooLong.f L M = some false by unfold nat_tooLong.f; rw [if_pos ⟨by omega, by omega, by omega, by omega⟩, decide_eq_false (fun h => hearly h.2.2)])
        obtain ⟨q1, q2⟩ := r4 (by omega)
        have HMM := Aside0.mk (HM q1)
        have HQ2 := Aside0.mk q2
        clear r3 r4 HM HPn HS q2
        go_wp2_with fail
        refine (nat_length.calls _ _ V _ _ (R_C HO.out) (R_cap HO.out) HLen0.out).mono ?_
        rintro e w2 ⟨rfl, hd⟩
        have HB2 := Aside0.mk (below_step HB.out hd.below)
        have HC2 := Aside0.mk (Kd.C_below HC1.out hd.below)
        have HO2 := Aside0.mk (Kd.R_below HO.out hd.below)
        clear hd HB HC1 HO
        go_wp2_with fail
        refine (nat_Len.calls _ _ x _ _ HC2.out hl1 HLen1.out).mono ?_
        rintro e w3 ⟨rfl, hd⟩
        have HB3 := Aside0.mk (below_step HB2.out hd.below)
        have HC3 := Aside0.mk (Kd.C_below HC2.out hd.below)
        have HO3 := Aside0.mk (Kd.R_below HO2.out hd.below)
        clear hd HB2 HC2 HO2
        go_wp2_with fail
        refine (nat_tooLong.calls L M _ _ HTL.out).mono ?_
        rintro e w4 ⟨rfl, hd⟩
        have HB4 := Aside0.mk (below_step HB3.out hd.below)
        have HC4 := Aside0.mk (Kd.C_below HC3.out hd.below)
        have HO4 := Aside0.mk (Kd.R_below HO3.out hd.below)
        clear hd HB3 HC3 HO3
        go_wp2_with fail
        refine (nat_mul.calls _ _ V _ _ x _ _ (R_C HO4.out) (R_cap HO4.out) HC4.out hl1 HMM.out).mono ?_
        rintro e w5 ⟨v5, rfl, hR5, hb5⟩
        have HO5 := Aside0.mk (Kd.R_lower hR5 (below_size HB4.out))
        have HB5 := Aside0.mk (below_step HB4.out hb5)
        clear hR5 hb5 HO4 HB4
        go_wp2
        go_roundw
        case rel => exact ⟨k + 1, by omega, by go_num, HQ2, HO5, HB5⟩
        case measure => simp [intOf]; omega
      ·obtain rfl : k = l0.length := by omega
       have hv := HP1.out l0.length
       rw [List.take_length] at hv HO ⊢
       have hv : 0 ≤ prodV l0 := by omega
       generalize prodV l0 = v at *
       have hF := fit1 Az cz (can v) _ (can_in hv) (R_C HO.out) (R_cap HO.out)
       rw [can_val hv] at hF
       have hh := HH.out
       unfold fitV at hh
       by_cases h9 : (can v).length ≤ 4096
       ·rw [if_pos h9] at hF hh
        cases hh
        have HF := Aside0.mk hF
        clear hF
        go_wp2_with fail
        refine HF.out.mono ?_
        rintro e w9 ⟨rfl, rfl⟩
        go_wp2
        go_ret2
        exact ⟨_, rfl, HO.out, HB.out⟩
       ·rw [if_neg h9] at hF hh
        cases hh
        have HF := Aside0.mk hF
        clear hF
        go_wp2_with fail
        refine HF.out.mono ?_
        rintro e w9 ⟨rfl, rfl⟩
        go_wp2
        go_ret2
        exact ⟨_, rfl, Kd.R_nil _ _ _ _ _, HB.out⟩
   ·rw [if_neg h4] at h
    cases h
    have HL := Aside0.mk (large_list (decide_eq_false h4))
    clear hw h4
    go_enter Try.func30, Try.ntmps30
    go_wp2_with fail
    refine (nat_large.calls A0 c0 l0 _ _ HR.out hc0 HL.out).mono ?_
    rintro e w1 ⟨rfl, hd⟩
    have HB1 := Aside0.mk hd.below
    clear hd HL
    go_wp2
    go_ret2
    exact ⟨_, rfl, Kd.R_nil _ _ _ _ _, HB1.out⟩
  ·rw [if_neg hn] at h
   cases h
   have hnb : decide ((1000 : Int) < (l0.length : Int)) = true := decide_eq_true (by omega)
   clear hw
   go_enter Try.func30, Try.ntmps30
   go_wp2
   go_ret2
   exact ⟨_, rfl, Kd.R_nil _ _ _ _ _, Below.refl _ _⟩
 ·rw [if_neg hw] at h
  cases h
end Go.Proofs.Ytkkkbalefnileaa.Ex
/- math/bits.Add64, Sub64: no body, run inline: what the print's facts say of them. -/
namespace Go.Proofs.Ytkkkbalefnileaa.Ex
open Go.RowKit Go.Proofs.YtkkkbalefnileaaW.PrintWords Go.Proofs.YtkkkbalefnileaaW.PrintLast Go.Proofs.YtkkkbalefnileaaW.PrintMore
set_option linter.unusedVariables false

def bits_Add64.f (a0 a1 a2 : Int) : Option (Int × Int) := if isW a0 ∧ isW a1 ∧ 0 ≤ a2 ∧ a2 ≤ 1 then some (addS a0 a1 a2) else none
theorem bits_Add64.run {a0 a1 a2 r1 r2 : Int} (h : bits_Add64.f a0 a1 a2 = some (r1, r2)) (w : World) :
    (callFunc 63 #[.int .u64 a0, .int .u64 a1, .int .u64 a2]).run Try.prog w = .ok (.value (.tuple #[.int .u64 r1, .int .u64 r2])) w := by
  unfold bits_Add64.f at h
  by_cases hw : isW a0 ∧ isW a1 ∧ 0 ≤ a2 ∧ a2 ≤ 1
  · rw [if_pos hw] at h
    have h1 := Option.some.inj h
    have e1 : (addS a0 a1 a2).1 = r1 := by rw [h1]
    have e2 : (addS a0 a1 a2).2 = r2 := by rw [h1]
    rw [← e1, ← e2]
    exact add64 a0 a1 a2 hw.1.1 hw.2.1.1 hw.2.2.1 hw.2.2.2 w
  · rw [if_neg hw] at h; cases h
end Go.Proofs.Ytkkkbalefnileaa.Ex
/- nat.divide, DivMod. -/
namespace Go.Proofs.Ytkkkbalefnileaa.Ex
open Go.RowKit Go.Shelf Go.Proofs.YtkkkbalefnileaaW.PrintWords Go.Proofs.YtkkkbalefnileaaW.PrintLast Go.Proofs.YtkkkbalefnileaaW.PrintMore
set_option linter.unusedVariables false
set_option linter.unusedSimpArgs false

/-- What has been divided from place j on. -/
def DivI (X : List Int) (y : Int) (z : List Int) (j : Nat) (R : Int) : Prop := inW z ∧ z.length = X.length ∧ z.take j = List.replicate j 0 ∧ 0 ≤ R ∧ R < y ∧ valB W64 (X.drop j) = R + y * valB W64 (z.drop j)
theorem val_drop {l : List Int} {j : Nat} (h : j < l.length) : valB W64 (l.drop j) = l.getD j 0 + W64 * valB W64 (l.drop (j + 1)) := by
  rw [List.drop_eq_getElem_cons h]
  show _ = _
  simp [valB, List.getD_eq_getElem?_getD, List.getElem?_eq_getElem h]
theorem div_start (X : List Int) {y : Int} (h : 0 < y) : DivI X y (List.replicate X.length 0) X.length 0 :=
  ⟨inB_zeros W64_pos _, by simp, by simp, Int.le_refl 0, h, by simp [valB]⟩
theorem div_lt {X z : List Int} {y R : Int} {j : Nat} (hX : inW X) (hj : j < X.length) (h : DivI X y z (j + 1) R) (hl : X.getD j 0 + W64 * R < y) : DivI X y z j (X.getD j 0 + W64 * R) := by
  obtain ⟨h1, h2, h3, h4, h5, h6⟩ := h
  have hz : z.take j = List.replicate j 0 ∧ z.getD j 0 = 0 := by
    have e := List.take_succ_eq_append_getElem (l := z) (i := j) (by omega)
    rw [h3, List.replicate_succ'] at e
    have e2 := List.append_inj e (by simp; omega)
    refine ⟨e2.1.symm, ?_⟩
    have e3 : (0 : Int) = z[j] := by simpa using e2.2
    rw [List.getD_eq_getElem?_getD, List.getElem?_eq_getElem (by omega)]
    exact e3.symm
  have hx := (isW_get hX j).1
  refine ⟨h1, h2, hz.1, by have := Int.mul_nonneg (Int.le_of_lt W64_pos) h4; omega, hl, ?_⟩
  rw [val_drop hj, val_drop (by omega : j < z.length), h6, hz.2]
  generalize valB W64 (z.drop (j + 1)) = Q
  generalize X.getD j 0 = x
  grind
theorem div_top {X z : List Int} {y R : Int} {j : Nat} (hX : inW X) (hj : j < X.length) (h : DivI X y z (j + 1) R) (hy : 0 < y) : 0 ≤ X.getD j 0 + W64 * R ∧ X.getD j 0 + W64 * R < W64 * y ∧ (can (X.getD j 0 + W64 * R)).length ≤ X.length := by
  obtain ⟨h1, h2, h3, h4, h5, h6⟩ := h
  obtain ⟨hx0, hx1⟩ := isW_get hX j
  have hq := Int.mul_nonneg (Int.le_of_lt hy) (valB_nonneg W64_pos (inB_drop h1 (j + 1)))
  have h0 : 0 ≤ X.getD j 0 + W64 * R := by have := Int.mul_nonneg (Int.le_of_lt W64_pos) h4; omega
  have e : valB W64 (X.drop j) = X.getD j 0 + W64 * R + W64 * (y * valB W64 (z.drop (j + 1))) := by rw [val_drop hj, h6, Int.mul_add]; omega
  refine ⟨h0, ?_, ?_⟩
  · have h7 : W64 * (R + 1) ≤ W64 * y := Int.mul_le_mul_of_nonneg_left (by omega) (Int.le_of_lt W64_pos)
    rw [Int.mul_add, Int.mul_one] at h7
    omega
  · refine can_short h0 ?_
    have h8 := valB_lt W64_pos (inB_drop hX j)
    have h9 := Int.mul_nonneg (Int.le_of_lt W64_pos) hq
    have h10 := pow_mono (B := W64) (by decide) (show (X.drop j).length ≤ X.length by simp)
    omega
theorem div_set {X z : List Int} {y R R2 γ : Int} {j : Nat} (hX : inW X) (hj : j < X.length) (h : DivI X y z (j + 1) R) (hγ : isW γ) (h0 : 0 ≤ R2) (h1 : R2 < y) (he : X.getD j 0 + W64 * R = R2 + y * γ) : DivI X y (z.set j γ) j R2 := by
  obtain ⟨g1, g2, g3, g4, g5, g6⟩ := h
  refine ⟨inB_set g1 _ hγ, by simp [g2], ?_, h0, h1, ?_⟩
  · rw [List.take_set, List.set_eq_of_length_le (by simp; omega)]
    have := congrArg (List.take j) g3
    rw [List.take_take, Nat.min_eq_left (by omega)] at this
    rw [this]; simp
  · have hs : j < (z.set j γ).length := by simp; omega
    rw [val_drop hj, val_drop hs, g6]
    have e1 : (z.set j γ).getD j 0 = γ := by simp [List.getD_eq_getElem?_getD, List.getElem?_set, show j < z.length by omega]
    have e2 : (z.set j γ).drop (j + 1) = z.drop (j + 1) := by simp [List.drop_set]
    rw [e1, e2]
    generalize valB W64 (z.drop (j + 1)) = Q at *
    generalize X.getD j 0 = x at *
    have : x = R2 + y * γ - W64 * R := by omega
    subst this
    grind
theorem div_end {X z : List Int} {y R : Int} (h : DivI X y z 0 R) (hy : 0 < y) : inW z ∧ z.length = X.length ∧ valB W64 z = valB W64 X / y ∧ R = valB W64 X % y := by
  obtain ⟨h1, h2, h3, h4, h5, h6⟩ := h
  rw [List.drop_zero, List.drop_zero] at h6
  have e1 := Int.emod_add_mul_ediv (valB W64 X) y
  have e2 := Int.emod_nonneg (valB W64 X) (by omega : y ≠ 0)
  have e3 := Int.emod_lt_of_pos (valB W64 X) hy
  obtain ⟨a, b⟩ := div_unique (M := y) h4 h5 e2 e3 (show R + y * valB W64 z = valB W64 X % y + y * (valB W64 X / y) by rw [e1]; omega)
  exact ⟨h1, h2, b, a⟩
theorem guessed_w {X Y : List Int} (hX : canL X) (hY : canL Y) (h0 : Y ≠ []) (hx : X.length ≤ 10000) (hy : Y.length ≤ 10000) : ∃ γ, nat_guessed.f X Y = some γ ∧ isW γ := by
  have hl : Y.getD (Y.length - 1) 0 ≠ 0 := by
    intro e
    have h1 := canL_low hY h0
    have hp : 0 < Y.length := List.length_pos_iff.2 h0
    have h2 := valB_take_succ W64 Y (Y.length - 1) (by omega)
    rw [List.take_of_length_le (by omega), e, Int.mul_zero, Int.add_zero] at h2
    have h3 := valB_lt W64_pos (inB_take (canL_in hY) (Y.length - 1))
    rw [List.length_take, Nat.min_eq_left (by omega)] at h3
    omega
  unfold nat_guessed.f
  rw [if_pos ⟨canL_in hX, canL_in hY, List.length_pos_iff.2 h0, hx, hy, hl⟩]
  generalize 64 - (Lib.bitLen (Y.getD (Y.length - 1) 0).toNat : Int) = s
  have hq := topL_w (canL_in hX) (Y.length : Int) s
  have hr := topL_w (canL_in hX) ((Y.length : Int) - 1) s
  have hd := topL_w (canL_in hY) ((Y.length : Int) - 1) s
  by_cases hc : topL Y ((Y.length : Int) - 1) s ≤ topL X (Y.length : Int) s
  · rw [if_pos hc]; exact ⟨_, rfl, by decide⟩
  · rw [if_neg hc]
    refine ⟨_, rfl, ?_, ?_⟩
    · exact Int.ediv_nonneg (Int.add_nonneg (Int.mul_nonneg hq.1 (by decide)) hr.1) hd.1
    · have hq0 := hq.1
      rw [Int.ediv_lt_iff_lt_mul (by omega)]
      have h1 : (topL X (Y.length : Int) s + 1) * W64 ≤ topL Y ((Y.length : Int) - 1) s * W64 := Int.mul_le_mul_of_nonneg_right (by omega) (by decide)
      rw [Int.add_mul, Int.one_mul] at h1
      have h2 := hr.2
      rw [Int.mul_comm W64]
      omega
theorem div_guess {Y N : List Int} {y R1 γ : Int} (hY : canL Y) (hN : canL N) (hy : valB W64 Y = y) (hR : valB W64 N = R1) (hY4 : Y.length ≤ 4096) (hN4 : N.length ≤ 4096) (hγ : isW γ) :
    nat_mul.f Y (can γ) = some (can (y * γ)) ∧ nat_compare.f (can (y * γ)) N = some (cmpI (y * γ) R1) ∧ (y * γ ≤ R1 → nat_Sub.f N (can (y * γ)) = some (can (R1 - y * γ), 0)) ∧ (can (y * γ)).length ≤ 5000 := by
  have hy0 : 0 ≤ y := by rw [← hy]; exact valW_nonneg (canL_in hY)
  have hp : 0 ≤ y * γ := Int.mul_nonneg hy0 hγ.1
  have hγl : (can γ).length ≤ 1 := can_short hγ.1 (by rw [Int.pow_succ, Int.pow_zero, Int.one_mul]; exact hγ.2)
  have hlen : (can (y * γ)).length ≤ Y.length + 1 := can_short hp (by
    have h1 := valB_lt W64_pos (canL_in hY)
    rw [hy] at h1
    rw [Int.pow_succ]
    exact Int.lt_of_le_of_lt (Int.mul_le_mul_of_nonneg_right (Int.le_of_lt h1) hγ.1) (Int.mul_lt_mul_of_pos_left hγ.2 (pow_posB W64_pos _)))
  refine ⟨?_, ?_, ?_, by omega⟩
  · unfold nat_mul.f
    rw [if_pos ⟨canL_in hY, can_in hγ.1, by omega, by omega, by rw [can_can hY]; omega⟩, can_val hγ.1, hy]
  · unfold nat_compare.f
    rw [if_pos ⟨can_canL hp, hN, by omega, by omega⟩, can_val hp, hR]
  · intro hle
    have hl2 : (can (y * γ)).length ≤ N.length := can_short hp (by
      have h1 := valB_lt W64_pos (canL_in hN)
      rw [hR] at h1; omega)
    unfold nat_Sub.f
    rw [if_pos ⟨canL_in hN, can_in hp⟩, if_pos ⟨by omega, by omega⟩, can_val hp, hR, if_neg (by omega)]
theorem RowB.belowB {W W' : World} {g B : Nat} {l : List Int} (h : RowB W g l) (hb : Below B W W') (hlt : g < B) : RowB W' g l := (hb.block g hlt).trans h
theorem R_far {W : World} {g : Nat} {v : Value} {l : List Int} (h : Kd.R (Kd.int .u64) 33 W (g + 1) (fun _ => True) v l) (i : Nat) (u : Value) : Kd.R (Kd.int .u64) 33 (W.setCell ⟨g, i, none⟩ u) (g + 1) (fun _ => True) v l := by
  have h1 := Kd.own_of_R (enc := Value.int .u64) (h1 := fun _ => rfl) h
  exact Kd.R_of_own (enc := Value.int .u64) (h1 := fun _ => rfl) (own_setCell h1 (by intro e; have := own_base h1 g e.symm; omega) u) (fun _ _ => trivial)
def nat_divide.f (l0 l1 : List Int) : Option (List Int × List Int) :=
  if canL l0 ∧ canL l1 ∧ l1 ≠ [] ∧ l0.length ≤ 4096 ∧ l1.length ≤ 4096 then some (can (valB W64 l0 / valB W64 l1), can (valB W64 l0 % valB W64 l1)) else none
set_option maxRecDepth 100000 in
set_option maxHeartbeats 8000000 in
theorem nat_divide.calls (A0 : Option Addr) (c0 : Nat) (l0 : List Int) (A1 : Option Addr) (c1 : Nat) (l1 : List Int) (r1 : List Int) (r2 : List Int) (w : World) (hr0 : Kd.C (Kd.int .u64) w A0 l0.length l0) (hc0 : l0.length ≤ c0) (hr1 : Kd.C (Kd.int .u64) w A1 l1.length l1) (hc1 : l1.length ≤ c1) (h : nat_divide.f l0 l1 = some (r1, r2)) :
  Calls Try.prog 53 #[.slice A0 l0.length c0, .slice A1 l1.length c1] w fun e w' => ∃ v0_ v1_ : Value, e = .returned (.tuple #[v0_, v1_]) ∧ Kd.R (Kd.int .u64) 33 w' w.heap.size (fun _ => True) v0_ r1 ∧ Kd.R (Kd.int .u64) 33 w' w.heap.size (fun _ => True) v1_ r2 ∧ Below w.heap.size w w' := by
 unfold nat_divide.f at h
 by_cases hw : canL l0 ∧ canL l1 ∧ l1 ≠ [] ∧ l0.length ≤ 4096 ∧ l1.length ≤ 4096
 ·rw [if_pos hw] at h
  cases h
  obtain ⟨hX, hY, hne, hx4, hy4⟩ := hw
  have hy0 : 0 < valB W64 l1 := by cases l1 with | nil => exact (hne rfl).elim | cons x l => exact canL_pos hY
  obtain ⟨y, hye⟩ : ∃ y, y = valB W64 l1 := ⟨_, rfl⟩
  rw [← hye] at hy0 ⊢
  have HYE := Aside0.mk hye
  have HX := Aside0.mk (canL_in hX)
  have HYc := Aside0.mk hY
  have HR0 := Aside0.mk hr0
  have HR1 := Aside0.mk hr1
  have HNE := Aside0.mk hne
  have hmk := print_make (P := Try.prog) 23 33 .u64 8 Try.underlying23 iW (by decide) l0.length (by omega)
  clear hr0 hr1 hye hX hY hne
  go_enter Try.func53, Try.ntmps53
  go_wp2
  have r0 := RowB.made w l0.length
  have HB0 := Aside0.mk (below_alloc (Below.refl w.heap.size w) (.cells (madeCells #[.int .u64 0] l0.length) 33))
  have hsz : w.heap.size + 1 ≤ (w.alloc (.cells (madeCells #[.int .u64 0] l0.length) 33)).heap.size := by simp
  have HS0 := Aside0.mk hsz
  clear hmk hsz
  obtain ⟨g, hg⟩ : ∃ g, g = w.heap.size := ⟨_, rfl⟩
  rw [← hg] at r0 HS0 ⊢
  have hgs : w.heap.size ≤ g := by omega
  have HG := Aside0.mk hg
  clear hg
  go_loopw [5, 6] (fun v i wr => ∃ (j : Nat) (z : List Int) (R : Int), j ≤ l0.length ∧ i = .int .i64 ((j : Int) - 1) ∧ Aside0 (DivI l0 y z j R) ∧ RowB wr g z ∧ Aside0 (Kd.R (Kd.int .u64) 33 wr (g + 1) (fun _ => True) v (can R)) ∧ Aside0 (Below w.heap.size w wr) ∧ Aside0 (g + 1 ≤ wr.heap.size)) (fun _ i _ => (intOf i + 1).toNat)
  case atStart => exact ⟨l0.length, _, 0, Nat.le_refl _, rfl, ⟨div_start l0 hy0⟩, r0, ⟨Kd.R_nil _ _ _ _ _⟩, HB0, HS0⟩
  case round =>
   clear r0 HB0 HS0
   obtain ⟨j, z, R, hj, rfl, HD, r0, HO, HB, HS⟩ := hrel
   by_cases hj0 : j = 0
   ·subst hj0
    have hn : decide ((0 : Int) ≤ ((0 : Nat) : Int) - 1) = false := by decide
    obtain ⟨e1, e2, e3, e4⟩ := div_end HD.out hy0
    have hR0 := r0.own' w.heap.size hgs (by omega)
    have T := trim1 (some ⟨g, 0, none⟩) z.length z wr e1 (R_C hR0) (Nat.le_refl _)
    have hR1 := R_can hR0 e1
    rw [e2] at T hR1
    rw [e3] at T hR1
    have HT := Aside0.mk T
    have HR1' := Aside0.mk hR1
    have HRe := Aside0.mk e4
    obtain ⟨A5, c5, hs⟩ := Kd.R_slice HO.out
    subst hs
    clear e1 e2 e3 e4 T hR0 hR1
    go_wp2_with fail
    refine HT.out.mono ?_
    rintro e w9 ⟨rfl, rfl⟩
    go_wp2
    go_ret2
    refine ⟨_, _, rfl, HR1'.out, ?_, HB.out⟩
    rw [← HRe.out]
    exact Kd.R_lower HO.out (show w.heap.size ≤ g + 1 by omega)
   ·obtain ⟨i, rfl⟩ : ∃ i, j = i + 1 := ⟨j - 1, by omega⟩
    have ei : (((i + 1 : Nat)) : Int) - 1 = (i : Int) := by omega
    rw [ei]
    have hn : decide ((0 : Int) ≤ (i : Int)) = true := decide_eq_true (by omega)
    have hil : i < l0.length := by omega
    have hili : (i : Int) < (l0.length : Int) := by omega
    have i0 : (0 : Int) ≤ (i : Int) := by omega
    have hC := Kd.C_below HR0.out HB.out
    obtain ⟨ad, hA0, hx0⟩ := Kd.at_int hC (i : Int) (by omega) (by omega)
    subst hA0
    rw [show rd l0 (i : Int) = l0.getD i 0 by simp [rd], show ((i : Nat) : Int).toNat = i from rfl] at hx0
    obtain ⟨t1, t2, t3⟩ := div_top HX.out hil HD.out hy0
    have HX0 := Aside0.mk (isW_get HX.out i)
    have HLt := Aside0.mk (fun hl => div_lt HX.out hil HD.out hl)
    have HSet := Aside0.mk (fun γ R2 (a : isW γ) (b : 0 ≤ R2) (c : R2 < y) d => div_set HX.out hil HD.out a b c d)
    have hRn : 0 ≤ R := HD.out.2.2.2.1
    have hRl : (can R).length ≤ 4096 := by
     have h1 := HD.out.2.2.2.2.1
     have h2 : (can R).length ≤ l1.length := can_short hRn (by
      have h3 := valB_lt W64_pos (canL_in HYc.out)
      rw [← HYE.out] at h3; omega)
     omega
    have hzl : z.length = l0.length := HD.out.2.1
    obtain ⟨x, hx⟩ : ∃ x, x = l0.getD i 0 := ⟨_, rfl⟩
    rw [← hx] at hx0 t1 t2 t3 HX0 HLt HSet
    obtain ⟨R1, hR1⟩ : ∃ R1, R1 = x + W64 * R := ⟨_, rfl⟩
    rw [← hR1] at t1 t2 t3 HLt HSet
    obtain ⟨A5, c5, hs⟩ := Kd.R_slice HO.out
    subst hs
    have HRL := Aside0.mk (show (1 + (can R).length) * 8 ≤ 140737488355328 by omega)
    have HNew := Aside0.mk (own_lit wr (g + 1) 33 .u64 [x] HS.out (by simp))
    have HRC := Aside0.mk (R_C HO.out)
    have HV1 := Aside0.mk (show inW ([x] ++ can R) ∧ valB W64 ([x] ++ can R) = R1 from ⟨inB_append.2 ⟨inB_cons.2 ⟨HX0.out, inB_nil⟩, can_in hRn⟩, by rw [valB_append, can_val hRn, hR1]; simp only [valB, List.length_singleton, Int.mul_zero, Int.add_zero, Int.pow_succ, Int.pow_zero, Int.one_mul]⟩)
    have HBg := Aside0.mk (show Below (g + 1) wr (wr.alloc (.cells #[.int .u64 x] 33)) from ((Below.refl (g + 1) wr).alloc HS.out _))
    obtain ⟨LR, hLR⟩ : ∃ LR, LR = can R := ⟨_, rfl⟩
    rw [← hLR] at HRL HRC HV1 HO ⊢
    obtain ⟨Z1, hZ1⟩ : ∃ Z1, Z1 = [x] ++ LR := ⟨_, rfl⟩
    rw [← hZ1] at HV1
    have HZ1 := Aside0.mk hZ1
    clear hC hx hR1 hLR hZ1 HX0 HD hRn hRl
    go_wp2_with ((with_reducible refine gate_builtin (b := .append) (xs := #[.tmp 23, .tmp 24]) rfl ?_); at_builtin; refine halt1 ?_)
    unfold Halt1
    refine Kd.R_append_rows (Kd.int .u64) (w0 := wr) (g + 1) rfl (.tmp 23) (.tmp 24) 23 33 (.int .u64 0) 8 rfl Try.underlying23 iW rfl (by decide) (by omega) (.slice (some ⟨wr.heap.size, 0, none⟩) 1 1) ([x] : List Int) LR _ _ _ (fun _ => True) (fun _ => False) rfl rfl ?aO ?aR (fun _ _ h => h) (fun _ h => h.elim) ?aF ?aB ?aS ?aL ?_
    case aR => exact Kd.C_below HRC.out (below_alloc (Below.refl _ _) _)
    case aB => exact HBg.out
    case aF => exact (fun _ _ => trivial)
    case aO => exact Kd.R_of_own (enc := Value.int .u64) (h1 := fun _ => rfl) HNew.out (fun _ _ => trivial)
    case aS => exact Nat.le_trans HS.out HBg.out.size
    case aL => exact HRL.out
    intro v1 w1 ho hb hg hat
    rw [← HZ1.out] at ho
    obtain ⟨A6, c6, rfl⟩ := Kd.R_slice ho
    have r1 := r0.belowB hb (by omega)
    have HB1 := Aside0.mk (below_weaken HB.out (by omega) hb)
    have HS1 := Aside0.mk (Nat.le_trans HS.out hb.size)
    have T := trim1 A6 c6 Z1 w1 HV1.out.1 (R_C ho) (R_cap ho)
    have hRr := R_can ho HV1.out.1
    rw [HV1.out.2] at T hRr
    have hcan := can_canL t1
    have hcv := can_val t1
    obtain ⟨N1, hN1⟩ : ∃ N1, N1 = can R1 := ⟨_, rfl⟩
    rw [← hN1] at T hRr hcan hcv t3
    have HN1 := Aside0.mk hN1
    have HT := Aside0.mk T
    have HO1 := Aside0.mk hRr
    have HCan := Aside0.mk hcan
    have HCv := Aside0.mk hcv
    have hN4 : N1.length ≤ 4096 := by omega
    clear ho hb hg hat T hRr hN1 hcan hcv r0 HB HO HRC HNew HBg HV1 HZ1 HRL HS
    go_wp2_with fail
    refine HT.out.mono ?_
    rintro e w2 ⟨rfl, rfl⟩
    by_cases hlt : R1 < y
    ·have HCm := Aside0.mk (nat_compare.calls A6 c6 N1 A1 c1 l1 (-1) w1 (R_C HO1.out) (R_cap HO1.out) (Kd.C_below HR1.out HB1.out) hc1 (by unfold nat_compare.f; rw [if_pos ⟨HCan.out, HYc.out, by omega, by omega⟩, HCv.out, ← HYE.out, cmpI_lt hlt]))
     have HD2 := Aside0.mk (HLt.out hlt)
     clear HT HLt HSet hlt
     go_wp2_with fail
     refine HCm.out.mono ?_
     rintro e w3 ⟨rfl, hd⟩
     have r3 := r1.below hd.below
     have HO3 := Aside0.mk (Kd.R_below HO1.out hd.below)
     have HB3 := Aside0.mk (below_step HB1.out hd.below)
     have HS3 := Aside0.mk (Nat.le_trans HS1.out (below_size hd.below))
     clear hd r1 HO1 HB1 HS1
     go_wp2
     go_roundw
     case rel => exact ⟨i, z, R1, by omega, by go_num, HD2, r3, ⟨by rw [← HN1.out]; exact HO3.out⟩, HB3, HS3⟩
     case measure => (simp [intOf]; try omega)
    ·obtain ⟨q, hq0, hq⟩ : ∃ q : Int, 0 ≤ q ∧ nat_compare.f N1 l1 = some q := by
      refine ⟨cmpI R1 y, by unfold cmpI; rw [if_neg hlt]; split <;> decide, ?_⟩
      unfold nat_compare.f; rw [if_pos ⟨HCan.out, HYc.out, by omega, by omega⟩, HCv.out, ← HYE.out]
     have hqb : decide (q < 0) = false := decide_eq_false (by omega)
     have HCm := Aside0.mk (nat_compare.calls A6 c6 N1 A1 c1 l1 q w1 (R_C HO1.out) (R_cap HO1.out) (Kd.C_below HR1.out HB1.out) hc1 hq)
     clear HT HLt hq
     go_wp2_with fail
     refine HCm.out.mono ?_
     rintro e w3 ⟨rfl, hd⟩
     have r3 := r1.below hd.below
     have HO3 := Aside0.mk (Kd.R_below HO1.out hd.below)
     have HB3 := Aside0.mk (below_step HB1.out hd.below)
     have HS3 := Aside0.mk (Nat.le_trans HS1.out (below_size hd.below))
     clear hd r1 HO1 HB1 HS1 HCm
     obtain ⟨γ0, hγ, hγw⟩ := guessed_w HCan.out HYc.out HNE.out (by omega) (by omega)
     have HGs := Aside0.mk (nat_guessed.calls A6 c6 N1 A1 c1 l1 γ0 w3 (R_C HO3.out) (R_cap HO3.out) (Kd.C_below HR1.out HB3.out) hc1 hγ)
     have HGw := Aside0.mk hγw
     clear hγ hγw
     go_wp2_with fail
     refine HGs.out.mono ?_
     rintro e w4 ⟨rfl, hb4⟩
     have r4 := r3.below hb4
     have HO4 := Aside0.mk (Kd.R_below HO3.out hb4)
     have HB4 := Aside0.mk (below_step HB3.out hb4)
     have HS4 := Aside0.mk (Nat.le_trans HS3.out (below_size hb4))
     clear hb4 r3 HO3 HB3 HS3 HGs
     go_wp2
     go_loopw [5, 7] (fun v γv wr => ∃ (γ : Int), γv = .int .u64 γ ∧ isW γ ∧ v = .slice A6 N1.length c6 ∧ RowB wr g z ∧ Aside0 (Kd.R (Kd.int .u64) 33 wr (g + 1) (fun _ => True) (.slice A6 N1.length c6) N1) ∧ Aside0 (Below w.heap.size w wr) ∧ Aside0 (g + 1 ≤ wr.heap.size)) (fun _ γv _ => (intOf γv).toNat)
     case atStart => exact ⟨γ0, rfl, HGw.out, rfl, r4, HO4, HB4, HS4⟩
     case round =>
      clear r4 HO4 HB4 HS4 HGw
      obtain ⟨γ, rfl, hγw, rfl, r4, HO4, HB4, HS4⟩ := hrel
      have hg0 := hγw.1
      have hg1 : γ < 18446744073709551616 := by have := hγw.2; rw [W64_eq] at this; exact this
      obtain ⟨d1, d2, d3, d4⟩ := div_guess HYc.out HCan.out (by rw [← HYE.out]) HCv.out (by omega) (by omega) hγw
      have HFw := Aside0.mk (nat_FromWord.calls γ (can γ) wr (by unfold nat_FromWord.f; rw [if_pos hγw]))
      obtain ⟨G1, hG1⟩ : ∃ G1, G1 = can γ := ⟨_, rfl⟩
      rw [← hG1] at HFw d1
      obtain ⟨P1, hP1⟩ : ∃ P1, P1 = can (y * γ) := ⟨_, rfl⟩
      rw [← hP1] at d1 d2 d3 d4
      have HMu := Aside0.mk d1
      have HCm := Aside0.mk d2
      have HSu := Aside0.mk d3
      have HPl := Aside0.mk d4
      clear hG1 d1 d2 d3 d4 hP1
      by_cases hle : y * γ ≤ R1
      ·have HSu' := Aside0.mk (HSu.out hle)
       obtain ⟨q', hq'⟩ : ∃ q', q' = cmpI (y * γ) R1 := ⟨_, rfl⟩
       rw [← hq'] at HCm
       have hq0' : q' ≤ 0 := by rw [hq']; unfold cmpI; split; decide; rw [if_neg (by omega)]; decide
       have hqb' : decide (q' ≤ 0) = true := decide_eq_true hq0'
       have HR2 := Aside0.mk (show (can (R1 - y * γ)).length ≤ 4096 ∧ 0 ≤ R1 - y * γ ∧ R1 = (R1 - y * γ) + y * γ from ⟨by
        have h1 : (can (R1 - y * γ)).length ≤ N1.length := can_short (by omega) (by
         have h2 := valB_lt W64_pos (canL_in HCan.out)
         rw [HCv.out] at h2
         have h3 : 0 ≤ y * γ := Int.mul_nonneg (by omega) hg0
         omega)
        omega, by omega, by omega⟩)
       obtain ⟨R20, hR20⟩ : ∃ R20, R20 = R1 - y * γ := ⟨_, rfl⟩
       rw [← hR20] at HR2 HSu'
       clear hq' hle HSu hR20
       go_wp2_with fail
       refine HFw.out.mono ?_
       rintro e w5 ⟨v5, rfl, hR5, hb5⟩
       obtain ⟨A7, c7, rfl⟩ := Kd.R_slice hR5
       have r5 := r4.below hb5
       have HO5 := Aside0.mk (Kd.R_below HO4.out hb5)
       have HB5 := Aside0.mk (below_step HB4.out hb5)
       have HS5 := Aside0.mk (Nat.le_trans HS4.out (below_size hb5))
       have HG5 := Aside0.mk hR5
       clear hR5 hb5 r4 HO4 HB4 HS4 HFw
       go_wp2_with fail
       refine (nat_mul.calls A1 c1 l1 A7 c7 G1 P1 w5 (Kd.C_below HR1.out HB5.out) hc1 (R_C HG5.out) (R_cap HG5.out) HMu.out).mono ?_
       rintro e w6 ⟨v6, rfl, hR6, hb6⟩
       obtain ⟨A8, c8, rfl⟩ := Kd.R_slice hR6
       have r6 := r5.below hb6
       have HO6 := Aside0.mk (Kd.R_below HO5.out hb6)
       have HB6 := Aside0.mk (below_step HB5.out hb6)
       have HS6 := Aside0.mk (Nat.le_trans HS5.out (below_size hb6))
       have HP6 := Aside0.mk hR6
       clear hR6 hb6 r5 HO5 HB5 HS5 HG5 HMu
       go_wp2_with fail
       refine (nat_compare.calls A8 c8 P1 A6 c6 N1 q' w6 (R_C HP6.out) (R_cap HP6.out) (R_C HO6.out) (R_cap HO6.out) HCm.out).mono ?_
       rintro e w7 ⟨rfl, hd⟩
       have r7 := r6.below hd.below
       have HO7 := Aside0.mk (Kd.R_below HO6.out hd.below)
       have HP7 := Aside0.mk (Kd.R_below HP6.out hd.below)
       have HB7 := Aside0.mk (below_step HB6.out hd.below)
       have HS7 := Aside0.mk (Nat.le_trans HS6.out (below_size hd.below))
       clear hd r6 HO6 HB6 HS6 HP6 HCm
       go_wp2_with fail
       refine (nat_Sub.calls A6 c6 N1 A8 c8 P1 (can R20) 0 w7 (R_C HO7.out) (R_cap HO7.out) (R_C HP7.out) (R_cap HP7.out) HSu'.out).mono ?_
       rintro e w8 ⟨v8, rfl, hR8, hb8⟩
       obtain ⟨A9, c9, rfl⟩ := Kd.R_slice hR8
       have r8 := r7.below hb8
       have HO8 := Aside0.mk (Kd.R_lower hR8 HS7.out)
       have HB8 := Aside0.mk (below_step HB7.out hb8)
       have HS8 := Aside0.mk (Nat.le_trans HS7.out (below_size hb8))
       clear hb8 hR8 r7 HO7 HP7 HB7 HS7 HSu'
       go_wp2
       go_loopw [5, 7] (fun v γv wr => ∃ (γ R2 : Int) (A : Option Addr) (c : Nat), γv = .int .u64 γ ∧ isW γ ∧ v = .slice A (can R2).length c ∧ Aside0 ((can R2).length ≤ 4096 ∧ 0 ≤ R2 ∧ R1 = R2 + y * γ) ∧ RowB wr g z ∧ Aside0 (Kd.R (Kd.int .u64) 33 wr (g + 1) (fun _ => True) (.slice A (can R2).length c) (can R2)) ∧ Aside0 (Below w.heap.size w wr) ∧ Aside0 (g + 1 ≤ wr.heap.size)) (fun _ γv _ => (W64 - intOf γv).toNat)
       case atStart => exact ⟨γ, R20, A9, c9, rfl, hγw, rfl, HR2, r8, HO8, HB8, HS8⟩
       case round =>
        clear r8 HO8 HB8 HS8 HR2 hγw hg0 hg1 HPl hq0' hqb'
        obtain ⟨γ, R2, A9, c9, rfl, hγw, rfl, HR2, r8, HO8, HB8, HS8⟩ := hrel
        obtain ⟨k1, k2, k3⟩ := HR2.out
        have hcan2 := can_canL k2
        have hval2 := can_val k2
        obtain ⟨N2, hN2⟩ : ∃ N2, N2 = can R2 := ⟨_, rfl⟩
        rw [← hN2] at k1 hcan2 hval2 HO8 ⊢
        have HN2 := Aside0.mk hN2
        have HCan2 := Aside0.mk hcan2
        have HVal2 := Aside0.mk hval2
        clear hN2 hcan2 hval2
        by_cases hlt2 : R2 < y
        ·have HCm := Aside0.mk (nat_compare.calls A9 c9 N2 A1 c1 l1 (-1) wr (R_C HO8.out) (R_cap HO8.out) (Kd.C_below HR1.out HB8.out) hc1 (by unfold nat_compare.f; rw [if_pos ⟨HCan2.out, HYc.out, by omega, by omega⟩, HVal2.out, ← HYE.out, cmpI_lt hlt2]))
         have HD2 := Aside0.mk (HSet.out γ R2 hγw k2 hlt2 k3)
         clear HSet k3 hlt hlt2 hγw
         go_wp2_with fail
         refine HCm.out.mono ?_
         rintro e w9 ⟨rfl, hd⟩
         have r9 := r8.below hd.below
         have HO9 := Aside0.mk (Kd.R_below HO8.out hd.below)
         have HB9 := Aside0.mk (below_step HB8.out hd.below)
         have HS9 := Aside0.mk (Nat.le_trans HS8.out (below_size hd.below))
         clear hd r8 HO8 HB8 HS8 HCm
         have x1 := r9.cell i (by omega)
         have f1 := r9.frozen i
         have t0 : ((i : Nat) : Int).toNat = i := rfl
         have R9 := Aside0.mk r9
         clear r9
         go_wp2
         go_roundw
         case rel => exact ⟨i, z.set i γ, R2, by omega, by go_num, HD2, RowB.set R9.out i γ, ⟨by rw [← HN2.out]; exact R_far HO9.out i _⟩, ⟨HB9.out.setCell (p := ⟨g, i, none⟩) hgs _⟩, ⟨by have := HS9.out; simpa using this⟩⟩
         case measure => (simp [intOf]; try omega)
        ·obtain ⟨q2, hq2, hq2'⟩ : ∃ q2 : Int, 0 ≤ q2 ∧ nat_compare.f N2 l1 = some q2 := by
          refine ⟨cmpI R2 y, by unfold cmpI; rw [if_neg hlt2]; split <;> decide, ?_⟩
          unfold nat_compare.f; rw [if_pos ⟨HCan2.out, HYc.out, by omega, by omega⟩, HVal2.out, ← HYE.out]
         have hq2b : decide (0 ≤ q2) = true := decide_eq_true hq2
         have HCm := Aside0.mk (nat_compare.calls A9 c9 N2 A1 c1 l1 q2 wr (R_C HO8.out) (R_cap HO8.out) (Kd.C_below HR1.out HB8.out) hc1 hq2')
         have HSu := Aside0.mk (show nat_Sub.f N2 l1 = some (can (R2 - y), 0) by unfold nat_Sub.f; rw [if_pos ⟨canL_in HCan2.out, canL_in HYc.out⟩, if_pos ⟨k1, hy4⟩, HVal2.out, ← HYE.out, if_neg hlt2])
         have hg2 : γ + 1 < 18446744073709551616 := by
          have h1 : y * (γ + 1) < y * W64 := by rw [Int.mul_add, Int.mul_one, Int.mul_comm y W64]; omega
          have h2 := Int.lt_of_mul_lt_mul_left h1 (by omega)
          rw [W64_eq] at h2; exact h2
         have HR3 := Aside0.mk (show (can (R2 - y)).length ≤ 4096 ∧ 0 ≤ R2 - y ∧ R1 = (R2 - y) + y * (γ + 1) from ⟨by
          have h1 : (can (R2 - y)).length ≤ N2.length := can_short (by omega) (by
           have h2 := valB_lt W64_pos (canL_in HCan2.out)
           rw [HVal2.out] at h2
           omega)
          omega, by omega, by rw [Int.mul_add, Int.mul_one]; omega⟩)
         obtain ⟨R3, hR3⟩ : ∃ R3, R3 = R2 - y := ⟨_, rfl⟩
         rw [← hR3] at HSu HR3
         have hg0 := hγw.1
         have hWg := hγw.2
         clear hR3 hq2' k3
         go_wp2_with fail
         refine HCm.out.mono ?_
         rintro e w9 ⟨rfl, hd⟩
         have r9 := r8.below hd.below
         have HO9 := Aside0.mk (Kd.R_below HO8.out hd.below)
         have HB9 := Aside0.mk (below_step HB8.out hd.below)
         have HS9 := Aside0.mk (Nat.le_trans HS8.out (below_size hd.below))
         clear hd r8 HO8 HB8 HS8 HCm
         go_wp2_with fail
         refine (nat_Sub.calls A9 c9 N2 A1 c1 l1 (can R3) 0 w9 (R_C HO9.out) (R_cap HO9.out) (Kd.C_below HR1.out HB9.out) hc1 HSu.out).mono ?_
         rintro e w10 ⟨v10, rfl, hR10, hb10⟩
         obtain ⟨A10, c10, rfl⟩ := Kd.R_slice hR10
         have r10 := r9.below hb10
         have HO10 := Aside0.mk (Kd.R_lower hR10 HS9.out)
         have HB10 := Aside0.mk (below_step HB9.out hb10)
         have HS10 := Aside0.mk (Nat.le_trans HS9.out (below_size hb10))
         clear hb10 hR10 r9 HO9 HB9 HS9 HSu
         go_wp2
         go_roundw
         case rel => exact ⟨γ + 1, R3, A10, c10, by go_num, ⟨by omega, by rw [W64_eq]; exact hg2⟩, rfl, HR3, r10, HO10, HB10, HS10⟩
         case measure => (simp only [intOf]; omega)
      ·obtain ⟨q', hq'⟩ : ∃ q', q' = cmpI (y * γ) R1 := ⟨_, rfl⟩
       rw [← hq'] at HCm
       have hq0' : 0 < q' := by rw [hq', cmpI_gt (by omega)]; decide
       have hqb' : decide (q' ≤ 0) = false := decide_eq_false (by omega)
       have hg2 : 1 ≤ γ := by
        by_cases h0 : γ = 0
        ·subst h0; rw [Int.mul_zero] at hle; omega
        ·omega
       clear hq' HSu hle
       go_wp2_with fail
       refine HFw.out.mono ?_
       rintro e w5 ⟨v5, rfl, hR5, hb5⟩
       obtain ⟨A7, c7, rfl⟩ := Kd.R_slice hR5
       have r5 := r4.below hb5
       have HO5 := Aside0.mk (Kd.R_below HO4.out hb5)
       have HB5 := Aside0.mk (below_step HB4.out hb5)
       have HS5 := Aside0.mk (Nat.le_trans HS4.out (below_size hb5))
       have HG5 := Aside0.mk hR5
       clear hR5 hb5 r4 HO4 HB4 HS4 HFw
       go_wp2_with fail
       refine (nat_mul.calls A1 c1 l1 A7 c7 G1 P1 w5 (Kd.C_below HR1.out HB5.out) hc1 (R_C HG5.out) (R_cap HG5.out) HMu.out).mono ?_
       rintro e w6 ⟨v6, rfl, hR6, hb6⟩
       obtain ⟨A8, c8, rfl⟩ := Kd.R_slice hR6
       have r6 := r5.below hb6
       have HO6 := Aside0.mk (Kd.R_below HO5.out hb6)
       have HB6 := Aside0.mk (below_step HB5.out hb6)
       have HS6 := Aside0.mk (Nat.le_trans HS5.out (below_size hb6))
       have HP6 := Aside0.mk hR6
       clear hR6 hb6 r5 HO5 HB5 HS5 HG5 HMu
       go_wp2_with fail
       refine (nat_compare.calls A8 c8 P1 A6 c6 N1 q' w6 (R_C HP6.out) (R_cap HP6.out) (R_C HO6.out) (R_cap HO6.out) HCm.out).mono ?_
       rintro e w7 ⟨rfl, hd⟩
       have r7 := r6.below hd.below
       have HO7 := Aside0.mk (Kd.R_below HO6.out hd.below)
       have HB7 := Aside0.mk (below_step HB6.out hd.below)
       have HS7 := Aside0.mk (Nat.le_trans HS6.out (below_size hd.below))
       clear hd r6 HO6 HB6 HS6 HP6 HCm
       go_wp2
       go_roundw
       case rel => exact ⟨γ - 1, by go_num, ⟨by omega, by have := hγw.2; omega⟩, rfl, r7, HO7, HB7, HS7⟩
       case measure => (simp only [intOf]; omega)
 ·rw [if_neg hw] at h; cases h
def nat_DivMod.f (l0 l1 : List Int) : Option (List Int × List Int × Int) :=
  if inW l0 ∧ inW l1 then
    if l0.length ≤ 4096 ∧ l1.length ≤ 4096 then
      if valB W64 l1 = 0 then some ([], [], 5) else some (can (valB W64 l0 / valB W64 l1), can (valB W64 l0 % valB W64 l1), 0)
    else some ([], [], 2)
  else none
set_option maxRecDepth 100000 in
set_option maxHeartbeats 4000000 in
theorem nat_DivMod.calls (A0 : Option Addr) (c0 : Nat) (l0 : List Int) (A1 : Option Addr) (c1 : Nat) (l1 : List Int) (r1 : List Int) (r2 : List Int) (r3 : Int) (w : World) (hr0 : Kd.C (Kd.int .u64) w A0 l0.length l0) (hc0 : l0.length ≤ c0) (hr1 : Kd.C (Kd.int .u64) w A1 l1.length l1) (hc1 : l1.length ≤ c1) (h : nat_DivMod.f l0 l1 = some (r1, r2, r3)) :
  Calls Try.prog 16 #[.slice A0 l0.length c0, .slice A1 l1.length c1] w fun e w' => ∃ v0_ v1_ : Value, e = .returned (.tuple #[v0_, v1_, .int .i64 r3]) ∧ Kd.R (Kd.int .u64) 33 w' w.heap.size (fun _ => True) v0_ r1 ∧ Kd.R (Kd.int .u64) 33 w' w.heap.size (fun _ => True) v1_ r2 ∧ Below w.heap.size w w' := by
 unfold nat_DivMod.f at h
 by_cases hw : inW l0 ∧ inW l1
 ·rw [if_pos hw] at h
  obtain ⟨hw0, hw1⟩ := hw
  by_cases h4 : l0.length ≤ 4096 ∧ l1.length ≤ 4096
  ·rw [if_pos h4] at h
   have HL := Aside0.mk (large_two A0 A1 c0 c1 l0 l1 w false hr0 hc0 hr1 hc1 (decide_eq_false (by omega)))
   have cX := can_canL (valW_nonneg hw0)
   have cY := can_canL (valW_nonneg hw1)
   have vx := can_val (valW_nonneg hw0)
   have vy := can_val (valW_nonneg hw1)
   have lx := can_le hw0
   have ly := can_le hw1
   have T0 := fun w' (hb : Below w.heap.size w w') => trim1 A0 c0 l0 w' hw0 (Kd.C_below hr0 hb) hc0
   have T1 := fun w' (hb : Below w.heap.size w w') => trim1 A1 c1 l1 w' hw1 (Kd.C_below hr1 hb) hc1
   have C0 := C_take hr0 _ (can_le hw0)
   have C1 := C_take hr1 _ (can_le hw1)
   rw [can_take hw0] at C0
   rw [can_take hw1] at C1
   obtain ⟨X, hX⟩ : ∃ X, X = can (valB W64 l0) := ⟨_, rfl⟩
   obtain ⟨Y, hY⟩ : ∃ Y, Y = can (valB W64 l1) := ⟨_, rfl⟩
   rw [← hX] at T0 C0 cX vx lx
   rw [← hY] at T1 C1 cY vy ly
   rw [← vx, ← vy] at h
   have HT0 := Aside0.mk T0
   have HT1 := Aside0.mk T1
   have HC0 := Aside0.mk C0
   have HC1 := Aside0.mk C1
   have hXc : X.length ≤ c0 := by omega
   have hYc : Y.length ≤ c1 := by omega
   have hX4 : X.length ≤ 4096 := by omega
   have hY4 : Y.length ≤ 4096 := by omega
   have HcX := Aside0.mk cX
   have HcY := Aside0.mk cY
   clear T0 T1 C0 C1 hr0 hr1 hX hY vx vy cX cY
   by_cases hn0 : Y.length = 0
   ·have hz : valB W64 Y = 0 := by rw [List.eq_nil_of_length_eq_zero hn0]; rfl
    rw [if_pos hz] at h
    cases h
    have b0 : ((Y.length : Int) == 0) = true := beq_iff_eq.2 (by omega)
    have b1 : (Y.length == 0) = true := beq_iff_eq.2 hn0
    have HN := Aside0.mk hn0
    clear hn0 hz
    go_enter Try.func16, Try.ntmps16
    go_wp2_with fail
    refine HL.out.mono ?_
    rintro e w1 ⟨rfl, hb1⟩
    have HB1 := Aside0.mk hb1
    clear hb1
    go_wp2_with fail
    refine (HT0.out _ HB1.out).mono ?_
    rintro e w2 ⟨rfl, rfl⟩
    go_wp2_with fail
    refine (HT1.out _ HB1.out).mono ?_
    rintro e w2 ⟨rfl, rfl⟩
    go_wp2
    go_ret3
    exact ⟨_, _, rfl, Kd.R_nil _ _ _ _ _, Kd.R_nil _ _ _ _ _, HB1.out⟩
   ·have hy0 : 0 < valB W64 Y := by cases hYY : Y with | nil => rw [hYY] at hn0; simp at hn0 | cons a l => have := HcY.out; rw [hYY] at this; exact canL_pos this
    rw [if_neg (by omega)] at h
    cases h
    have b0 : ((Y.length : Int) == 0) = false := beq_eq_false_iff_ne.2 (by omega)
    have b1 : (Y.length == 0) = false := beq_eq_false_iff_ne.2 hn0
    by_cases hn1 : Y.length = 1
    ·obtain ⟨b, hYb⟩ : ∃ b, Y = [b] := by
      match Y, hn1 with
      | [b], _ => exact ⟨b, rfl⟩
     have b2 : ((Y.length : Int) == 1) = true := beq_iff_eq.2 (by omega)
     have b3 : (Y.length == 1) = true := beq_iff_eq.2 hn1
     have hbw : isW b := by have := canL_in HcY.out; rw [hYb] at this; exact (inB_cons.1 this).1
     have hbv : valB W64 Y = b := by rw [hYb]; simp [valB]
     rw [hbv] at hy0 ⊢
     obtain ⟨ad, hA1, hx0⟩ := Kd.at_int HC1.out (0 : Int) (Int.le_refl 0) (by omega)
     have e0 : rd Y (0 : Int) = b := by rw [hYb]; rfl
     rw [e0] at hx0
     have HX0 := Aside0.mk hx0
     have HDW := Aside0.mk (show nat_DivWord.f X b = some (can (valB W64 X / b), valB W64 X % b, 0) by unfold nat_DivWord.f; rw [if_pos ⟨canL_in HcX.out, hbw⟩, if_pos hX4, if_neg (by omega)])
     have HFW := Aside0.mk (show nat_FromWord.f (valB W64 X % b) = some (can (valB W64 X % b)) by unfold nat_FromWord.f; rw [if_pos ⟨Int.emod_nonneg _ (by omega), Int.lt_trans (Int.emod_lt_of_pos _ hy0) hbw.2⟩])
     obtain ⟨Q, hQ⟩ : ∃ Q, Q = can (valB W64 X / b) := ⟨_, rfl⟩
     obtain ⟨rm, hrm⟩ : ∃ rm, rm = valB W64 X % b := ⟨_, rfl⟩
     rw [← hQ] at HDW ⊢
     rw [← hrm] at HDW HFW ⊢
     have p0 : (0 : Int) < (Y.length : Int) := by omega
     have p1 : 0 < Y.length := by omega
     have HN := Aside0.mk hn1
     have HYb := Aside0.mk hYb
     clear hn0 hn1 hYb hbv e0 hx0 hQ hrm hy0 hbw
     subst hA1
     go_enter Try.func16, Try.ntmps16
     go_wp2_with fail
     refine HL.out.mono ?_
     rintro e w1 ⟨rfl, hb1⟩
     have HB1 := Aside0.mk hb1
     clear hb1
     go_wp2_with fail
     refine (HT0.out _ HB1.out).mono ?_
     rintro e w2 ⟨rfl, rfl⟩
     go_wp2_with fail
     refine (HT1.out _ HB1.out).mono ?_
     rintro e w2 ⟨rfl, rfl⟩
     have hx0 := pw_cell_below HB1.out HX0.out
     rw [show ad.add (0 : Int).toNat = ad by simp [Addr.add]] at hx0
     go_wp2_with fail
     refine (nat_DivWord.calls A0 c0 X b Q rm 0 w1 (Kd.C_below HC0.out HB1.out) hXc HDW.out).mono ?_
     rintro e w2 ⟨v2, rfl, hR2, hb2⟩
     obtain ⟨A2, c2, rfl⟩ := Kd.R_slice hR2
     have HR2 := Aside0.mk (Kd.R_lower hR2 (below_size HB1.out))
     have HB2 := Aside0.mk (below_step HB1.out hb2)
     clear hR2 hb2 HB1 hx0
     go_wp2_with fail
     refine (nat_FromWord.calls rm _ w2 HFW.out).mono ?_
     rintro e w3 ⟨v3, rfl, hR3, hb3⟩
     have HR3 := Aside0.mk (Kd.R_lower hR3 (below_size HB2.out))
     have HR2' := Aside0.mk (Kd.R_below HR2.out hb3)
     have HB3 := Aside0.mk (below_step HB2.out hb3)
     clear hR3 hb3 HB2 HR2
     go_wp2
     go_ret3
     exact ⟨_, _, rfl, HR2'.out, HR3.out, HB3.out⟩
    ·have b2 : ((Y.length : Int) == 1) = false := beq_eq_false_iff_ne.2 (by omega)
     have b3 : (Y.length == 1) = false := beq_eq_false_iff_ne.2 hn1
     have HDv := Aside0.mk (show nat_divide.f X Y = some (can (valB W64 X / valB W64 Y), can (valB W64 X % valB W64 Y)) by unfold nat_divide.f; rw [if_pos ⟨HcX.out, HcY.out, by rintro e; rw [e] at hn0; simp at hn0, hX4, hY4⟩])
     have hrl : (can (valB W64 X % valB W64 Y)).length ≤ 4096 := by
      have h1 := Int.emod_lt_of_pos (valB W64 X) hy0
      have h2 := Int.emod_nonneg (valB W64 X) (show valB W64 Y ≠ 0 by omega)
      have h3 := valB_lt W64_pos (canL_in HcY.out)
      have h5 : (can (valB W64 X % valB W64 Y)).length ≤ Y.length := can_short h2 (by omega)
      omega
     obtain ⟨Q, hQ⟩ : ∃ Q, Q = can (valB W64 X / valB W64 Y) := ⟨_, rfl⟩
     obtain ⟨R, hR⟩ : ∃ R, R = can (valB W64 X % valB W64 Y) := ⟨_, rfl⟩
     rw [← hQ] at HDv ⊢
     rw [← hR] at HDv hrl ⊢
     clear hn0 hn1 hQ hR hy0
     go_enter Try.func16, Try.ntmps16
     go_wp2_with fail
     refine HL.out.mono ?_
     rintro e w1 ⟨rfl, hb1⟩
     have HB1 := Aside0.mk hb1
     clear hb1
     go_wp2_with fail
     refine (HT0.out _ HB1.out).mono ?_
     rintro e w2 ⟨rfl, rfl⟩
     go_wp2_with fail
     refine (HT1.out _ HB1.out).mono ?_
     rintro e w2 ⟨rfl, rfl⟩
     go_wp2_with fail
     refine (nat_divide.calls A0 c0 X A1 c1 Y Q R w1 (Kd.C_below HC0.out HB1.out) hXc (Kd.C_below HC1.out HB1.out) hYc HDv.out).mono ?_
     rintro e w2 ⟨v2, v3, rfl, hR2, hR3, hb2⟩
     obtain ⟨A3, c3, rfl⟩ := Kd.R_slice hR3
     have HR2 := Aside0.mk (Kd.R_lower hR2 (below_size HB1.out))
     have HR3 := Aside0.mk hR3
     have HB2 := Aside0.mk (below_step HB1.out hb2)
     clear hR2 hR3 hb2 HB1
     go_wp2_with fail
     refine (api_Nat_uint64.calls A3 c3 R R w2 (R_C HR3.out) (R_cap HR3.out) (by unfold api_Nat_uint64.f; rw [if_pos (by omega)])).mono ?_
     rintro e w4 ⟨v4, rfl, hR4, hb4⟩
     have HR4 := Aside0.mk (Kd.R_lower hR4 (below_size HB2.out))
     have HR2' := Aside0.mk (Kd.R_below HR2.out hb4)
     have HB4 := Aside0.mk (below_step HB2.out hb4)
     clear hR4 hb4 HB2 HR2
     go_wp2
     go_ret3
     exact ⟨_, _, rfl, HR2'.out, HR4.out, HB4.out⟩
  ·rw [if_neg h4] at h
   cases h
   have HL := Aside0.mk (large_two A0 A1 c0 c1 l0 l1 w true hr0 hc0 hr1 hc1 (decide_eq_true (by omega)))
   clear hr0 hr1
   go_enter Try.func16, Try.ntmps16
   go_wp2_with fail
   refine HL.out.mono ?_
   rintro e w1 ⟨rfl, hb1⟩
   have HB1 := Aside0.mk hb1
   clear hb1
   go_wp2
   go_ret3
   exact ⟨_, _, rfl, Kd.R_nil _ _ _ _ _, Kd.R_nil _ _ _ _ _, HB1.out⟩
 ·rw [if_neg hw] at h; cases h
end Go.Proofs.Ytkkkbalefnileaa.Ex
-- PRINTED by print.py (a twelfth state) out of the translation. Not trusted: Lean checks it.
namespace Go.Proofs.Ytkkkbalefnileaa.T
open Go.RowKit Go.Proofs.YtkkkbalefnileaaW.PrintWords Go.Proofs.YtkkkbalefnileaaW.PrintLast Go.Proofs.YtkkkbalefnileaaW.PrintMore
attribute [local go_sem] max2_int min2_int max_two min_two max_three min_three max_four min_four   -- for this text's walks alone
open Ytkkkbalefnileaa.Ex
set_option linter.unusedVariables false
set_option linter.unusedSimpArgs false



def errW : Option Int → Value
  | none => .nilIface
  | some c => .iface 0 (.int .i64 c)
theorem errW_none : errW none = .nilIface := rfl
theorem errW_some (c : Int) : errW (some c) = .iface 0 (.int .i64 c) := rfl
theorem info23 : (Try.prog.info? 23).map (fun i => (i.zero, i.size, i.bytes)) = some (some (.slice none 0 0), 1, 24) := by kernel_rfl
theorem info33 : (Try.prog.info? 33).map (fun i => (i.zero, i.size, i.bytes)) = some (some (.int .u64 0), 1, 8) := by kernel_rfl
-- the values' own types
def rd_L1 (xs : List (List Int)) (i : Int) : (List Int) := xs.getD i.toNat ([] : List Int)
theorem at_L1 {w : World} {A : Option Addr} {n : Nat} {xs : List (List Int)} (h : Kd.C (Kd.slice 33 (Kd.int .u64)) w A n xs) (i : Int) (h0 : 0 ≤ i) (h1 : i < n) : ∃ ad A0 c0, A = some ad ∧ w.cell? (ad.add i.toNat) = some (.slice A0 (rd_L1 xs i).length c0) ∧ (rd_L1 xs i).length ≤ c0 ∧ (Kd.int .u64).C w A0 (rd_L1 xs i).length (rd_L1 xs i) := by
  obtain ⟨ad, c, e, _, hK, hc0⟩ := Kd.C_get h ([] : List Int) i h0 h1
  have hc : ∀ j u, c[j]? = some u → w.cell? (ad.add (i.toNat * 1 + j)) = some u := hc0
  obtain ⟨A0, c0, rfl, l0, g0⟩ := hK
  exact ⟨ad, A0, c0, e, by have hq := hc 0 _ rfl; rwa [Nat.mul_one, Nat.add_zero] at hq, l0, g0⟩
end Go.Proofs.Ytkkkbalefnileaa.T
-- PRINTED by print.py (a twelfth state) out of the translation. Not trusted: Lean checks it.
namespace Go.Proofs.Ytkkkbalefnileaa.T
open Go.RowKit Go.Proofs.YtkkkbalefnileaaW.PrintWords Go.Proofs.YtkkkbalefnileaaW.PrintLast Go.Proofs.YtkkkbalefnileaaW.PrintMore
attribute [local go_sem] max2_int min2_int max_two min_two max_three min_three max_four min_four   -- for this text's walks alone
open Ytkkkbalefnileaa.Ex
set_option linter.unusedVariables false
set_option linter.unusedSimpArgs false

-- OURS: function 10 (reckonerlaw02_few)

-- OURS: function 11 (nat_Pow)

/-! ### reckonerref01_Count: function 46 -/
/-! ### reckonerref02_Len: function 12 -/
/-! ### reckonerref02_Canonical: function 47 -/
def reckonerref02_Canonical.f (l0 : List Int) : Option (Bool) := if (l0.length : Int) = 0 then (some true) else (if 0 ≤ (wrap64 ((l0.length : Int) - 1)) then (if (wrap64 ((l0.length : Int) - 1)) < (l0.length : Int) then (some ((rd l0 (wrap64 ((l0.length : Int) - 1))) != 0)) else (none)) else (none))
set_option maxHeartbeats 8000000 in
set_option maxRecDepth 100000 in
theorem reckonerref02_Canonical.calls (A0 : Option Addr) (c0 : Nat) (l0 : List Int) (r : Bool) (w : World) (hr0 : Kd.C (Kd.int .u64) w A0 l0.length l0) (hc0 : l0.length ≤ c0) (h : reckonerref02_Canonical.f l0 = some r) :
    Calls Try.prog 47 #[.slice A0 l0.length c0] w fun e w' => e = .returned (.bool r) ∧ Drawn0 w w' := by
  have HR0 := Aside0.mk hr0
  have HC0 := Aside0.mk hc0
  clear hr0 hc0
  have H : (if (l0.length : Int) = 0 then (some true) else (if 0 ≤ (wrap64 ((l0.length : Int) - 1)) then (if (wrap64 ((l0.length : Int) - 1)) < (l0.length : Int) then (some ((rd l0 (wrap64 ((l0.length : Int) - 1))) != 0)) else (none)) else (none))) = some r := h
  clear h
  by_cases c2 : (l0.length : Int) = 0
  · rw [if_pos c2] at H
    have c2b0 : ((l0.length : Int) == 0) = true := beq_iff_eq.mpr c2
    have c2b1 : ((l0.length : Int) != 0) = false := bne_eq_false_iff_eq.mpr c2
    clear c2
    obtain rfl := Option.some.inj H
    go_enter Try.func47, Try.ntmps47
    go_wp2
    go_ret
    exact ⟨by first | rfl | (simp; done) | (simp [*]; done), by repeat (first | exact Drawn0.refl _ | apply Drawn0.step)⟩
  · rw [if_neg c2] at H
    have c2b0 : ((l0.length : Int) == 0) = false := beq_eq_false_iff_ne.mpr c2
    have c2b1 : ((l0.length : Int) != 0) = true := bne_iff_ne.mpr c2
    have c2b2 : ¬ (l0 = []) := fun h_ => c2 (by rw [h_]; rfl)
    obtain ⟨ji3, hji3⟩ : ∃ j_ : Int, (wrap64 ((l0.length : Int) - 1)) = j_ := ⟨_, rfl⟩
    replace H : (if 0 ≤ (ji3) then (if (ji3) < (l0.length : Int) then (some ((rd l0 (ji3)) != 0)) else (none)) else (none)) = some r := by first | (rw [hji3] at H; exact H) | (simp only [hji3] at H ⊢; exact H)
    have hji3w : (IntKind.i64.wrap ((l0.length : Int) - 1)) = ji3 := (i64_w _).trans hji3
    by_cases c4 : 0 ≤ (ji3)
    · rw [if_pos c4] at H
      have c4b0 : decide (0 ≤ (ji3)) = true := decide_eq_true c4
      clear c4
      by_cases c5 : (ji3) < (l0.length : Int)
      · rw [if_pos c5] at H
        have c5b0 : decide ((ji3) < (l0.length : Int)) = true := decide_eq_true c5
        clear c5
        obtain rfl := Option.some.inj H
        have p106 : 0 ≤ ((ji3) : Int) := of_decide_eq_true (by first | (with_reducible assumption) | assumption)
        have q106 : (ji3) < (l0.length : Int) := of_decide_eq_true (by first | (with_reducible assumption) | assumption)
        obtain ⟨ad106, e106, hx106_0⟩ := Kd.at_int HR0.out (ji3) p106 q106
        cases e106
        replace p106 := eq_true p106
        replace q106 := eq_true q106
        go_enter Try.func47, Try.ntmps47
        go_wp2
        go_ret
        exact ⟨by first | rfl | (simp; done) | (simp only [← hji3] <;> (first | rfl | simp)) | (simp [*]; done), by repeat (first | exact Drawn0.refl _ | apply Drawn0.step)⟩
      · rw [if_neg c5] at H
        exact absurd H (by simp)
    · rw [if_neg c4] at H
      exact absurd H (by simp)
/-! ### reckonerref01_Same: function 48 -/
def reckonerref01_Same.l0 : Nat → List Int → List Int → Int → Option (Bool)
  | 0, _, _, _ => none
  | k + 1, x0, x1, x5 => if x5 < (x0.length : Int) then (if 0 ≤ x5 then (if x5 < (x1.length : Int) then (if (rd x0 x5) = (rd x1 x5) then (reckonerref01_Same.l0 k x0 x1 (wrap64 (x5 + 1))) else (some false)) else (none)) else (none)) else (some true)
def reckonerref01_Same.f (k : Nat) (l0 : List Int) (l1 : List Int) : Option (Bool) := if (l0.length : Int) = (l1.length : Int) then (reckonerref01_Same.l0 k l0 l1 0) else (some false)
set_option maxHeartbeats 8000000 in
set_option maxRecDepth 100000 in
theorem reckonerref01_Same.calls (k : Nat) (A0 : Option Addr) (c0 : Nat) (l0 : List Int) (A1 : Option Addr) (c1 : Nat) (l1 : List Int) (r : Bool) (w : World) (hr0 : Kd.C (Kd.int .u64) w A0 l0.length l0) (hc0 : l0.length ≤ c0) (hr1 : Kd.C (Kd.int .u64) w A1 l1.length l1) (hc1 : l1.length ≤ c1) (h : reckonerref01_Same.f k l0 l1 = some r) :
  Calls Try.prog 48 #[.slice A0 l0.length c0, .slice A1 l1.length c1] w fun e w' => e = .returned (.bool r) ∧ Drawn0 w w' := by
 have HR0 := Aside0.mk hr0
 have HC0 := Aside0.mk hc0
 clear hr0 hc0
 have HR1 := Aside0.mk hr1
 have HC1 := Aside0.mk hc1
 clear hr1 hc1
 have H : (if (l0.length : Int) = (l1.length : Int) then (reckonerref01_Same.l0 k l0 l1 0) else (some false)) = some r := h
 clear h
 by_cases c3 : (l0.length : Int) = (l1.length : Int)
 ·rw [if_pos c3] at H
  have c3b0 : ((l0.length : Int) == (l1.length : Int)) = true := beq_iff_eq.mpr c3
  have c3b1 : ((l0.length : Int) != (l1.length : Int)) = false := bne_eq_false_iff_eq.mpr c3
  have c3b2 : (l0.length == l1.length) = true := by first | simpa using c3 | (simp at c3 ⊢; omega)
  clear c3
  have H' := Aside0.mk H
  clear H
  go_enter Try.func48, Try.ntmps48
  go_wp2
  repeat (go_quiet (fail); try go_wp2)
  go_loopg [5] k (fun kq v5 w' => ∃ (x5_1 : Int), v5 = .int .i64 x5_1 ∧ Aside0 (reckonerref01_Same.l0 kq l0 l1 x5_1 = some r) ∧ Aside0 (kq ≤ k) ∧ Drawn0 w w')
  case atStart => exact ⟨(0), (by first | rfl | (simp; done) | (simp [*]; done)), H', ⟨Nat.le_refl _⟩, by repeat (first | exact Drawn0.refl _ | apply Drawn0.step)⟩
  case round =>
   clear H'
   try clear c1
   try clear p2
   try clear c3
   try clear c3b0
   try clear c3b1
   try clear c3b2
   obtain ⟨x5_1, rfl, HA, HK1, ⟨m1, rfl⟩⟩ := hrel
   cases gk with
   | zero => exact absurd HA.out (by simp [reckonerref01_Same.l0])
   | succ k1 =>
    have H := HA.out
    clear HA
    simp only [reckonerref01_Same.l0] at H
    by_cases c4 : x5_1 < (l0.length : Int)
    ·rw [if_pos c4] at H
     have c4b0 : decide (x5_1 < (l0.length : Int)) = true := decide_eq_true c4
     clear c4
     by_cases c5 : 0 ≤ x5_1
     ·rw [if_pos c5] at H
      have c5b0 : decide (0 ≤ x5_1) = true := decide_eq_true c5
      clear c5
      by_cases c6 : x5_1 < (l1.length : Int)
      ·rw [if_pos c6] at H
       have c6b0 : decide (x5_1 < (l1.length : Int)) = true := decide_eq_true c6
       clear c6
       by_cases c7 : (rd l0 x5_1) = (rd l1 x5_1)
       ·rw [if_pos c7] at H
        have c7b0 : ((rd l0 x5_1) == (rd l1 x5_1)) = true := beq_iff_eq.mpr c7
        have c7b1 : ((rd l0 x5_1) != (rd l1 x5_1)) = false := bne_eq_false_iff_eq.mpr c7
        clear c7
        have H' := Aside0.mk H
        clear H
        have p107 : 0 ≤ (x5_1 : Int) := of_decide_eq_true (by first | (with_reducible assumption) | assumption)
        have q107 : x5_1 < (l0.length : Int) := of_decide_eq_true (by first | (with_reducible assumption) | assumption)
        obtain ⟨ad107, e107, hx107_0⟩ := Kd.at_int HR0.out x5_1 p107 q107
        cases e107
        replace p107 := eq_true p107
        replace q107 := eq_true q107
        have p108 : 0 ≤ (x5_1 : Int) := of_decide_eq_true (by first | (with_reducible assumption) | assumption)
        have q108 : x5_1 < (l1.length : Int) := of_decide_eq_true (by first | (with_reducible assumption) | assumption)
        obtain ⟨ad108, e108, hx108_0⟩ := Kd.at_int HR1.out x5_1 p108 q108
        cases e108
        replace p108 := eq_true p108
        replace q108 := eq_true q108
        go_wp2
        repeat (go_quiet (fail); try go_wp2)
        go_roundg k1
        case measure => have := HK1.out; omega
        case rel => exact ⟨(wrap64 (x5_1 + 1)), (by first | rfl | (simp; done) | (simp [*]; done)), H', ⟨by have := HK1.out; omega⟩, by repeat (first | exact Drawn0.refl _ | apply Drawn0.step)⟩
       ·rw [if_neg c7] at H
        have c7b0 : ((rd l0 x5_1) == (rd l1 x5_1)) = false := beq_eq_false_iff_ne.mpr c7
        have c7b1 : ((rd l0 x5_1) != (rd l1 x5_1)) = true := bne_iff_ne.mpr c7
        obtain rfl := Option.some.inj H
        have p107 : 0 ≤ (x5_1 : Int) := of_decide_eq_true (by first | (with_reducible assumption) | assumption)
        have q107 : x5_1 < (l0.length : Int) := of_decide_eq_true (by first | (with_reducible assumption) | assumption)
        obtain ⟨ad107, e107, hx107_0⟩ := Kd.at_int HR0.out x5_1 p107 q107
        cases e107
        replace p107 := eq_true p107
        replace q107 := eq_true q107
        have p108 : 0 ≤ (x5_1 : Int) := of_decide_eq_true (by first | (with_reducible assumption) | assumption)
        have q108 : x5_1 < (l1.length : Int) := of_decide_eq_true (by first | (with_reducible assumption) | assumption)
        obtain ⟨ad108, e108, hx108_0⟩ := Kd.at_int HR1.out x5_1 p108 q108
        cases e108
        replace p108 := eq_true p108
        replace q108 := eq_true q108
        go_wp2
        repeat (go_quiet (fail); try go_wp2)
        go_ret
        exact ⟨by first | rfl | (simp; done) | (simp [*]; done), by repeat (first | exact Drawn0.refl _ | apply Drawn0.step)⟩
      ·rw [if_neg c6] at H
       exact absurd H (by simp)
     ·rw [if_neg c5] at H
      exact absurd H (by simp)
    ·rw [if_neg c4] at H
     have c4b0 : decide (x5_1 < (l0.length : Int)) = false := decide_eq_false c4
     clear c4
     obtain rfl := Option.some.inj H
     go_wp2
     repeat (go_quiet (fail); try go_wp2)
     go_ret
     exact ⟨by first | rfl | (simp; done) | (simp [*]; done), by repeat (first | exact Drawn0.refl _ | apply Drawn0.step)⟩
 ·rw [if_neg c3] at H
  have c3b0 : ((l0.length : Int) == (l1.length : Int)) = false := beq_eq_false_iff_ne.mpr c3
  have c3b1 : ((l0.length : Int) != (l1.length : Int)) = true := bne_iff_ne.mpr c3
  have c3b2 : (l0.length == l1.length) = false := by first | simpa using c3 | (simp at c3 ⊢; omega)
  obtain rfl := Option.some.inj H
  go_enter Try.func48, Try.ntmps48
  go_wp2
  repeat (go_quiet (fail); try go_wp2)
  go_ret
  exact ⟨by first | rfl | (simp; done) | (simp [*]; done), by repeat (first | exact Drawn0.refl _ | apply Drawn0.step)⟩
/-! ### reckonerref01_Digits: function 57 -/
def reckonerref01_Digits.l0 : Nat → List Int → List Int → Int → Option (List Int)
  | 0, _, _, _ => none
  | k + 1, x0, x3, x4 => if x4 < (x0.length : Int) then (if 0 ≤ x4 then ((some (([Int.tmod (rd x0 x4) 4294967296, IntKind.u64.wrap (Int.tdiv (rd x0 x4) 4294967296)] : List Int) : List Int)).bind fun y111 => (if x3.length + y111.length < 17592186044416 then (reckonerref01_Digits.l0 k x0 (x3 ++ y111) (wrap64 (x4 + 1))) else (none))) else (none)) else (some x3)
def reckonerref01_Digits.f (k : Nat) (l0 : List Int) : Option (List Int) := reckonerref01_Digits.l0 k l0 ([] : List Int) 0
def reckonerref01_Digits.T5 : Bool × List (List Nat × List Nat) := (true, [([], []), ([], []), ([], []), ([1, 2], [1, 2]), ([3], [3]), ([4], [4]), ([], []), ([], []), ([6, 7], [6, 7]), ([8], [8]), ([9], [9]), ([5, 10], [5, 10]), ([0, 11], [0, 11]), ([12, 12, 0, 1, 2, 3, 4, 5, 6, 7, 8, 9, 10, 11, 12], [0, 12])])
def reckonerref01_Digits.B5 : List Nat := [0, 0, 0, 6, 14, 30, 0, 0, 192, 448, 960, 2046, 4095, 8191]
theorem reckonerref01_Digits.tab5 : rtab .any (opsOf Try.f57 5) = reckonerref01_Digits.T5 := by kernel_rfl
theorem reckonerref01_Digits.bits5 : waitsOk reckonerref01_Digits.T5.2 reckonerref01_Digits.B5 = true := by kernel_rfl
set_option maxHeartbeats 8000000 in
set_option maxRecDepth 100000 in
theorem reckonerref01_Digits.calls (k : Nat) (A0 : Option Addr) (c0 : Nat) (l0 : List Int) (r : List Int) (w : World) (hr0 : Kd.C (Kd.int .u64) w A0 l0.length l0) (hc0 : l0.length ≤ c0) (h : reckonerref01_Digits.f k l0 = some r) :
  Calls Try.prog 57 #[.slice A0 l0.length c0] w fun e w' => ∃ v0_ : Value, e = .returned (v0_) ∧ Kd.R (Kd.int .u64) 33 w' w.heap.size (fun _ => True) v0_ r ∧ Below w.heap.size w w' := by
 have HR0 := Aside0.mk hr0
 have HC0 := Aside0.mk hc0
 clear hr0 hc0
 have HB := Aside0.mk (Below.refl w.heap.size w)
 have H : (reckonerref01_Digits.l0 k l0 ([] : List Int) 0) = some r := h
 clear h
 have H' := Aside0.mk H
 clear H
 go_enter Try.func57, Try.ntmps57
 try simp only [List.append]
 go_wp2
 go_loopg [3, 4] k (fun kq v3 v4 w' => ∃ (x3_1 : List Int) (x4_1 : Int), v4 = .int .i64 x4_1 ∧ Aside0 (reckonerref01_Digits.l0 kq l0 x3_1 x4_1 = some r) ∧ Aside0 (kq ≤ k) ∧ Aside0 (Kd.R (Kd.int .u64) 33 w' w.heap.size (fun _ => True) v3 x3_1) ∧ Aside0 (Below w.heap.size w w'))
 case atStart => exact ⟨(([] : List Int)), (0), (by first | rfl | (simp; done) | (simp [*]; done)), H', ⟨Nat.le_refl _⟩, ⟨by first | exact Kd.R_nil _ _ _ _ _ | exact Kd.N_nil _ _ _ _ _ | exact Kd.V_nil _ _ _ _ _ | exact Kd.Q_nil _ _ _ _ _ | exact Kd.S_nil _ _ _ _ _⟩, ⟨by repeat (first | (with_reducible first | exact HB.out | apply below_alloc | apply pw_below_drewN | apply below_drew1) | exact HB.out)⟩⟩
 case round =>
  clear H'
  obtain ⟨x3_1, x4_1, rfl, HA, HK1, HO_3, HB⟩ := hrel
  cases gk with
  | zero => exact absurd HA.out (by simp [reckonerref01_Digits.l0])
  | succ k1 =>
   have H := HA.out
   clear HA
   simp only [reckonerref01_Digits.l0] at H
   by_cases c2 : x4_1 < (l0.length : Int)
   ·rw [if_pos c2] at H
    have c2b0 : decide (x4_1 < (l0.length : Int)) = true := decide_eq_true c2
    clear c2
    by_cases c3 : 0 ≤ x4_1
    ·rw [if_pos c3] at H
     have c3b0 : decide (0 ≤ x4_1) = true := decide_eq_true c3
     clear c3
     obtain ⟨y111, hy111⟩ : ∃ y_ : List Int, y_ = (([Int.tmod (rd l0 x4_1) 4294967296, IntKind.u64.wrap (Int.tdiv (rd l0 x4_1) 4294967296)] : List Int)) := ⟨_, rfl⟩
     replace H : (if x3_1.length + y111.length < 17592186044416 then (reckonerref01_Digits.l0 k1 l0 (x3_1 ++ y111) (wrap64 (x4_1 + 1))) else (none)) = some r := by first | (rw [hy111]; with_reducible exact H) | (have H2_ := (Option.bind_some _ _).symm.trans H; rw [hy111]; with_reducible exact H2_) | (have H2_ := (Option.bind_some _ _).symm.trans H; with_reducible exact H2_) | with_reducible exact H | (rw [hy111]; exact H) | exact H
     have Ny111 := Aside0.mk hy111
     clear hy111
     by_cases c4 : x3_1.length + y111.length < 17592186044416
     ·rw [if_pos c4] at H
      have LMc4 := Aside0.mk c4
      clear c4
      obtain ⟨y114, hy114⟩ : ∃ y_ : List Int, y_ = (x3_1 ++ y111) := ⟨_, rfl⟩
      replace H : (reckonerref01_Digits.l0 k1 l0 y114 (wrap64 (x4_1 + 1))) = some r := by first | (rw [hy114]; with_reducible exact H) | (have H2_ := (Option.bind_some _ _).symm.trans H; rw [hy114]; with_reducible exact H2_) | (have H2_ := (Option.bind_some _ _).symm.trans H; with_reducible exact H2_) | with_reducible exact H | (rw [hy114]; exact H) | exact H
      have Ny114 := Aside0.mk hy114
      clear hy114
      have H' := Aside0.mk H
      clear H
      try go_wp2
      have n0_ := Aside0.mk (Kd.R_drew HO_3.out)
      have n1_ := Aside0.mk (below_drew1 HB.out)
      clear HO_3
      clear HB
      have HO_3 := n0_
      have HB := n1_
      clear n0_ n1_
      have p109 : 0 ≤ (x4_1 : Int) := of_decide_eq_true (by first | (with_reducible assumption) | assumption)
      have q109 : x4_1 < (l0.length : Int) := of_decide_eq_true (by first | (with_reducible assumption) | assumption)
      obtain ⟨ad109, e109, hx109_0⟩ := Kd.at_int HR0.out x4_1 p109 q109
      have hw109_0 := hx109_0
      cases e109
      replace hx109_0 := (HB.out.cell (World.block_lt_of_cell? w _ hx109_0)).trans hx109_0
      replace p109 := eq_true p109
      replace q109 := eq_true q109
      have p110 : 0 ≤ (x4_1 : Int) := of_decide_eq_true (by first | (with_reducible assumption) | assumption)
      have q110 : x4_1 < (l0.length : Int) := of_decide_eq_true (by first | (with_reducible assumption) | assumption)
      obtain ⟨ad110, e110, hx110_0⟩ := Kd.at_int HR0.out x4_1 p110 q110
      have hw110_0 := hx110_0
      obtain rfl : ad109 = ad110 := (by injection e110)
      replace hx110_0 := (HB.out.cell (World.block_lt_of_cell? w _ hx110_0)).trans hx110_0
      replace p110 := eq_true p110
      replace q110 := eq_true q110
      refine start_ (n := 14) (S := fun w' => w'.cell? (ad109.add (x4_1).toNat) = some (.int .u64 (rd l0 x4_1)) ∧ w'.cell? (ad109.add (x4_1).toNat) = some (.int .u64 (rd l0 x4_1))) (ds := []) #[false, false, false, false, false, false, false, false, false, false, false, false, false, false] (by kernel_rfl) rfl rfl ⟨((HB.out.cell (World.block_lt_of_cell? w _ hw109_0)).trans hw109_0), ((HB.out.cell (World.block_lt_of_cell? w _ hw110_0)).trans hw110_0)⟩ (fun hHeld => ?_); refine with_tabW reckonerref01_Digits.tab5 reckonerref01_Digits.bits5 (fun HT_ HW_ => ?_)
      generalize wr.drew = w5 at HO_3 HB hx109_0 hx110_0 hHeld ⊢
      refine pure_ (i := 0) (N := some 11) (v := ?_) (a' := ?_) #[true, false, false, false, false, false, false, false, false, false, false, false, false, false] rfl rfl (any_of HT_.out (by kernel_rfl)) (fun _ _ _ h => h) (Or.inl ⟨by rfl, ?_⟩) ?_ ?_
      rotate_left
      ·intro w'
       go_simp
       with_reducible rfl
      rotate_left
      ·simp only [Act.put, List.setIfInBounds_toArray, List.set_cons_zero, List.set_cons_succ, i64_w, i32_w]
       rfl
      refine pure_ (i := 1) (N := some 12) (v := ?_) (a' := ?_) #[true, true, false, false, false, false, false, false, false, false, false, false, false, false] rfl rfl (any_of HT_.out (by kernel_rfl)) (fun _ _ _ h => h) (Or.inl ⟨by rfl, ?_⟩) ?_ ?_
      rotate_left
      ·intro w'
       go_simp
       with_reducible rfl
      rotate_left
      ·simp only [Act.put, List.setIfInBounds_toArray, List.set_cons_zero, List.set_cons_succ, i64_w, i32_w]
       rfl
      refine pure_ (i := 2) (N := some 13) (v := ?_) (a' := ?_) #[true, true, true, false, false, false, false, false, false, false, false, false, false, false] rfl rfl (any_of HT_.out (by kernel_rfl)) (fun _ _ _ h => h) (Or.inl ⟨by rfl, ?_⟩) ?_ ?_
      rotate_left
      ·intro w'
       go_simp
       with_reducible rfl
      rotate_left
      ·simp only [Act.put, List.setIfInBounds_toArray, List.set_cons_zero, List.set_cons_succ, i64_w, i32_w]
       rfl
      refine pure_ (i := 3) (N := some 14) (v := ?_) (a' := ?_) #[true, true, true, true, false, false, false, false, false, false, false, false, false, false] rfl rfl (any_of HT_.out (by kernel_rfl)) (fun _ _ _ h => h) (Or.inl ⟨by rfl, ?_⟩) ?_ ?_
      rotate_left
      ·intro w'
       go_simp
       with_reducible rfl
      rotate_left
      ·simp only [Act.put, List.setIfInBounds_toArray, List.set_cons_zero, List.set_cons_succ, i64_w, i32_w]
       rfl
      refine pure_ (i := 6) (N := some 17) (v := ?_) (a' := ?_) #[true, true, true, true, false, false, true, false, false, false, false, false, false, false] rfl rfl (any_of HT_.out (by kernel_rfl)) (fun _ _ _ h => h) (Or.inl ⟨by rfl, ?_⟩) ?_ ?_
      rotate_left
      ·intro w'
       go_simp
       with_reducible rfl
      rotate_left
      ·simp only [Act.put, List.setIfInBounds_toArray, List.set_cons_zero, List.set_cons_succ, i64_w, i32_w]
       rfl
      refine pure_ (i := 7) (N := some 18) (v := ?_) (a' := ?_) #[true, true, true, true, false, false, true, true, false, false, false, false, false, false] rfl rfl (any_of HT_.out (by kernel_rfl)) (fun _ _ _ h => h) (Or.inl ⟨by rfl, ?_⟩) ?_ ?_
      rotate_left
      ·intro w'
       go_simp
       with_reducible rfl
      rotate_left
      ·simp only [Act.put, List.setIfInBounds_toArray, List.set_cons_zero, List.set_cons_succ, i64_w, i32_w]
       rfl
      refine pure_ (i := 8) (N := some 19) (v := ?_) (a' := ?_) #[true, true, true, true, false, false, true, true, true, false, false, false, false, false] rfl rfl (any_of HT_.out (by kernel_rfl)) (fun _ _ _ h => h) (Or.inl ⟨by rfl, ?_⟩) ?_ ?_
      rotate_left
      ·intro w'
       go_simp
       with_reducible rfl
      rotate_left
      ·simp only [Act.put, List.setIfInBounds_toArray, List.set_cons_zero, List.set_cons_succ, i64_w, i32_w]
       rfl
      refine take_ (i := 4) (N := some 15) (v := ?_) (a' := ?_) #[true, true, true, true, true, false, true, true, true, false, false, false, false, false] rfl rfl (take_ofW HT_.out HW_.out (by kernel_rfl)) (fun _ _ _ h => h) (Or.inl ⟨by rfl, ?_⟩) hHeld ?_ ?_
      rotate_left
      ·rintro w' ⟨s0, s1⟩
       go_simp
       with_reducible rfl
      rotate_left
      ·simp only [Act.put, List.setIfInBounds_toArray, List.set_cons_zero, List.set_cons_succ, i64_w, i32_w]
       rfl
      refine pure_ (i := 5) (N := some 16) (v := ?_) (a' := ?_) #[true, true, true, true, true, true, true, true, true, false, false, false, false, false] rfl rfl (any_of HT_.out (by kernel_rfl)) (fun _ _ _ h => h) (Or.inl ⟨by rfl, ?_⟩) ?_ ?_
      rotate_left
      ·intro w'
       go_simp
       with_reducible rfl
      rotate_left
      ·simp only [Act.put, List.setIfInBounds_toArray, List.set_cons_zero, List.set_cons_succ, i64_w, i32_w]
       rfl
      refine take_ (i := 9) (N := some 20) (v := ?_) (a' := ?_) #[true, true, true, true, true, true, true, true, true, true, false, false, false, false] rfl rfl (take_ofW HT_.out HW_.out (by kernel_rfl)) (fun _ _ _ h => h) (Or.inl ⟨by rfl, ?_⟩) hHeld ?_ ?_
      rotate_left
      ·rintro w' ⟨s0, s1⟩
       go_simp
       with_reducible rfl
      rotate_left
      ·simp only [Act.put, List.setIfInBounds_toArray, List.set_cons_zero, List.set_cons_succ, i64_w, i32_w]
       rfl
      refine pure_ (i := 10) (N := some 21) (v := ?_) (a' := ?_) #[true, true, true, true, true, true, true, true, true, true, true, false, false, false] rfl rfl (any_of HT_.out (by kernel_rfl)) (fun _ _ _ h => h) (Or.inl ⟨by rfl, ?_⟩) ?_ ?_
      rotate_left
      ·intro w'
       go_simp
       with_reducible rfl
      rotate_left
      ·simp only [Act.put, List.setIfInBounds_toArray, List.set_cons_zero, List.set_cons_succ, i64_w, i32_w]
       rfl
      refine one_ (i := 11) (N := some 22) #[true, true, true, true, true, true, true, true, true, true, true, true, false, false] rfl rfl (one_of HT_.out (by kernel_rfl)) (by decide) (fun K hK => ?_)
      refine Kd.R_lit_step (Kd.int .u64) _ 33 ?hg (N := 22) ?hd (xs := ([Int.tmod (rd l0 x4_1) 4294967296, IntKind.u64.wrap (Int.tdiv (rd l0 x4_1) 4294967296)] : List Int)) (inner := [.int .u64 (Int.tmod (rd l0 x4_1) 4294967296), .int .u64 (IntKind.u64.wrap (Int.tdiv (rd l0 x4_1) 4294967296))]) (ok := fun _ => True) (okp := fun _ => True) ?hr ?hp (fun _ hk => hk) trivial (Below.refl _ _) (Nat.le_refl _) (by simp) ?_; (case hd => rfl); (case hg => rfl); (case hr => first | (go_simp; done) | (go_simp; rfl)); (case hp => exact (Reps.one (show Kd.M (Kd.int .u64) _ _ _ (Int.tmod (rd l0 x4_1) 4294967296) [.int .u64 (Int.tmod (rd l0 x4_1) 4294967296)] from rfl) (Reps.one (show Kd.M (Kd.int .u64) _ _ _ (IntKind.u64.wrap (Int.tdiv (rd l0 x4_1) 4294967296)) [.int .u64 (IntKind.u64.wrap (Int.tdiv (rd l0 x4_1) 4294967296))] from rfl) (Reps.none _ _))))
      intro v112 w6 ho7 hb hg_ hnew_
      clear hg_ hnew_
      (first | rw [← Ny111.out] at ho7 | (simp only [Int.reduceToNat] at ho7; rw [← Ny111.out] at ho7))
      have n0_ := Aside0.mk (Kd.R_elder' (by (with_reducible repeat (first | apply Kd.R_alloc | apply Kd.R_drewN | apply Kd.R_drew)); exact HO_3.out) (Kd.R_base ho7) hb)
      have n1_ := Aside0.mk (Kd.R_lower (Kd.R_new' ho7 (Kd.R_lt (by (with_reducible repeat (first | apply Kd.R_alloc | apply Kd.R_drewN | apply Kd.R_drew)); exact HO_3.out))) (below_size (by repeat (first | (with_reducible first | exact HB.out | apply below_alloc | apply pw_below_drewN | apply below_drew1) | exact HB.out))))
      have n2_ := Aside0.mk (below_step (by repeat (first | (with_reducible first | exact HB.out | apply below_alloc | apply pw_below_drewN | apply below_drew1) | exact HB.out)) hb)
      clear HO_3
      clear HB
      have HO_3 := n0_
      have HO113 := n1_
      have HB := n2_
      clear n0_ n1_ n2_
      clear hb ho7
      obtain ⟨Ao9, co9, eo9⟩ := Kd.R_slice HO113.out
      (first | subst eo9 | (injection eo9 with f1_ f2_ f3_; have f4_ := f1_.symm; have f5_ := f3_.symm; clear f1_ f2_ f3_; subst f4_; subst f5_))
      refine hK.out _ _ ⟨((HB.out.cell (World.block_lt_of_cell? w _ hw109_0)).trans hw109_0), ((HB.out.cell (World.block_lt_of_cell? w _ hw110_0)).trans hw110_0)⟩ (fun hHeld => ?_)
      clear hK K
      refine norm_ (a' := ?_) ?_ ?_
      rotate_left
      ·show Act.put _ (some 22) _ = _
       simp only [Act.put, List.setIfInBounds_toArray, List.set_cons_zero, List.set_cons_succ, i64_w, i32_w]
       rfl
      refine one_ (i := 12) (N := some 23) #[true, true, true, true, true, true, true, true, true, true, true, true, true, false] rfl rfl (one_of HT_.out (by kernel_rfl)) (by decide) (fun K hK => ?_)
      refine Kd.R_append_rows_step (Kd.int .u64) (w0 := w) w.heap.size (by rfl) (.tmp 11) (.tmp 22) 22 33 (.int .u64 0) 8 rfl Try.underlying22 info33 rfl (by decide) (by omega) u3 x3_1 y111 _ _ _ (fun k_ => some k_ ≠ (.slice Ao9 y111.length co9 : Value).ownBlock) (fun _ => False) rfl rfl ?aO ?aR (fun _ _ h => h) (fun _ h => h.elim) ?aF ?aB ?aS ?aL ?_
      (case aR => repeat (first | exact (Kd.R_reads' HO113.out).2.2 | (with_reducible refine Kd.C_alloc ?_ _) | (with_reducible refine Kd.C_drewN ?_ _) | (with_reducible refine Kd.C_drew ?_)))
      (case aB => exact (by repeat (first | (with_reducible first | exact HB.out | apply below_alloc | apply pw_below_drewN | apply below_drew1) | exact HB.out)))
      (case aF => exact (fun k_ hk => Kd.fresh' (Kd.R_lt (by (with_reducible repeat (first | apply Kd.R_alloc | apply Kd.R_drewN | apply Kd.R_drew)); exact HO113.out)) k_ hk))
      (case aO => exact (by (with_reducible repeat (first | apply Kd.R_alloc | apply Kd.R_drewN | apply Kd.R_drew)); exact Kd.R_mono HO_3.out (fun _ hk => hk.2)))
      (case aS => exact (below_size (by repeat (first | (with_reducible first | exact HB.out | apply below_alloc | apply pw_below_drewN | apply below_drew1) | exact HB.out))))
      (case aL => have := LMc4.out; omega)
      intro v115 w8 ho hb hg hat
      rw [← Ny114.out] at ho
      have n0_ := Aside0.mk (Kd.R_after (ok := (fun _ => True)) (by (with_reducible repeat (first | apply Kd.R_alloc | apply Kd.R_drewN | apply Kd.R_drew)); exact HO113.out) hg hat)
      have n1_ := Aside0.mk (hb)
      have n2_ := Aside0.mk (ho)
      clear HO113
      clear HB
      clear HO_3
      have HO113 := n0_
      have HB := n1_
      have HO116 := n2_
      clear n0_ n1_ n2_
      clear ho hb hg hat
      refine hK.out _ _ ⟨((HB.out.cell (World.block_lt_of_cell? w _ hw109_0)).trans hw109_0), ((HB.out.cell (World.block_lt_of_cell? w _ hw110_0)).trans hw110_0)⟩ (fun hHeld => ?_)
      clear hK K
      refine norm_ (a' := ?_) ?_ ?_
      rotate_left
      ·show Act.put _ (some 23) _ = _
       simp only [Act.put, List.setIfInBounds_toArray, List.set_cons_zero, List.set_cons_succ, i64_w, i32_w]
       rfl
      refine pure_ (i := 13) (N := some 3) (v := ?_) (a' := ?_) #[true, true, true, true, true, true, true, true, true, true, true, true, true, true] rfl rfl (any_of HT_.out (by kernel_rfl)) (fun _ _ _ h => h) (Or.inl ⟨by rfl, ?_⟩) ?_ ?_
      rotate_left
      ·intro w'
       go_simp
       with_reducible rfl
      rotate_left
      ·simp only [Act.put, List.setIfInBounds_toArray, List.set_cons_zero, List.set_cons_succ, i64_w, i32_w]
       rfl
      refine done_ (done_of HT_.out (by kernel_rfl)) ?_
      try go_wp2
      go_roundg k1
      case measure => have := HK1.out; omega
      case rel => exact ⟨(y114), (wrap64 (x4_1 + 1)), (by first | rfl | (simp; done) | (simp [*]; done)), H', ⟨by have := HK1.out; omega⟩, ⟨by (with_reducible repeat (first | apply Kd.R_alloc | apply Kd.R_drewN | apply Kd.R_drew)); exact Kd.R_mono HO116.out (fun _ hk => trivial)⟩, ⟨by repeat (first | (with_reducible first | exact HB.out | apply below_alloc | apply pw_below_drewN | apply below_drew1) | exact HB.out)⟩⟩
     ·rw [if_neg c4] at H
      exact absurd H (by simp)
    ·rw [if_neg c3] at H
     exact absurd H (by simp)
   ·rw [if_neg c2] at H
    have c2b0 : decide (x4_1 < (l0.length : Int)) = false := decide_eq_false c2
    clear c2
    obtain rfl := Option.some.inj H
    go_wp2
    go_ret
    exact ⟨_, by first | rfl | (simp [errW_none, errW_some] <;> rfl) | (simp [*, errW_none, errW_some] <;> rfl), by (with_reducible repeat (first | apply Kd.R_alloc | apply Kd.R_drewN | apply Kd.R_drew)); exact HO_3.out, by repeat (first | (with_reducible first | exact HB.out | apply below_alloc | apply pw_below_drewN | apply below_drew1) | exact HB.out)⟩
/-! ### reckonerref01_Short: function 86 -/
def reckonerref01_Short.l0 : Nat → List Int → Int → Option (List Int)
  | 0, _, _ => none
  | k + 1, x0, x3 => if x3 > 0 then (if 0 ≤ (wrap64 (x3 - 1)) then (if (wrap64 (x3 - 1)) < (x0.length : Int) then (if (rd x0 (wrap64 (x3 - 1))) = 0 then (reckonerref01_Short.l0 k x0 (wrap64 (x3 - 1))) else (if 0 ≤ x3 then (if x3 ≤ (x0.length : Int) then (some (x0.take (x3 : Int).toNat)) else (none)) else (none))) else (none)) else (none)) else (if 0 ≤ x3 then (if x3 ≤ (x0.length : Int) then (some (x0.take (x3 : Int).toNat)) else (none)) else (none))
def reckonerref01_Short.f (k : Nat) (l0 : List Int) : Option (List Int) := reckonerref01_Short.l0 k l0 (l0.length : Int)
set_option maxHeartbeats 8000000 in
set_option maxRecDepth 100000 in
theorem reckonerref01_Short.calls (k : Nat) (P0_ : Nat → Prop) (A0 : Option Addr) (c0 : Nat) (l0 : List Int) (r : List Int) (w : World) (hs0 : Kd.V (Kd.int .u64) 33 w w.heap.size (fun k_ => P0_ k_) (.slice A0 l0.length c0) l0) (h : reckonerref01_Short.f k l0 = some r) :
  Calls Try.prog 86 #[.slice A0 l0.length c0] w fun e w' => ∃ v0_ : Value, e = .returned (v0_) ∧ Kd.V (Kd.int .u64) 33 w' w.heap.size (fun k_ => (P0_ k_ ∨ w.heap.size ≤ k_)) v0_ r ∧ Below w.heap.size w w' := by
 have HO0 := Aside0.mk (show Kd.V (Kd.int .u64) 33 w w.heap.size (fun k_ => (P0_ k_ ∨ w.heap.size ≤ k_)) (.slice A0 l0.length c0) l0 from Kd.V_mono hs0 (fun k_ hk => .inl hk))
 have HB := Aside0.mk (Below.refl w.heap.size w)
 have H : (reckonerref01_Short.l0 k l0 (l0.length : Int)) = some r := h
 clear h
 have H' := Aside0.mk H
 clear H
 go_enter Try.func86, Try.ntmps86
 go_wp2
 go_loopg [3] k (fun kq v3 w' => ∃ (x3_1 : Int), v3 = .int .i64 x3_1 ∧ Aside0 (reckonerref01_Short.l0 kq l0 x3_1 = some r) ∧ Aside0 (kq ≤ k) ∧ Aside0 (Kd.V (Kd.int .u64) 33 w' w.heap.size (fun k_ => (P0_ k_ ∨ w.heap.size ≤ k_)) (.slice A0 l0.length c0) l0) ∧ Aside0 (Below w.heap.size w w'))
 case atStart => exact ⟨((l0.length : Int)), (by first | rfl | (simp; done) | (simp [*]; done)), H', ⟨Nat.le_refl _⟩, ⟨by (with_reducible repeat (first | apply Kd.V_alloc | apply Kd.V_drewN | apply Kd.V_drew)); exact HO0.out⟩, ⟨by repeat (first | (with_reducible first | exact HB.out | apply below_alloc | apply pw_below_drewN | apply below_drew1) | exact HB.out)⟩⟩
 case round =>
  clear H'
  obtain ⟨x3_1, rfl, HA, HK1, HO_0, HB⟩ := hrel
  cases gk with
  | zero => exact absurd HA.out (by simp [reckonerref01_Short.l0])
  | succ k1 =>
   have H := HA.out
   clear HA
   simp only [reckonerref01_Short.l0] at H
   by_cases c2 : x3_1 > 0
   ·rw [if_pos c2] at H
    have c2b0 : decide (0 < x3_1) = true := decide_eq_true c2
    clear c2
    obtain ⟨ji3, hji3⟩ : ∃ j_ : Int, (wrap64 (x3_1 - 1)) = j_ := ⟨_, rfl⟩
    replace H : (if 0 ≤ (ji3) then (if (ji3) < (l0.length : Int) then (if (rd l0 (ji3)) = 0 then (reckonerref01_Short.l0 k1 l0 ji3) else (if 0 ≤ x3_1 then (if x3_1 ≤ (l0.length : Int) then (some (l0.take (x3_1 : Int).toNat)) else (none)) else (none))) else (none)) else (none)) = some r := by first | (rw [hji3] at H; exact H) | (simp only [hji3] at H ⊢; exact H)
    have hji3w : (IntKind.i64.wrap (x3_1 - 1)) = ji3 := (i64_w _).trans hji3
    by_cases c4 : 0 ≤ (ji3)
    ·rw [if_pos c4] at H
     have c4b0 : decide (0 ≤ (ji3)) = true := decide_eq_true c4
     clear c4
     by_cases c5 : (ji3) < (l0.length : Int)
     ·rw [if_pos c5] at H
      have c5b0 : decide ((ji3) < (l0.length : Int)) = true := decide_eq_true c5
      clear c5
      by_cases c6 : (rd l0 (ji3)) = 0
      ·rw [if_pos c6] at H
       have c6b0 : ((rd l0 (ji3)) == 0) = true := beq_iff_eq.mpr c6
       have c6b1 : ((rd l0 (ji3)) != 0) = false := bne_eq_false_iff_eq.mpr c6
       clear c6
       have H' := Aside0.mk H
       clear H
       have p117 : 0 ≤ ((ji3) : Int) := of_decide_eq_true (by first | (with_reducible assumption) | assumption)
       have q117 : (ji3) < (l0.length : Int) := of_decide_eq_true (by first | (with_reducible assumption) | assumption)
       obtain ⟨ad117, e117, hx117_0⟩ := Kd.at_int (Kd.V_reads' HO_0.out).2.2 (ji3) p117 q117
       cases e117
       replace p117 := eq_true p117
       replace q117 := eq_true q117
       go_wp2
       go_roundg k1
       case measure => have := HK1.out; omega
       case rel => exact ⟨(ji3), (by first | rfl | (simp; done) | (simp only [← hji3] <;> (first | rfl | simp)) | (simp [*]; done)), H', ⟨by have := HK1.out; omega⟩, ⟨by (with_reducible repeat (first | apply Kd.V_alloc | apply Kd.V_drewN | apply Kd.V_drew)); exact HO_0.out⟩, ⟨by repeat (first | (with_reducible first | exact HB.out | apply below_alloc | apply pw_below_drewN | apply below_drew1) | exact HB.out)⟩⟩
      ·rw [if_neg c6] at H
       have c6b0 : ((rd l0 (ji3)) == 0) = false := beq_eq_false_iff_ne.mpr c6
       have c6b1 : ((rd l0 (ji3)) != 0) = true := bne_iff_ne.mpr c6
       by_cases c7 : 0 ≤ x3_1
       ·rw [if_pos c7] at H
        have c7b0 := eq_true c7
        have c7b1 : decide (0 ≤ x3_1) = true := decide_eq_true c7
        clear c7
        by_cases c8 : x3_1 ≤ (l0.length : Int)
        ·rw [if_pos c8] at H
         have c8b0 := eq_true c8
         have c8b1 : decide (x3_1 ≤ (l0.length : Int)) = true := decide_eq_true c8
         clear c8
         obtain ⟨y118, hy118⟩ : ∃ y_ : List Int, y_ = (l0.take (x3_1 : Int).toNat) := ⟨_, rfl⟩
         replace H : (some y118) = some r := by first | (rw [hy118]; with_reducible exact H) | (have H2_ := (Option.bind_some _ _).symm.trans H; rw [hy118]; with_reducible exact H2_) | (have H2_ := (Option.bind_some _ _).symm.trans H; with_reducible exact H2_) | with_reducible exact H | (rw [hy118]; exact H) | exact H
         have Ny118 := Aside0.mk hy118
         clear hy118
         obtain rfl := Option.some.inj H
         have p117 : 0 ≤ ((ji3) : Int) := of_decide_eq_true (by first | (with_reducible assumption) | assumption)
         have q117 : (ji3) < (l0.length : Int) := of_decide_eq_true (by first | (with_reducible assumption) | assumption)
         obtain ⟨ad117, e117, hx117_0⟩ := Kd.at_int (Kd.V_reads' HO_0.out).2.2 (ji3) p117 q117
         cases e117
         replace p117 := eq_true p117
         replace q117 := eq_true q117
         have q9 : (x3_1 : Int) ≤ ((l0.length : Int) : Int) := of_decide_eq_true (by first | (with_reducible assumption) | assumption)
         obtain ⟨i09, hi09, _, hsz9, _⟩ := info_parts info33
         have hroom9 : l0.length ≤ c0 := (Kd.V_reads' HO_0.out).2.1
         have hC9 : Kd.F (Kd.int .u64) _ _ (some ad117) l0.length l0 := (Kd.V_at (base := w.heap.size) HO_0.out).2.2
         have hcut9 := cut_to (P := Try.prog) 22 33 .i64 Try.underlying22 hi09 (some ad117) l0.length c0 x3_1 (of_decide_eq_true (by first | (with_reducible assumption) | assumption)) q9 hroom9
         have hr9 := Kd.F_take (m := (x3_1 : Int).toNat) hC9 (by omega)
         have hy9 : y118.length = (x3_1 : Int).toNat := (by rw [Ny118.out, List.length_take]; omega)
         rw [← Ny118.out] at hr9
         rw [← hy9] at hcut9
         have HO122 := Aside0.mk (show Kd.V (Kd.int .u64) 33 _ w.heap.size _ (.slice (some ad117) y118.length c0) y118 from Kd.V_mk (by omega) hr9)
         have HC122 := Aside0.mk (show y118.length ≤ c0 from by omega)
         clear hr9 hC9 hroom9 hi09 hsz9
         have KY9 := Aside0.mk hy9
         clear hy9
         replace q9 := eq_true q9
         go_wp2
         go_ret
         exact ⟨_, by first | rfl | (simp [errW_none, errW_some] <;> rfl) | (simp only [← hji3]; first | rfl | (simp [errW_none, errW_some] <;> rfl)) | (simp [*, errW_none, errW_some] <;> rfl), by (with_reducible repeat (first | apply Kd.V_alloc | apply Kd.V_drewN | apply Kd.V_drew)); exact HO122.out, by repeat (first | (with_reducible first | exact HB.out | apply below_alloc | apply pw_below_drewN | apply below_drew1) | exact HB.out)⟩
        ·rw [if_neg c8] at H
         exact absurd H (by simp)
       ·rw [if_neg c7] at H
        exact absurd H (by simp)
     ·rw [if_neg c5] at H
      exact absurd H (by simp)
    ·rw [if_neg c4] at H
     exact absurd H (by simp)
   ·rw [if_neg c2] at H
    have c2b0 : decide (0 < x3_1) = false := decide_eq_false c2
    clear c2
    by_cases c10 : 0 ≤ x3_1
    ·rw [if_pos c10] at H
     have c10b0 := eq_true c10
     have c10b1 : decide (0 ≤ x3_1) = true := decide_eq_true c10
     clear c10
     by_cases c11 : x3_1 ≤ (l0.length : Int)
     ·rw [if_pos c11] at H
      have c11b0 := eq_true c11
      have c11b1 : decide (x3_1 ≤ (l0.length : Int)) = true := decide_eq_true c11
      clear c11
      obtain ⟨y123, hy123⟩ : ∃ y_ : List Int, y_ = (l0.take (x3_1 : Int).toNat) := ⟨_, rfl⟩
      replace H : (some y123) = some r := by first | (rw [hy123]; with_reducible exact H) | (have H2_ := (Option.bind_some _ _).symm.trans H; rw [hy123]; with_reducible exact H2_) | (have H2_ := (Option.bind_some _ _).symm.trans H; with_reducible exact H2_) | with_reducible exact H | (rw [hy123]; exact H) | exact H
      have Ny123 := Aside0.mk hy123
      clear hy123
      obtain rfl := Option.some.inj H
      have q12 : (x3_1 : Int) ≤ ((l0.length : Int) : Int) := of_decide_eq_true (by first | (with_reducible assumption) | assumption)
      obtain ⟨i012, hi012, _, hsz12, _⟩ := info_parts info33
      have hroom12 : l0.length ≤ c0 := (Kd.V_reads' HO_0.out).2.1
      have hC12 : Kd.F (Kd.int .u64) _ _ A0 l0.length l0 := (Kd.V_at (base := w.heap.size) HO_0.out).2.2
      have hcut12 := cut_to (P := Try.prog) 22 33 .i64 Try.underlying22 hi012 A0 l0.length c0 x3_1 (of_decide_eq_true (by first | (with_reducible assumption) | assumption)) q12 hroom12
      have hr12 := Kd.F_take (m := (x3_1 : Int).toNat) hC12 (by omega)
      have hy12 : y123.length = (x3_1 : Int).toNat := (by rw [Ny123.out, List.length_take]; omega)
      rw [← Ny123.out] at hr12
      rw [← hy12] at hcut12
      have HO127 := Aside0.mk (show Kd.V (Kd.int .u64) 33 _ w.heap.size _ (.slice A0 y123.length c0) y123 from Kd.V_mk (by omega) hr12)
      have HC127 := Aside0.mk (show y123.length ≤ c0 from by omega)
      clear hr12 hC12 hroom12 hi012 hsz12
      have KY12 := Aside0.mk hy12
      clear hy12
      replace q12 := eq_true q12
      go_wp2
      go_ret
      exact ⟨_, by first | rfl | (simp [errW_none, errW_some] <;> rfl) | (simp [*, errW_none, errW_some] <;> rfl), by (with_reducible repeat (first | apply Kd.V_alloc | apply Kd.V_drewN | apply Kd.V_drew)); exact HO127.out, by repeat (first | (with_reducible first | exact HB.out | apply below_alloc | apply pw_below_drewN | apply below_drew1) | exact HB.out)⟩
     ·rw [if_neg c11] at H
      exact absurd H (by simp)
    ·rw [if_neg c10] at H
     exact absurd H (by simp)
end Go.Proofs.Ytkkkbalefnileaa.T
-- PRINTED by print.py (a twelfth state) out of the translation. Not trusted: Lean checks it.
namespace Go.Proofs.Ytkkkbalefnileaa.T
open Go.RowKit Go.Proofs.YtkkkbalefnileaaW.PrintWords Go.Proofs.YtkkkbalefnileaaW.PrintLast Go.Proofs.YtkkkbalefnileaaW.PrintMore
attribute [local go_sem] max2_int min2_int max_two min_two max_three min_three max_four min_four   -- for this text's walks alone
open Ytkkkbalefnileaa.Ex
set_option linter.unusedVariables false
set_option linter.unusedSimpArgs false

/-! ### reckonerref01_Row: function 103 -/
def reckonerref01_Row.l0 : Nat → List Int → List Int → Int → Option (List Int)
  | 0, _, _, _ => none
  | k + 1, x0, x3, x4 => if (wrap64 (x4 + 1)) < (x0.length : Int) then (if 0 ≤ x4 then (if x4 < (x0.length : Int) then (if 0 ≤ (wrap64 (x4 + 1)) then (if x3.length < 17592186044416 then (reckonerref01_Row.l0 k x0 (x3 ++ [IntKind.u64.wrap ((rd x0 x4) + (IntKind.u64.wrap ((rd x0 (wrap64 (x4 + 1))) * 4294967296)))]) (wrap64 (x4 + 2))) else (none)) else (none)) else (none)) else (none)) else (some x3)
def reckonerref01_Row.f (k : Nat) (l0 : List Int) : Option (List Int) := reckonerref01_Row.l0 k l0 ([] : List Int) 0
def reckonerref01_Row.T5 : Bool × List (List Nat × List Nat) := (true, [([], []), ([], []), ([], []), ([1, 2], [1, 2]), ([3], [3]), ([], []), ([], []), ([6], [6]), ([5, 7], [5, 7]), ([8], [8]), ([9], [9]), ([4, 10], [4, 10]), ([11], [11]), ([0, 12], [0, 12]), ([13, 13, 0, 1, 2, 3, 4, 5, 6, 7, 8, 9, 10, 11, 12, 13], [0, 13])])
def reckonerref01_Row.B5 : List Nat := [0, 0, 0, 6, 14, 0, 0, 64, 224, 480, 992, 2046, 4094, 8191, 16383]
theorem reckonerref01_Row.tab5 : rtab .any (opsOf Try.f103 5) = reckonerref01_Row.T5 := by kernel_rfl
theorem reckonerref01_Row.bits5 : waitsOk reckonerref01_Row.T5.2 reckonerref01_Row.B5 = true := by kernel_rfl
set_option maxHeartbeats 8000000 in
set_option maxRecDepth 100000 in
theorem reckonerref01_Row.calls (k : Nat) (A0 : Option Addr) (c0 : Nat) (l0 : List Int) (r : List Int) (w : World) (hr0 : Kd.C (Kd.int .u64) w A0 l0.length l0) (hc0 : l0.length ≤ c0) (h : reckonerref01_Row.f k l0 = some r) :
  Calls Try.prog 103 #[.slice A0 l0.length c0] w fun e w' => ∃ v0_ : Value, e = .returned (v0_) ∧ Kd.R (Kd.int .u64) 33 w' w.heap.size (fun _ => True) v0_ r ∧ Below w.heap.size w w' := by
 have HR0 := Aside0.mk hr0
 have HC0 := Aside0.mk hc0
 clear hr0 hc0
 have HB := Aside0.mk (Below.refl w.heap.size w)
 have H : (reckonerref01_Row.l0 k l0 ([] : List Int) 0) = some r := h
 clear h
 have H' := Aside0.mk H
 clear H
 go_enter Try.func103, Try.ntmps103
 try simp only [List.append]
 go_wp2
 go_loopg [3, 4] k (fun kq v3 v4 w' => ∃ (x3_1 : List Int) (x4_1 : Int), v4 = .int .i64 x4_1 ∧ Aside0 (reckonerref01_Row.l0 kq l0 x3_1 x4_1 = some r) ∧ Aside0 (kq ≤ k) ∧ Aside0 (Kd.R (Kd.int .u64) 33 w' w.heap.size (fun _ => True) v3 x3_1) ∧ Aside0 (Below w.heap.size w w'))
 case atStart => exact ⟨(([] : List Int)), (0), (by first | rfl | (simp; done) | (simp [*]; done)), H', ⟨Nat.le_refl _⟩, ⟨by first | exact Kd.R_nil _ _ _ _ _ | exact Kd.N_nil _ _ _ _ _ | exact Kd.V_nil _ _ _ _ _ | exact Kd.Q_nil _ _ _ _ _ | exact Kd.S_nil _ _ _ _ _⟩, ⟨by repeat (first | (with_reducible first | exact HB.out | apply below_alloc | apply pw_below_drewN | apply below_drew1) | exact HB.out)⟩⟩
 case round =>
  clear H'
  try clear c1
  obtain ⟨x3_1, x4_1, rfl, HA, HK1, HO_3, HB⟩ := hrel
  cases gk with
  | zero => exact absurd HA.out (by simp [reckonerref01_Row.l0])
  | succ k1 =>
   have H := HA.out
   clear HA
   simp only [reckonerref01_Row.l0] at H
   by_cases c2 : (wrap64 (x4_1 + 1)) < (l0.length : Int)
   ·rw [if_pos c2] at H
    have c2b0 : decide ((wrap64 (x4_1 + 1)) < (l0.length : Int)) = true := decide_eq_true c2
    clear c2
    by_cases c3 : 0 ≤ x4_1
    ·rw [if_pos c3] at H
     have c3b0 : decide (0 ≤ x4_1) = true := decide_eq_true c3
     clear c3
     by_cases c4 : x4_1 < (l0.length : Int)
     ·rw [if_pos c4] at H
      have c4b0 : decide (x4_1 < (l0.length : Int)) = true := decide_eq_true c4
      clear c4
      obtain ⟨ji5, hji5⟩ : ∃ j_ : Int, (wrap64 (x4_1 + 1)) = j_ := ⟨_, rfl⟩
      replace H : (if 0 ≤ (ji5) then (if x3_1.length < 17592186044416 then (reckonerref01_Row.l0 k1 l0 (x3_1 ++ [IntKind.u64.wrap ((rd l0 x4_1) + (IntKind.u64.wrap ((rd l0 (ji5)) * 4294967296)))]) (wrap64 (x4_1 + 2))) else (none)) else (none)) = some r := by first | (rw [hji5] at H; exact H) | (simp only [hji5] at H ⊢; exact H)
      (try rw [hji5] at c2b0)
      have hji5w : (IntKind.i64.wrap (x4_1 + 1)) = ji5 := (i64_w _).trans hji5
      by_cases c6 : 0 ≤ (ji5)
      ·rw [if_pos c6] at H
       have c6b0 : decide (0 ≤ (ji5)) = true := decide_eq_true c6
       clear c6
       by_cases c7 : x3_1.length < 17592186044416
       ·rw [if_pos c7] at H
        have LMc7 := Aside0.mk c7
        clear c7
        obtain ⟨y130, hy130⟩ : ∃ y_ : List Int, y_ = (x3_1 ++ [IntKind.u64.wrap ((rd l0 x4_1) + (IntKind.u64.wrap ((rd l0 (ji5)) * 4294967296)))]) := ⟨_, rfl⟩
        replace H : (reckonerref01_Row.l0 k1 l0 y130 (wrap64 (x4_1 + 2))) = some r := by first | (rw [hy130]; with_reducible exact H) | (have H2_ := (Option.bind_some _ _).symm.trans H; rw [hy130]; with_reducible exact H2_) | (have H2_ := (Option.bind_some _ _).symm.trans H; with_reducible exact H2_) | with_reducible exact H | (rw [hy130]; exact H) | exact H
        have Ny130 := Aside0.mk hy130
        clear hy130
        have H' := Aside0.mk H
        clear H
        try go_wp2
        have n0_ := Aside0.mk (Kd.R_drew HO_3.out)
        have n1_ := Aside0.mk (below_drew1 HB.out)
        clear HO_3
        clear HB
        have HO_3 := n0_
        have HB := n1_
        clear n0_ n1_
        have p128 : 0 ≤ (x4_1 : Int) := of_decide_eq_true (by first | (with_reducible assumption) | assumption)
        have q128 : x4_1 < (l0.length : Int) := of_decide_eq_true (by first | (with_reducible assumption) | assumption)
        obtain ⟨ad128, e128, hx128_0⟩ := Kd.at_int HR0.out x4_1 p128 q128
        have hw128_0 := hx128_0
        cases e128
        replace hx128_0 := (HB.out.cell (World.block_lt_of_cell? w _ hx128_0)).trans hx128_0
        replace p128 := eq_true p128
        replace q128 := eq_true q128
        have p129 : 0 ≤ ((ji5) : Int) := of_decide_eq_true (by first | (with_reducible assumption) | assumption)
        have q129 : (ji5) < (l0.length : Int) := of_decide_eq_true (by first | (with_reducible assumption) | assumption)
        obtain ⟨ad129, e129, hx129_0⟩ := Kd.at_int HR0.out (ji5) p129 q129
        have hw129_0 := hx129_0
        obtain rfl : ad128 = ad129 := (by injection e129)
        replace hx129_0 := (HB.out.cell (World.block_lt_of_cell? w _ hx129_0)).trans hx129_0
        replace p129 := eq_true p129
        replace q129 := eq_true q129
        refine start_ (n := 15) (S := fun w' => w'.cell? (ad128.add (x4_1).toNat) = some (.int .u64 (rd l0 x4_1)) ∧ w'.cell? (ad128.add ((ji5)).toNat) = some (.int .u64 (rd l0 (ji5)))) (ds := []) #[false, false, false, false, false, false, false, false, false, false, false, false, false, false, false] (by kernel_rfl) rfl rfl ⟨((HB.out.cell (World.block_lt_of_cell? w _ hw128_0)).trans hw128_0), ((HB.out.cell (World.block_lt_of_cell? w _ hw129_0)).trans hw129_0)⟩ (fun hHeld => ?_); refine with_tabW reckonerref01_Row.tab5 reckonerref01_Row.bits5 (fun HT_ HW_ => ?_)
        generalize wr.drew = w8 at HO_3 HB hx128_0 hx129_0 hHeld ⊢
        refine pure_ (i := 0) (N := some 12) (v := ?_) (a' := ?_) #[true, false, false, false, false, false, false, false, false, false, false, false, false, false, false] rfl rfl (any_of HT_.out (by kernel_rfl)) (fun _ _ _ h => h) (Or.inl ⟨by rfl, ?_⟩) ?_ ?_
        rotate_left
        ·intro w'
         go_simp
         with_reducible rfl
        rotate_left
        ·simp only [Act.put, List.setIfInBounds_toArray, List.set_cons_zero, List.set_cons_succ, i64_w, i32_w]
         rfl
        refine pure_ (i := 1) (N := some 13) (v := ?_) (a' := ?_) #[true, true, false, false, false, false, false, false, false, false, false, false, false, false, false] rfl rfl (any_of HT_.out (by kernel_rfl)) (fun _ _ _ h => h) (Or.inl ⟨by rfl, ?_⟩) ?_ ?_
        rotate_left
        ·intro w'
         go_simp
         with_reducible rfl
        rotate_left
        ·simp only [Act.put, List.setIfInBounds_toArray, List.set_cons_zero, List.set_cons_succ, i64_w, i32_w]
         rfl
        refine pure_ (i := 2) (N := some 14) (v := ?_) (a' := ?_) #[true, true, true, false, false, false, false, false, false, false, false, false, false, false, false] rfl rfl (any_of HT_.out (by kernel_rfl)) (fun _ _ _ h => h) (Or.inl ⟨by rfl, ?_⟩) ?_ ?_
        rotate_left
        ·intro w'
         go_simp
         with_reducible rfl
        rotate_left
        ·simp only [Act.put, List.setIfInBounds_toArray, List.set_cons_zero, List.set_cons_succ, i64_w, i32_w]
         rfl
        refine pure_ (i := 3) (N := some 15) (v := ?_) (a' := ?_) #[true, true, true, true, false, false, false, false, false, false, false, false, false, false, false] rfl rfl (any_of HT_.out (by kernel_rfl)) (fun _ _ _ h => h) (Or.inl ⟨by rfl, ?_⟩) ?_ ?_
        rotate_left
        ·intro w'
         go_simp
         with_reducible rfl
        rotate_left
        ·simp only [Act.put, List.setIfInBounds_toArray, List.set_cons_zero, List.set_cons_succ, i64_w, i32_w]
         rfl
        refine pure_ (i := 5) (N := some 17) (v := ?_) (a' := ?_) #[true, true, true, true, false, true, false, false, false, false, false, false, false, false, false] rfl rfl (any_of HT_.out (by kernel_rfl)) (fun _ _ _ h => h) (Or.inl ⟨by rfl, ?_⟩) ?_ ?_
        rotate_left
        ·intro w'
         go_simp
         with_reducible rfl
        rotate_left
        ·simp only [Act.put, List.setIfInBounds_toArray, List.set_cons_zero, List.set_cons_succ, i64_w, i32_w]
         rfl
        refine pure_ (i := 6) (N := some 18) (v := ?_) (a' := ?_) #[true, true, true, true, false, true, true, false, false, false, false, false, false, false, false] rfl rfl (any_of HT_.out (by kernel_rfl)) (fun _ _ _ h => h) (Or.inl ⟨by rfl, ?_⟩) ?_ ?_
        rotate_left
        ·intro w'
         go_simp
         with_reducible rfl
        rotate_left
        ·simp only [Act.put, List.setIfInBounds_toArray, List.set_cons_zero, List.set_cons_succ, i64_w, i32_w]
         rfl
        refine pure_ (i := 7) (N := some 19) (v := ?_) (a' := ?_) #[true, true, true, true, false, true, true, true, false, false, false, false, false, false, false] rfl rfl (any_of HT_.out (by kernel_rfl)) (fun _ _ _ h => h) (Or.inl ⟨by rfl, ?_⟩) ?_ ?_
        rotate_left
        ·intro w'
         go_simp
         with_reducible rfl
        rotate_left
        ·simp only [Act.put, List.setIfInBounds_toArray, List.set_cons_zero, List.set_cons_succ, i64_w, i32_w]
         rfl
        refine pure_ (i := 8) (N := some 20) (v := ?_) (a' := ?_) #[true, true, true, true, false, true, true, true, true, false, false, false, false, false, false] rfl rfl (any_of HT_.out (by kernel_rfl)) (fun _ _ _ h => h) (Or.inl ⟨by rfl, ?_⟩) ?_ ?_
        rotate_left
        ·intro w'
         go_simp
         with_reducible rfl
        rotate_left
        ·simp only [Act.put, List.setIfInBounds_toArray, List.set_cons_zero, List.set_cons_succ, i64_w, i32_w]
         rfl
        refine take_ (i := 4) (N := some 16) (v := ?_) (a' := ?_) #[true, true, true, true, true, true, true, true, true, false, false, false, false, false, false] rfl rfl (take_ofW HT_.out HW_.out (by kernel_rfl)) (fun _ _ _ h => h) (Or.inl ⟨by rfl, ?_⟩) hHeld ?_ ?_
        rotate_left
        ·rintro w' ⟨s0, s1⟩
         go_simp
         with_reducible rfl
        rotate_left
        ·simp only [Act.put, List.setIfInBounds_toArray, List.set_cons_zero, List.set_cons_succ, i64_w, i32_w]
         rfl
        refine take_ (i := 9) (N := some 21) (v := ?_) (a' := ?_) #[true, true, true, true, true, true, true, true, true, true, false, false, false, false, false] rfl rfl (take_ofW HT_.out HW_.out (by kernel_rfl)) (fun _ _ _ h => h) (Or.inl ⟨by rfl, ?_⟩) hHeld ?_ ?_
        rotate_left
        ·rintro w' ⟨s0, s1⟩
         go_simp
         with_reducible rfl
        rotate_left
        ·simp only [Act.put, List.setIfInBounds_toArray, List.set_cons_zero, List.set_cons_succ, i64_w, i32_w]
         rfl
        refine pure_ (i := 10) (N := some 22) (v := ?_) (a' := ?_) #[true, true, true, true, true, true, true, true, true, true, true, false, false, false, false] rfl rfl (any_of HT_.out (by kernel_rfl)) (fun _ _ _ h => h) (Or.inl ⟨by rfl, ?_⟩) ?_ ?_
        rotate_left
        ·intro w'
         go_simp
         with_reducible rfl
        rotate_left
        ·simp only [Act.put, List.setIfInBounds_toArray, List.set_cons_zero, List.set_cons_succ, i64_w, i32_w]
         rfl
        refine pure_ (i := 11) (N := some 23) (v := ?_) (a' := ?_) #[true, true, true, true, true, true, true, true, true, true, true, true, false, false, false] rfl rfl (any_of HT_.out (by kernel_rfl)) (fun _ _ _ h => h) (Or.inl ⟨by rfl, ?_⟩) ?_ ?_
        rotate_left
        ·intro w'
         go_simp
         with_reducible rfl
        rotate_left
        ·simp only [Act.put, List.setIfInBounds_toArray, List.set_cons_zero, List.set_cons_succ, i64_w, i32_w]
         rfl
        refine one_ (i := 12) (N := some 24) #[true, true, true, true, true, true, true, true, true, true, true, true, true, false, false] rfl rfl (one_of HT_.out (by kernel_rfl)) (by decide) (fun K hK => ?_)
        refine value_ (w1 := ?_) (v := ?_) (by rfl) rfl ?_ ?_
        rotate_left 2
        ·go_simp
         constructor
         ·rfl
         ·rfl
        refine hK.out _ _ ⟨(World.cell?_alloc_lt _ _ _ (World.block_lt_of_cell? _ _ (((HB.out.cell (World.block_lt_of_cell? w _ hw128_0)).trans hw128_0)))).trans (((HB.out.cell (World.block_lt_of_cell? w _ hw128_0)).trans hw128_0)), (World.cell?_alloc_lt _ _ _ (World.block_lt_of_cell? _ _ (((HB.out.cell (World.block_lt_of_cell? w _ hw129_0)).trans hw129_0)))).trans (((HB.out.cell (World.block_lt_of_cell? w _ hw129_0)).trans hw129_0))⟩ (fun hHeld => ?_)
        clear hK K
        refine norm_ (a' := ?_) ?_ ?_
        rotate_left
        ·show Act.put _ (some 24) _ = _
         simp only [Act.put, List.setIfInBounds_toArray, List.set_cons_zero, List.set_cons_succ, i64_w, i32_w]
         rfl
        refine one_ (i := 13) (N := some 25) #[true, true, true, true, true, true, true, true, true, true, true, true, true, true, false] rfl rfl (one_of HT_.out (by kernel_rfl)) (by decide) (fun K hK => ?_)
        refine Kd.R_append_step (Kd.int .u64) (w0 := w) w.heap.size (by rfl) (.tmp 12) (.tmp 24) 22 33 (.int .u64 0) 8 rfl Try.underlying22 info33 rfl (by decide) (by omega) u3 x3_1 (IntKind.u64.wrap ((rd l0 x4_1) + (IntKind.u64.wrap ((rd l0 (ji5)) * 4294967296)))) [.int .u64 (IntKind.u64.wrap ((rd l0 x4_1) + (IntKind.u64.wrap ((rd l0 (ji5)) * 4294967296))))] (fun _ => True) (fun _ => False) rfl rfl ?aP (fun _ hk => hk.elim) ?aF ?aO ?aB ?aS ?aL ?_
        (case aP => exact rfl)
        (case aB => exact (by repeat (first | (with_reducible first | exact HB.out | apply below_alloc | apply pw_below_drewN | apply below_drew1) | exact HB.out)))
        (case aF => exact (fun _ _ => trivial))
        (case aO => exact (by (with_reducible repeat (first | apply Kd.R_alloc | apply Kd.R_drewN | apply Kd.R_drew)); exact HO_3.out))
        (case aS => exact (below_size (by repeat (first | (with_reducible first | exact HB.out | apply below_alloc | apply pw_below_drewN | apply below_drew1) | exact HB.out))))
        (case aL => have := LMc7.out; omega)
        intro v131 w9 ho hb hg hat
        rw [← Ny130.out] at ho
        have n0_ := Aside0.mk (hb)
        have n1_ := Aside0.mk (ho)
        clear HB
        clear HO_3
        have HB := n0_
        have HO132 := n1_
        clear n0_ n1_
        clear ho hb hg hat
        refine hK.out _ _ ⟨((HB.out.cell (World.block_lt_of_cell? w _ hw128_0)).trans hw128_0), ((HB.out.cell (World.block_lt_of_cell? w _ hw129_0)).trans hw129_0)⟩ (fun hHeld => ?_)
        clear hK K
        refine norm_ (a' := ?_) ?_ ?_
        rotate_left
        ·show Act.put _ (some 25) _ = _
         simp only [Act.put, List.setIfInBounds_toArray, List.set_cons_zero, List.set_cons_succ, i64_w, i32_w]
         rfl
        refine pure_ (i := 14) (N := some 3) (v := ?_) (a' := ?_) #[true, true, true, true, true, true, true, true, true, true, true, true, true, true, true] rfl rfl (any_of HT_.out (by kernel_rfl)) (fun _ _ _ h => h) (Or.inl ⟨by rfl, ?_⟩) ?_ ?_
        rotate_left
        ·intro w'
         go_simp
         with_reducible rfl
        rotate_left
        ·simp only [Act.put, List.setIfInBounds_toArray, List.set_cons_zero, List.set_cons_succ, i64_w, i32_w]
         rfl
        refine done_ (done_of HT_.out (by kernel_rfl)) ?_
        try go_wp2
        go_roundg k1
        case measure => have := HK1.out; omega
        case rel => exact ⟨(y130), (wrap64 (x4_1 + 2)), (by first | rfl | (simp; done) | (simp [*]; done)), H', ⟨by have := HK1.out; omega⟩, ⟨by (with_reducible repeat (first | apply Kd.R_alloc | apply Kd.R_drewN | apply Kd.R_drew)); exact HO132.out⟩, ⟨by repeat (first | (with_reducible first | exact HB.out | apply below_alloc | apply pw_below_drewN | apply below_drew1) | exact HB.out)⟩⟩
       ·rw [if_neg c7] at H
        exact absurd H (by simp)
      ·rw [if_neg c6] at H
       exact absurd H (by simp)
     ·rw [if_neg c4] at H
      exact absurd H (by simp)
    ·rw [if_neg c3] at H
     exact absurd H (by simp)
   ·rw [if_neg c2] at H
    have c2b0 : decide ((wrap64 (x4_1 + 1)) < (l0.length : Int)) = false := decide_eq_false c2
    clear c2
    obtain rfl := Option.some.inj H
    go_wp2
    go_ret
    exact ⟨_, by first | rfl | (simp [errW_none, errW_some] <;> rfl) | (simp [*, errW_none, errW_some] <;> rfl), by (with_reducible repeat (first | apply Kd.R_alloc | apply Kd.R_drewN | apply Kd.R_drew)); exact HO_3.out, by repeat (first | (with_reducible first | exact HB.out | apply below_alloc | apply pw_below_drewN | apply below_drew1) | exact HB.out)⟩
/-! ### reckonerref01_Cut: function 88 -/
def reckonerref01_Cut.l0 : Nat → Int → List Int → Option (List Int × Int)
  | 0, _, _ => none
  | k + 1, x1, x6 => if (x6.length : Int) < (wrap64 ((wrap64 (2 * x1)) + 2)) then (if x6.length < 17592186044416 then (reckonerref01_Cut.l0 k x1 (x6 ++ [0])) else (none)) else (if 0 ≤ (wrap64 (2 * x1)) then (if (wrap64 (2 * x1)) ≤ (x6.length : Int) then ((reckonerref01_Row.f k (x6.take ((wrap64 (2 * x1)) : Int).toNat)).bind fun t143 => (if (wrap64 (2 * x1)) < (x6.length : Int) then (if 0 ≤ (wrap64 ((wrap64 (2 * x1)) + 1)) then (if (wrap64 ((wrap64 (2 * x1)) + 1)) < (x6.length : Int) then (some (t143, IntKind.u64.wrap ((rd x6 (wrap64 (2 * x1))) + (IntKind.u64.wrap ((rd x6 (wrap64 ((wrap64 (2 * x1)) + 1))) * 4294967296))))) else (none)) else (none)) else (none))) else (none)) else (none))
def reckonerref01_Cut.f (k : Nat) (l0 : List Int) (a1 : Int) : Option (List Int × Int) := if ([] : List Int).length + l0.length < 17592186044416 then (reckonerref01_Cut.l0 k a1 (([] : List Int) ++ l0)) else (none)
def reckonerref01_Cut.T5 : Bool × List (List Nat × List Nat) := (true, [([], []), ([], []), ([1], [1]), ([0, 2], [0, 2]), ([3], [3]), ([], []), ([], []), ([6], [6]), ([5, 7], [5, 7]), ([8], [8]), ([], []), ([], []), ([11], [11]), ([12], [12]), ([10, 13], [10, 13]), ([14], [14]), ([15], [15]), ([9, 16], [9, 16]), ([4, 4, 0, 1, 2, 3, 4], [4]), ([17, 18, 0, 1, 2, 3, 4, 5, 6, 7, 8, 9, 10, 11, 12, 13, 14, 15, 16, 17, 18], [17])])
def reckonerref01_Cut.B5 : List Nat := [0, 0, 2, 7, 15, 0, 0, 64, 224, 480, 0, 0, 2048, 6144, 15360, 31744, 64512, 131040, 31, 524287]
theorem reckonerref01_Cut.tab5 : rtab .any (opsOf Try.f88 5) = reckonerref01_Cut.T5 := by kernel_rfl
theorem reckonerref01_Cut.bits5 : waitsOk reckonerref01_Cut.T5.2 reckonerref01_Cut.B5 = true := by kernel_rfl
set_option maxHeartbeats 8000000 in
set_option maxRecDepth 100000 in
theorem reckonerref01_Cut.calls (k : Nat) (A0 : Option Addr) (c0 : Nat) (l0 : List Int) (a1 : Int) (r1 : List Int) (r2 : Int) (w : World) (hr0 : Kd.C (Kd.int .u64) w A0 l0.length l0) (hc0 : l0.length ≤ c0) (h : reckonerref01_Cut.f k l0 a1 = some (r1, r2)) :
  Calls Try.prog 88 #[.slice A0 l0.length c0, .int .i64 a1] w fun e w' => ∃ v0_ : Value, e = .returned (.tuple #[v0_, .int .u64 r2]) ∧ Kd.R (Kd.int .u64) 33 w' w.heap.size (fun _ => True) v0_ r1 ∧ Below w.heap.size w w' := by
 have HR0 := Aside0.mk hr0
 have HC0 := Aside0.mk hc0
 clear hr0 hc0
 have HB := Aside0.mk (Below.refl w.heap.size w)
 have H : (if ([] : List Int).length + l0.length < 17592186044416 then (reckonerref01_Cut.l0 k a1 (([] : List Int) ++ l0)) else (none)) = some (r1, r2) := h
 clear h
 by_cases c3 : ([] : List Int).length + l0.length < 17592186044416
 ·rw [if_pos c3] at H
  have LMc3 := Aside0.mk c3
  clear c3
  obtain ⟨y133, hy133⟩ : ∃ y_ : List Int, y_ = (([] : List Int) ++ l0) := ⟨_, rfl⟩
  replace H : (reckonerref01_Cut.l0 k a1 y133) = some (r1, r2) := by first | (rw [hy133]; with_reducible exact H) | (have H2_ := (Option.bind_some _ _).symm.trans H; rw [hy133]; with_reducible exact H2_) | (have H2_ := (Option.bind_some _ _).symm.trans H; with_reducible exact H2_) | with_reducible exact H | (rw [hy133]; exact H) | exact H
  have Ny133 := Aside0.mk hy133
  clear hy133
  have H' := Aside0.mk H
  clear H
  go_enter Try.func88, Try.ntmps88
  try simp only [List.append]
  go_wp2_with (first | ((with_reducible refine gate_builtin (b := .append) (xs := #[.tmp 7, .tmp 8]) rfl ?_); at_builtin; refine Kd.R_append_rows (Kd.int .u64) (w0 := w) w.heap.size rfl (.tmp 7) (.tmp 8) 22 33 (.int .u64 0) 8 rfl Try.underlying22 info33 rfl (by decide) (by omega) (.slice none 0 0) ([] : List Int) l0 _ _ _ (fun _ => True) (fun _ => False) rfl rfl ?aO ?aR (fun _ _ h => h) (fun _ h => h.elim) ?aF ?aB ?aS ?aL ?_; (case aR => repeat (first | exact HR0.out | (with_reducible refine Kd.C_alloc ?_ _) | (with_reducible refine Kd.C_drewN ?_ _) | (with_reducible refine Kd.C_drew ?_))); (case aB => exact (by repeat (first | (with_reducible first | exact HB.out | apply below_alloc | apply pw_below_drewN | apply below_drew1) | exact HB.out))); (case aF => exact (fun _ _ => trivial)); (case aO => exact ((Kd.R_nil _ _ _ _ (fun _ => True)))); (case aS => exact (below_size (by repeat (first | (with_reducible first | exact HB.out | apply below_alloc | apply pw_below_drewN | apply below_drew1) | exact HB.out)))); (case aL => have := LMc3.out; omega); intro v134 w4 ho hb hg hat; rw [← Ny133.out] at ho; have n0_ := Aside0.mk (hb); have n1_ := Aside0.mk (ho); clear HB; have HB := n0_; have HO135 := n1_; clear n0_ n1_; clear ho hb hg hat))
  go_loopg [6] k (fun kq v6 w' => ∃ (x6_1 : List Int), Aside0 (reckonerref01_Cut.l0 kq a1 x6_1 = some (r1, r2)) ∧ Aside0 (kq ≤ k) ∧ Aside0 (Kd.R (Kd.int .u64) 33 w' w.heap.size (fun _ => True) v6 x6_1) ∧ Aside0 (Below w.heap.size w w'))
  case atStart => exact ⟨(y133), H', ⟨Nat.le_refl _⟩, ⟨by (with_reducible repeat (first | apply Kd.R_alloc | apply Kd.R_drewN | apply Kd.R_drew)); exact HO135.out⟩, ⟨by repeat (first | (with_reducible first | exact HB.out | apply below_alloc | apply pw_below_drewN | apply below_drew1) | exact HB.out)⟩⟩
  case round =>
   clear H'
   try clear p2
   try clear c3
   obtain ⟨x6_1, HA, HK1, HO_6, HB⟩ := hrel
   cases gk with
   | zero => exact absurd HA.out (by simp [reckonerref01_Cut.l0])
   | succ k1 =>
    have H := HA.out
    clear HA
    simp only [reckonerref01_Cut.l0] at H
    by_cases c5 : (x6_1.length : Int) < (wrap64 ((wrap64 (2 * a1)) + 2))
    ·rw [if_pos c5] at H
     have c5b0 : decide ((x6_1.length : Int) < (wrap64 ((wrap64 (2 * a1)) + 2))) = true := decide_eq_true c5
     clear c5
     by_cases c6 : x6_1.length < 17592186044416
     ·rw [if_pos c6] at H
      have LMc6 := Aside0.mk c6
      clear c6
      obtain ⟨y136, hy136⟩ : ∃ y_ : List Int, y_ = (x6_1 ++ [0]) := ⟨_, rfl⟩
      replace H : (reckonerref01_Cut.l0 k1 a1 y136) = some (r1, r2) := by first | (rw [hy136]; with_reducible exact H) | (have H2_ := (Option.bind_some _ _).symm.trans H; rw [hy136]; with_reducible exact H2_) | (have H2_ := (Option.bind_some _ _).symm.trans H; with_reducible exact H2_) | with_reducible exact H | (rw [hy136]; exact H) | exact H
      have Ny136 := Aside0.mk hy136
      clear hy136
      have H' := Aside0.mk H
      clear H
      obtain ⟨Ao7, co7, eo7⟩ := Kd.R_slice HO_6.out
      subst eo7
      go_wp2_with (first | ((with_reducible refine gate_builtin (b := .append) (xs := #[.tmp 16, .tmp 17]) rfl ?_); at_builtin; refine Kd.R_append (Kd.int .u64) (w0 := w) w.heap.size rfl (.tmp 16) (.tmp 17) 22 33 (.int .u64 0) 8 rfl Try.underlying22 info33 rfl (by decide) (by omega) (.slice Ao7 x6_1.length co7) x6_1 0 [.int .u64 0] (fun _ => True) (fun _ => False) rfl rfl ?aP (fun _ hk => hk.elim) ?aF ?aO ?aB ?aS ?aL ?_; (case aP => exact rfl); (case aB => exact (by repeat (first | (with_reducible first | exact HB.out | apply below_alloc | apply pw_below_drewN | apply below_drew1) | exact HB.out))); (case aF => exact (fun _ _ => trivial)); (case aO => exact (by (with_reducible repeat (first | apply Kd.R_alloc | apply Kd.R_drewN | apply Kd.R_drew)); exact HO_6.out)); (case aS => exact (below_size (by repeat (first | (with_reducible first | exact HB.out | apply below_alloc | apply pw_below_drewN | apply below_drew1) | exact HB.out)))); (case aL => have := LMc6.out; omega); intro v137 w8 ho hb hg hat; rw [← Ny136.out] at ho; have n0_ := Aside0.mk (hb); have n1_ := Aside0.mk (ho); clear HB; clear HO_6; have HB := n0_; have HO138 := n1_; clear n0_ n1_; clear ho hb hg hat))
      go_roundg k1
      case measure => have := HK1.out; omega
      case rel => exact ⟨(y136), H', ⟨by have := HK1.out; omega⟩, ⟨by (with_reducible repeat (first | apply Kd.R_alloc | apply Kd.R_drewN | apply Kd.R_drew)); exact HO138.out⟩, ⟨by repeat (first | (with_reducible first | exact HB.out | apply below_alloc | apply pw_below_drewN | apply below_drew1) | exact HB.out)⟩⟩
     ·rw [if_neg c6] at H
      exact absurd H (by simp)
    ·rw [if_neg c5] at H
     have c5b0 : decide ((x6_1.length : Int) < (wrap64 ((wrap64 (2 * a1)) + 2))) = false := decide_eq_false c5
     clear c5
     obtain ⟨ji9, hji9⟩ : ∃ j_ : Int, (wrap64 (2 * a1)) = j_ := ⟨_, rfl⟩
     replace H : (if 0 ≤ (ji9) then (if (ji9) ≤ (x6_1.length : Int) then ((reckonerref01_Row.f k1 (x6_1.take ((ji9) : Int).toNat)).bind fun t143 => (if (ji9) < (x6_1.length : Int) then (if 0 ≤ (wrap64 ((ji9) + 1)) then (if (wrap64 ((ji9) + 1)) < (x6_1.length : Int) then (some (t143, IntKind.u64.wrap ((rd x6_1 (ji9)) + (IntKind.u64.wrap ((rd x6_1 (wrap64 ((ji9) + 1))) * 4294967296))))) else (none)) else (none)) else (none))) else (none)) else (none)) = some (r1, r2) := by first | (rw [hji9] at H; exact H) | (simp only [hji9] at H ⊢; exact H)
     (try rw [hji9] at c5b0)
     have hji9w : (IntKind.i64.wrap (2 * a1)) = ji9 := (i64_w _).trans hji9
     by_cases c10 : 0 ≤ (ji9)
     ·rw [if_pos c10] at H
      have c10b0 := eq_true c10
      have c10b1 : decide (0 ≤ (ji9)) = true := decide_eq_true c10
      clear c10
      by_cases c11 : (ji9) ≤ (x6_1.length : Int)
      ·rw [if_pos c11] at H
       have c11b0 := eq_true c11
       have c11b1 : decide ((ji9) ≤ (x6_1.length : Int)) = true := decide_eq_true c11
       clear c11
       obtain ⟨y139, hy139⟩ : ∃ y_ : List Int, y_ = (x6_1.take ((ji9) : Int).toNat) := ⟨_, rfl⟩
       replace H : ((reckonerref01_Row.f k1 y139).bind fun t143 => (if (ji9) < (x6_1.length : Int) then (if 0 ≤ (wrap64 ((ji9) + 1)) then (if (wrap64 ((ji9) + 1)) < (x6_1.length : Int) then (some (t143, IntKind.u64.wrap ((rd x6_1 (ji9)) + (IntKind.u64.wrap ((rd x6_1 (wrap64 ((ji9) + 1))) * 4294967296))))) else (none)) else (none)) else (none))) = some (r1, r2) := by first | (rw [hy139]; with_reducible exact H) | (have H2_ := (Option.bind_some _ _).symm.trans H; rw [hy139]; with_reducible exact H2_) | (have H2_ := (Option.bind_some _ _).symm.trans H; with_reducible exact H2_) | with_reducible exact H | (rw [hy139]; exact H) | exact H
       have Ny139 := Aside0.mk hy139
       clear hy139
       replace H := Option.bind_eq_some_iff.mp H
       obtain ⟨t143, A120, H⟩ := H
       replace H : (if (ji9) < (x6_1.length : Int) then (if 0 ≤ (wrap64 ((ji9) + 1)) then (if (wrap64 ((ji9) + 1)) < (x6_1.length : Int) then (some (t143, IntKind.u64.wrap ((rd x6_1 (ji9)) + (IntKind.u64.wrap ((rd x6_1 (wrap64 ((ji9) + 1))) * 4294967296))))) else (none)) else (none)) else (none)) = some (r1, r2) := H
       have A12 := Aside0.mk A120
       clear A120
       by_cases c13 : (ji9) < (x6_1.length : Int)
       ·rw [if_pos c13] at H
        have c13b0 : decide ((ji9) < (x6_1.length : Int)) = true := decide_eq_true c13
        clear c13
        obtain ⟨ji14, hji14⟩ : ∃ j_ : Int, (wrap64 ((ji9) + 1)) = j_ := ⟨_, rfl⟩
        replace H : (if 0 ≤ (ji14) then (if (ji14) < (x6_1.length : Int) then (some (t143, IntKind.u64.wrap ((rd x6_1 (ji9)) + (IntKind.u64.wrap ((rd x6_1 (ji14)) * 4294967296))))) else (none)) else (none)) = some (r1, r2) := by first | (rw [hji14] at H; exact H) | (simp only [hji14] at H ⊢; exact H)
        (try rw [hji14] at A12)
        have hji14w : (IntKind.i64.wrap ((ji9) + 1)) = ji14 := (i64_w _).trans hji14
        by_cases c15 : 0 ≤ (ji14)
        ·rw [if_pos c15] at H
         have c15b0 : decide (0 ≤ (ji14)) = true := decide_eq_true c15
         clear c15
         by_cases c16 : (ji14) < (x6_1.length : Int)
         ·rw [if_pos c16] at H
          have c16b0 : decide ((ji14) < (x6_1.length : Int)) = true := decide_eq_true c16
          clear c16
          simp only [Option.some.injEq, Prod.mk.injEq] at H
          obtain ⟨rfl, rfl⟩ := H
          obtain ⟨Ao17, co17, eo17⟩ := Kd.R_slice HO_6.out
          subst eo17
          try go_wp2
          have n0_ := Aside0.mk (Kd.R_drew HO_6.out)
          have n1_ := Aside0.mk (below_drew1 HB.out)
          clear HO_6
          clear HB
          have HO_6 := n0_
          have HB := n1_
          clear n0_ n1_
          have q19 : ((ji9) : Int) ≤ ((x6_1.length : Int) : Int) := of_decide_eq_true (by first | (with_reducible assumption) | assumption)
          obtain ⟨i019, hi019, _, hsz19, _⟩ := info_parts info33
          have hroom19 : x6_1.length ≤ co17 := (Kd.R_reads' HO_6.out).2.1
          have hC19 : Kd.C (Kd.int .u64) _ Ao17 x6_1.length x6_1 := (Kd.R_reads' HO_6.out).2.2
          have hcut19 := cut_to (P := Try.prog) 22 33 .i64 Try.underlying22 hi019 Ao17 x6_1.length co17 (ji9) (of_decide_eq_true (by first | (with_reducible assumption) | assumption)) q19 hroom19
          have hr19 := Kd.C_take (m := ((ji9) : Int).toNat) hC19 (by omega)
          have hy19 : y139.length = ((ji9) : Int).toNat := (by rw [Ny139.out, List.length_take]; omega)
          rw [← Ny139.out] at hr19
          rw [← hy19] at hcut19
          have HR142 := Aside0.mk hr19
          have HC142 := Aside0.mk (show y139.length ≤ co17 from by omega)
          clear hr19 hC19 hroom19 hi019 hsz19
          have KY19 := Aside0.mk hy19
          clear hy19
          have KL19 := Aside0.mk (show ((ji9) : Int).toNat ≤ x6_1.length from by omega)
          replace q19 := eq_true q19
          have p146 : 0 ≤ ((ji9) : Int) := of_decide_eq_true (by first | (with_reducible assumption) | assumption)
          have q146 : (ji9) < (x6_1.length : Int) := of_decide_eq_true (by first | (with_reducible assumption) | assumption)
          obtain ⟨ad146, e146, hx146_0⟩ := Kd.at_int (Kd.R_reads' HO_6.out).2.2 (ji9) p146 q146
          cases e146
          replace p146 := eq_true p146
          replace q146 := eq_true q146
          have p147 : 0 ≤ ((ji14) : Int) := of_decide_eq_true (by first | (with_reducible assumption) | assumption)
          have q147 : (ji14) < (x6_1.length : Int) := of_decide_eq_true (by first | (with_reducible assumption) | assumption)
          obtain ⟨ad147, e147, hx147_0⟩ := Kd.at_int (Kd.R_reads' HO_6.out).2.2 (ji14) p147 q147
          obtain rfl : ad146 = ad147 := (by injection e147)
          replace p147 := eq_true p147
          replace q147 := eq_true q147
          refine start_ (n := 20) (S := fun w' => w'.cell? (ad146.add ((ji9)).toNat) = some (.int .u64 (rd x6_1 (ji9))) ∧ w'.cell? (ad146.add ((ji14)).toNat) = some (.int .u64 (rd x6_1 (ji14)))) (ds := []) #[false, false, false, false, false, false, false, false, false, false, false, false, false, false, false, false, false, false, false, false] (by kernel_rfl) rfl rfl ⟨hx146_0, hx147_0⟩ (fun hHeld => ?_); refine with_tabW reckonerref01_Cut.tab5 reckonerref01_Cut.bits5 (fun HT_ HW_ => ?_)
          generalize wr.drew = w18 at HO_6 HB HR142 hx146_0 hx147_0 hHeld ⊢
          refine pure_ (i := 0) (N := some 19) (v := ?_) (a' := ?_) #[true, false, false, false, false, false, false, false, false, false, false, false, false, false, false, false, false, false, false, false] rfl rfl (any_of HT_.out (by kernel_rfl)) (fun _ _ _ h => h) (Or.inl ⟨by rfl, ?_⟩) ?_ ?_
          rotate_left
          ·intro w'
           go_simp
           with_reducible rfl
          rotate_left
          ·simp only [Act.put, List.setIfInBounds_toArray, List.set_cons_zero, List.set_cons_succ, i64_w, i32_w]
           rfl
          refine pure_ (i := 1) (N := some 20) (v := ?_) (a' := ?_) #[true, true, false, false, false, false, false, false, false, false, false, false, false, false, false, false, false, false, false, false] rfl rfl (any_of HT_.out (by kernel_rfl)) (fun _ _ _ h => h) (Or.inl ⟨by rfl, ?_⟩) ?_ ?_
          rotate_left
          ·intro w'
           go_simp
           with_reducible rfl
          rotate_left
          ·simp only [Act.put, List.setIfInBounds_toArray, List.set_cons_zero, List.set_cons_succ, i64_w, i32_w]
           rfl
          refine pure_ (i := 2) (N := some 21) (v := ?_) (a' := ?_) #[true, true, true, false, false, false, false, false, false, false, false, false, false, false, false, false, false, false, false, false] rfl rfl (any_of HT_.out (by kernel_rfl)) (fun _ _ _ h => h) (Or.inl ⟨by rfl, ?_⟩) ?_ ?_
          rotate_left
          ·intro w'
           go_simp
           with_reducible rfl
          rotate_left
          ·simp only [Act.put, List.setIfInBounds_toArray, List.set_cons_zero, List.set_cons_succ, i64_w, i32_w]
           rfl
          refine pure_ (i := 3) (N := some 22) (v := ?_) (a' := ?_) #[true, true, true, true, false, false, false, false, false, false, false, false, false, false, false, false, false, false, false, false] rfl rfl (any_of HT_.out (by kernel_rfl)) (fun _ _ _ h => h) (Or.inl ⟨by rfl, ?_⟩) ?_ ?_
          rotate_left
          ·intro w'
           go_simp
           with_reducible rfl
          rotate_left
          ·simp only [Act.put, List.setIfInBounds_toArray, List.set_cons_zero, List.set_cons_succ, i64_w, i32_w]
           rfl
          refine pure_ (i := 5) (N := some 24) (v := ?_) (a' := ?_) #[true, true, true, true, false, true, false, false, false, false, false, false, false, false, false, false, false, false, false, false] rfl rfl (any_of HT_.out (by kernel_rfl)) (fun _ _ _ h => h) (Or.inl ⟨by rfl, ?_⟩) ?_ ?_
          rotate_left
          ·intro w'
           go_simp
           with_reducible rfl
          rotate_left
          ·simp only [Act.put, List.setIfInBounds_toArray, List.set_cons_zero, List.set_cons_succ, i64_w, i32_w]
           rfl
          refine pure_ (i := 6) (N := some 25) (v := ?_) (a' := ?_) #[true, true, true, true, false, true, true, false, false, false, false, false, false, false, false, false, false, false, false, false] rfl rfl (any_of HT_.out (by kernel_rfl)) (fun _ _ _ h => h) (Or.inl ⟨by rfl, ?_⟩) ?_ ?_
          rotate_left
          ·intro w'
           go_simp
           with_reducible rfl
          rotate_left
          ·simp only [Act.put, List.setIfInBounds_toArray, List.set_cons_zero, List.set_cons_succ, i64_w, i32_w]
           rfl
          refine pure_ (i := 7) (N := some 26) (v := ?_) (a' := ?_) #[true, true, true, true, false, true, true, true, false, false, false, false, false, false, false, false, false, false, false, false] rfl rfl (any_of HT_.out (by kernel_rfl)) (fun _ _ _ h => h) (Or.inl ⟨by rfl, ?_⟩) ?_ ?_
          rotate_left
          ·intro w'
           go_simp
           with_reducible rfl
          rotate_left
          ·simp only [Act.put, List.setIfInBounds_toArray, List.set_cons_zero, List.set_cons_succ, i64_w, i32_w]
           rfl
          refine pure_ (i := 8) (N := some 27) (v := ?_) (a' := ?_) #[true, true, true, true, false, true, true, true, true, false, false, false, false, false, false, false, false, false, false, false] rfl rfl (any_of HT_.out (by kernel_rfl)) (fun _ _ _ h => h) (Or.inl ⟨by rfl, ?_⟩) ?_ ?_
          rotate_left
          ·intro w'
           go_simp
           with_reducible rfl
          rotate_left
          ·simp only [Act.put, List.setIfInBounds_toArray, List.set_cons_zero, List.set_cons_succ, i64_w, i32_w]
           rfl
          refine pure_ (i := 10) (N := some 29) (v := ?_) (a' := ?_) #[true, true, true, true, false, true, true, true, true, false, true, false, false, false, false, false, false, false, false, false] rfl rfl (any_of HT_.out (by kernel_rfl)) (fun _ _ _ h => h) (Or.inl ⟨by rfl, ?_⟩) ?_ ?_
          rotate_left
          ·intro w'
           go_simp
           with_reducible rfl
          rotate_left
          ·simp only [Act.put, List.setIfInBounds_toArray, List.set_cons_zero, List.set_cons_succ, i64_w, i32_w]
           rfl
          refine pure_ (i := 11) (N := some 30) (v := ?_) (a' := ?_) #[true, true, true, true, false, true, true, true, true, false, true, true, false, false, false, false, false, false, false, false] rfl rfl (any_of HT_.out (by kernel_rfl)) (fun _ _ _ h => h) (Or.inl ⟨by rfl, ?_⟩) ?_ ?_
          rotate_left
          ·intro w'
           go_simp
           with_reducible rfl
          rotate_left
          ·simp only [Act.put, List.setIfInBounds_toArray, List.set_cons_zero, List.set_cons_succ, i64_w, i32_w]
           rfl
          refine pure_ (i := 12) (N := some 31) (v := ?_) (a' := ?_) #[true, true, true, true, false, true, true, true, true, false, true, true, true, false, false, false, false, false, false, false] rfl rfl (any_of HT_.out (by kernel_rfl)) (fun _ _ _ h => h) (Or.inl ⟨by rfl, ?_⟩) ?_ ?_
          rotate_left
          ·intro w'
           go_simp
           with_reducible rfl
          rotate_left
          ·simp only [Act.put, List.setIfInBounds_toArray, List.set_cons_zero, List.set_cons_succ, i64_w, i32_w]
           rfl
          refine pure_ (i := 13) (N := some 32) (v := ?_) (a' := ?_) #[true, true, true, true, false, true, true, true, true, false, true, true, true, true, false, false, false, false, false, false] rfl rfl (any_of HT_.out (by kernel_rfl)) (fun _ _ _ h => h) (Or.inl ⟨by rfl, ?_⟩) ?_ ?_
          rotate_left
          ·intro w'
           go_simp
           with_reducible rfl
          rotate_left
          ·simp only [Act.put, List.setIfInBounds_toArray, List.set_cons_zero, List.set_cons_succ, i64_w, i32_w]
           rfl
          refine pure_ (i := 14) (N := some 33) (v := ?_) (a' := ?_) #[true, true, true, true, false, true, true, true, true, false, true, true, true, true, true, false, false, false, false, false] rfl rfl (any_of HT_.out (by kernel_rfl)) (fun _ _ _ h => h) (Or.inl ⟨by rfl, ?_⟩) ?_ ?_
          rotate_left
          ·intro w'
           go_simp
           with_reducible rfl
          rotate_left
          ·simp only [Act.put, List.setIfInBounds_toArray, List.set_cons_zero, List.set_cons_succ, i64_w, i32_w]
           rfl
          refine take_ (i := 9) (N := some 28) (v := ?_) (a' := ?_) #[true, true, true, true, false, true, true, true, true, true, true, true, true, true, true, false, false, false, false, false] rfl rfl (take_ofW HT_.out HW_.out (by kernel_rfl)) (fun _ _ _ h => h) (Or.inl ⟨by rfl, ?_⟩) hHeld ?_ ?_
          rotate_left
          ·rintro w' ⟨s0, s1⟩
           go_simp
           with_reducible rfl
          rotate_left
          ·simp only [Act.put, List.setIfInBounds_toArray, List.set_cons_zero, List.set_cons_succ, i64_w, i32_w]
           rfl
          refine take_ (i := 15) (N := some 34) (v := ?_) (a' := ?_) #[true, true, true, true, false, true, true, true, true, true, true, true, true, true, true, true, false, false, false, false] rfl rfl (take_ofW HT_.out HW_.out (by kernel_rfl)) (fun _ _ _ h => h) (Or.inl ⟨by rfl, ?_⟩) hHeld ?_ ?_
          rotate_left
          ·rintro w' ⟨s0, s1⟩
           go_simp
           with_reducible rfl
          rotate_left
          ·simp only [Act.put, List.setIfInBounds_toArray, List.set_cons_zero, List.set_cons_succ, i64_w, i32_w]
           rfl
          refine pure_ (i := 16) (N := some 35) (v := ?_) (a' := ?_) #[true, true, true, true, false, true, true, true, true, true, true, true, true, true, true, true, true, false, false, false] rfl rfl (any_of HT_.out (by kernel_rfl)) (fun _ _ _ h => h) (Or.inl ⟨by rfl, ?_⟩) ?_ ?_
          rotate_left
          ·intro w'
           go_simp
           with_reducible rfl
          rotate_left
          ·simp only [Act.put, List.setIfInBounds_toArray, List.set_cons_zero, List.set_cons_succ, i64_w, i32_w]
           rfl
          refine pure_ (i := 17) (N := some 36) (v := ?_) (a' := ?_) #[true, true, true, true, false, true, true, true, true, true, true, true, true, true, true, true, true, true, false, false] rfl rfl (any_of HT_.out (by kernel_rfl)) (fun _ _ _ h => h) (Or.inl ⟨by rfl, ?_⟩) ?_ ?_
          rotate_left
          ·intro w'
           go_simp
           with_reducible rfl
          rotate_left
          ·simp only [Act.put, List.setIfInBounds_toArray, List.set_cons_zero, List.set_cons_succ, i64_w, i32_w]
           rfl
          refine one_ (i := 4) (N := some 23) #[true, true, true, true, true, true, true, true, true, true, true, true, true, true, true, true, true, true, false, false] rfl rfl (one_of HT_.out (by kernel_rfl)) (by decide) (fun K hK => ?_)
          refine goes_ Try.func103 (by kernel_rfl) rfl #[.slice (some ad146) y139.length co17] (by rfl) rfl rfl (by (try simp only [List.map_toArray, List.map_cons, List.map_nil]); first | done | rfl | (simp only [List.length_drop, List.length_take]; rfl)) ?_
          with_reducible refine (reckonerref01_Row.calls k1 _ _ y139 t143 _ ?side1 ?side2 A12.out).mono ?_
          (case side1 => repeat (first | exact (by repeat (first | (with_reducible exact HR142.out) | (with_reducible refine Kd.C_alloc ?_ _) | (with_reducible refine Kd.C_drewN ?_ _) | (with_reducible refine Kd.C_drew ?_) | exact HR142.out)) | (with_reducible refine Kd.C_alloc ?_ _) | (with_reducible refine Kd.C_drewN ?_ _) | (with_reducible refine Kd.C_drew ?_)))
          (case side2 => exact HC142.out)
          rintro e w20 ⟨v144, rfl, ho0, hb⟩
          have HS0_ := (hb.cell (World.block_lt_of_cell? _ _ (hHeld.1))).trans (hHeld.1)
          have HS1_ := (hb.cell (World.block_lt_of_cell? _ _ (hHeld.2))).trans (hHeld.2)
          refine ⟨_, rfl, ?_⟩
          have n0_ := Aside0.mk (Kd.R_elder' (by (with_reducible repeat (first | apply Kd.R_alloc | apply Kd.R_drewN | apply Kd.R_drew)); exact HO_6.out) (Kd.R_base ho0) hb)
          have n1_ := Aside0.mk (Kd.R_lower (Kd.R_new' ho0 (Kd.R_lt (by (with_reducible repeat (first | apply Kd.R_alloc | apply Kd.R_drewN | apply Kd.R_drew)); exact HO_6.out))) (below_size (by repeat (first | (with_reducible first | exact HB.out | apply below_alloc | apply pw_below_drewN | apply below_drew1) | exact HB.out))))
          have n2_ := Aside0.mk (Kd.C_below (by repeat (first | (with_reducible exact HR142.out) | (with_reducible refine Kd.C_alloc ?_ _) | (with_reducible refine Kd.C_drewN ?_ _) | (with_reducible refine Kd.C_drew ?_) | exact HR142.out)) hb)
          have n3_ := Aside0.mk (below_step (by repeat (first | (with_reducible first | exact HB.out | apply below_alloc | apply pw_below_drewN | apply below_drew1) | exact HB.out)) hb)
          clear HO_6
          clear HR142
          clear HB
          have HO_6 := n0_
          have HO145 := n1_
          have HR142 := n2_
          have HB := n3_
          clear n0_ n1_ n2_ n3_
          (try clear hb)
          (try clear hb2)
          (try clear hk)
          (try clear hi)
          (try clear ho0)
          refine hK.out _ _ ⟨HS0_, HS1_⟩ (fun hHeld => ?_)
          clear hK K
          refine norm_ (a' := ?_) ?_ ?_
          rotate_left
          ·show Act.put _ (some 23) _ = _
           simp only [Act.put, List.setIfInBounds_toArray, List.set_cons_zero, List.set_cons_succ, i64_w, i32_w]
           rfl
          refine pure_ (i := 18) (N := some 4) (v := ?_) (a' := ?_) #[true, true, true, true, true, true, true, true, true, true, true, true, true, true, true, true, true, true, true, false] rfl rfl (any_of HT_.out (by kernel_rfl)) (fun _ _ _ h => h) (Or.inl ⟨by rfl, ?_⟩) ?_ ?_
          rotate_left
          ·intro w'
           go_simp
           with_reducible rfl
          rotate_left
          ·simp only [Act.put, List.setIfInBounds_toArray, List.set_cons_zero, List.set_cons_succ, i64_w, i32_w]
           rfl
          refine pure_ (i := 19) (N := some 5) (v := ?_) (a' := ?_) #[true, true, true, true, true, true, true, true, true, true, true, true, true, true, true, true, true, true, true, true] rfl rfl (any_of HT_.out (by kernel_rfl)) (fun _ _ _ h => h) (Or.inl ⟨by rfl, ?_⟩) ?_ ?_
          rotate_left
          ·intro w'
           go_simp
           with_reducible rfl
          rotate_left
          ·simp only [Act.put, List.setIfInBounds_toArray, List.set_cons_zero, List.set_cons_succ, i64_w, i32_w]
           rfl
          refine done_ (done_of HT_.out (by kernel_rfl)) ?_
          try go_wp2
          go_ret2
          exact ⟨_, by first | rfl | (simp [errW_none, errW_some] <;> rfl) | (simp only [← hji9, ← hji14]; first | rfl | (simp [errW_none, errW_some] <;> rfl)) | (simp [*, errW_none, errW_some] <;> rfl), by (with_reducible repeat (first | apply Kd.R_alloc | apply Kd.R_drewN | apply Kd.R_drew)); exact Kd.R_mono HO145.out (fun _ hk => trivial), by repeat (first | (with_reducible first | exact HB.out | apply below_alloc | apply pw_below_drewN | apply below_drew1) | exact HB.out)⟩
         ·rw [if_neg c16] at H
          exact absurd H (by simp)
        ·rw [if_neg c15] at H
         exact absurd H (by simp)
       ·rw [if_neg c13] at H
        exact absurd H (by simp)
      ·rw [if_neg c11] at H
       exact absurd H (by simp)
     ·rw [if_neg c10] at H
      exact absurd H (by simp)
 ·rw [if_neg c3] at H
  exact absurd H (by simp)
/-! ### reckonerref02_nat: function 58 -/
def reckonerref02_nat.f (k : Nat) (l0 : List Int) : Option (List Int) := (reckonerref01_Short.f k l0).bind fun t148 => ((reckonerref01_Cut.f k t148 (wrap64 (Int.tdiv (wrap64 ((t148.length : Int) + 1)) 2))).bind fun bt151 => (some bt151.1))
set_option maxHeartbeats 8000000 in
set_option maxRecDepth 100000 in
theorem reckonerref02_nat.calls (k : Nat) (A0 : Option Addr) (c0 : Nat) (l0 : List Int) (r : List Int) (w : World) (hr0 : Kd.C (Kd.int .u64) w A0 l0.length l0) (hc0 : l0.length ≤ c0) (h : reckonerref02_nat.f k l0 = some r) :
  Calls Try.prog 58 #[.slice A0 l0.length c0] w fun e w' => ∃ v0_ : Value, e = .returned (v0_) ∧ Kd.R (Kd.int .u64) 33 w' w.heap.size (fun _ => True) v0_ r ∧ Below w.heap.size w w' := by
 have HR0 := Aside0.mk hr0
 have HC0 := Aside0.mk hc0
 clear hr0 hc0
 have HB := Aside0.mk (Below.refl w.heap.size w)
 have H : ((reckonerref01_Short.f k l0).bind fun t148 => ((reckonerref01_Cut.f k t148 (wrap64 (Int.tdiv (wrap64 ((t148.length : Int) + 1)) 2))).bind fun bt151 => (some bt151.1))) = some r := h
 clear h
 replace H := Option.bind_eq_some_iff.mp H
 obtain ⟨t148, A20, H⟩ := H
 replace H : ((reckonerref01_Cut.f k t148 (wrap64 (Int.tdiv (wrap64 ((t148.length : Int) + 1)) 2))).bind fun bt151 => (some bt151.1)) = some r := H
 have A2 := Aside0.mk A20
 clear A20
 replace H := Option.bind_eq_some_iff.mp H
 obtain ⟨⟨t151, t152⟩, A30, H⟩ := H
 replace H : (some t151) = some r := H
 have A3 := Aside0.mk A30
 clear A30
 obtain rfl := Option.some.inj H
 go_enter Try.func58, Try.ntmps58
 go_wp2_with (first | ((with_reducible refine gate_callee (f := 86) rfl ?_); refine goesL_ (some 7) rfl rfl Try.func86 (by kernel_rfl) rfl #[.slice A0 l0.length c0] rfl (by (try simp only [List.map_toArray, List.map_cons, List.map_nil]); first | done | rfl | (simp only [List.length_drop, List.length_take]; rfl)) ?_; (with_reducible refine (reckonerref01_Short.calls k (fun k_ => k_ < w.heap.size) _ _ l0 t148 _ ?side1 A2.out).mono ?_); (case side1 => exact Kd.V_mk HC0.out (Kd.F_below (Kd.C_F (Kd.heap_int .u64) HR0.out) (by repeat (first | (with_reducible first | exact HB.out | apply below_alloc | apply pw_below_drewN | apply below_drew1) | exact HB.out)))); rintro e w4 ⟨v149, rfl, ho0, hb⟩; refine ⟨_, rfl, ?_⟩; have n0_ := Aside0.mk (Kd.V_lower (Kd.V_mono (ok' := fun k_ => True) ho0 (fun k_ hk_ => trivial)) (below_size (by repeat (first | (with_reducible first | exact HB.out | apply below_alloc | apply pw_below_drewN | apply below_drew1) | exact HB.out)))); have n1_ := Aside0.mk (below_step (by repeat (first | (with_reducible first | exact HB.out | apply below_alloc | apply pw_below_drewN | apply below_drew1) | exact HB.out)) hb); clear HB; have HO150 := n0_; have HB := n1_; clear n0_ n1_; (try clear hb); (try clear hb2); (try clear hk); (try clear hi); (try clear ho0); obtain ⟨Ao5, co5, eo5⟩ := Kd.V_slice HO150.out; subst eo5) | ((with_reducible refine gate_callee (f := 88) rfl ?_); refine goesL_ (some 15) rfl rfl Try.func88 (by kernel_rfl) rfl #[.slice Ao5 t148.length co5, .int .i64 (wrap64 (Int.tdiv (wrap64 ((t148.length : Int) + 1)) 2))] rfl (by (try simp only [List.map_toArray, List.map_cons, List.map_nil]); first | done | rfl | (simp only [List.length_drop, List.length_take]; rfl)) ?_; (with_reducible refine (reckonerref01_Cut.calls k _ _ t148 (wrap64 (Int.tdiv (wrap64 ((t148.length : Int) + 1)) 2)) t151 t152 _ ?side1 ?side2 A3.out).mono ?_); (case side1 => repeat (first | exact (Kd.V_reads' HO150.out).2.2 | (with_reducible refine Kd.C_alloc ?_ _) | (with_reducible refine Kd.C_drewN ?_ _) | (with_reducible refine Kd.C_drew ?_))); (case side2 => exact (Kd.V_reads' HO150.out).2.1); rintro e w6 ⟨v153, rfl, ho0, hb⟩; refine ⟨_, rfl, ?_⟩; have n0_ := Aside0.mk (Kd.V_elder' (by (with_reducible repeat (first | apply Kd.V_alloc | apply Kd.V_drewN | apply Kd.V_drew)); exact HO150.out) (Kd.R_base ho0) hb); have n1_ := Aside0.mk (Kd.R_lower ho0 (below_size (by repeat (first | (with_reducible first | exact HB.out | apply below_alloc | apply pw_below_drewN | apply below_drew1) | exact HB.out)))); have n2_ := Aside0.mk (below_step (by repeat (first | (with_reducible first | exact HB.out | apply below_alloc | apply pw_below_drewN | apply below_drew1) | exact HB.out)) hb); clear HO150; clear HB; have HO150 := n0_; have HO154 := n1_; have HB := n2_; clear n0_ n1_ n2_; (try clear hb); (try clear hb2); (try clear hk); (try clear hi); (try clear ho0)))
 go_ret
 exact ⟨_, by first | rfl | (simp [errW_none, errW_some] <;> rfl) | (simp [*, errW_none, errW_some] <;> rfl), by (with_reducible repeat (first | apply Kd.R_alloc | apply Kd.R_drewN | apply Kd.R_drew)); exact HO154.out, by repeat (first | (with_reducible first | exact HB.out | apply below_alloc | apply pw_below_drewN | apply below_drew1) | exact HB.out)⟩
/-! ### reckonerref02_Trim: function 49 -/
def reckonerref02_Trim.f (k : Nat) (l0 : List Int) : Option (List Int) := (reckonerref01_Digits.f k l0).bind fun t155 => ((reckonerref02_nat.f k t155).bind fun t158 => (some t158))
set_option maxHeartbeats 8000000 in
set_option maxRecDepth 100000 in
theorem reckonerref02_Trim.calls (k : Nat) (A0 : Option Addr) (c0 : Nat) (l0 : List Int) (r : List Int) (w : World) (hr0 : Kd.C (Kd.int .u64) w A0 l0.length l0) (hc0 : l0.length ≤ c0) (h : reckonerref02_Trim.f k l0 = some r) :
  Calls Try.prog 49 #[.slice A0 l0.length c0] w fun e w' => ∃ v0_ : Value, e = .returned (v0_) ∧ Kd.R (Kd.int .u64) 33 w' w.heap.size (fun _ => True) v0_ r ∧ Below w.heap.size w w' := by
 have HR0 := Aside0.mk hr0
 have HC0 := Aside0.mk hc0
 clear hr0 hc0
 have HB := Aside0.mk (Below.refl w.heap.size w)
 have H : ((reckonerref01_Digits.f k l0).bind fun t155 => ((reckonerref02_nat.f k t155).bind fun t158 => (some t158))) = some r := h
 clear h
 replace H := Option.bind_eq_some_iff.mp H
 obtain ⟨t155, A20, H⟩ := H
 replace H : ((reckonerref02_nat.f k t155).bind fun t158 => (some t158)) = some r := H
 have A2 := Aside0.mk A20
 clear A20
 replace H := Option.bind_eq_some_iff.mp H
 obtain ⟨t158, A30, H⟩ := H
 replace H : (some t158) = some r := H
 have A3 := Aside0.mk A30
 clear A30
 obtain rfl := Option.some.inj H
 go_enter Try.func49, Try.ntmps49
 go_wp2_with (first | ((with_reducible refine gate_callee (f := 57) rfl ?_); refine goesL_ (some 4) rfl rfl Try.func57 (by kernel_rfl) rfl #[.slice A0 l0.length c0] rfl (by (try simp only [List.map_toArray, List.map_cons, List.map_nil]); first | done | rfl | (simp only [List.length_drop, List.length_take]; rfl)) ?_; (with_reducible refine (reckonerref01_Digits.calls k _ _ l0 t155 _ ?side1 ?side2 A2.out).mono ?_); (case side1 => repeat (first | exact HR0.out | (with_reducible refine Kd.C_alloc ?_ _) | (with_reducible refine Kd.C_drewN ?_ _) | (with_reducible refine Kd.C_drew ?_))); (case side2 => exact HC0.out); rintro e w4 ⟨v156, rfl, ho0, hb⟩; refine ⟨_, rfl, ?_⟩; have n0_ := Aside0.mk (Kd.R_lower ho0 (below_size (by repeat (first | (with_reducible first | exact HB.out | apply below_alloc | apply pw_below_drewN | apply below_drew1) | exact HB.out)))); have n1_ := Aside0.mk (below_step (by repeat (first | (with_reducible first | exact HB.out | apply below_alloc | apply pw_below_drewN | apply below_drew1) | exact HB.out)) hb); clear HB; have HO157 := n0_; have HB := n1_; clear n0_ n1_; (try clear hb); (try clear hb2); (try clear hk); (try clear hi); (try clear ho0); obtain ⟨Ao5, co5, eo5⟩ := Kd.R_slice HO157.out; subst eo5) | ((with_reducible refine gate_callee (f := 58) rfl ?_); refine goesL_ (some 5) rfl rfl Try.func58 (by kernel_rfl) rfl #[.slice Ao5 t155.length co5] rfl (by (try simp only [List.map_toArray, List.map_cons, List.map_nil]); first | done | rfl | (simp only [List.length_drop, List.length_take]; rfl)) ?_; (with_reducible refine (reckonerref02_nat.calls k _ _ t155 t158 _ ?side1 ?side2 A3.out).mono ?_); (case side1 => repeat (first | exact (Kd.R_reads' HO157.out).2.2 | (with_reducible refine Kd.C_alloc ?_ _) | (with_reducible refine Kd.C_drewN ?_ _) | (with_reducible refine Kd.C_drew ?_))); (case side2 => exact (Kd.R_reads' HO157.out).2.1); rintro e w6 ⟨v159, rfl, ho0, hb⟩; refine ⟨_, rfl, ?_⟩; have n0_ := Aside0.mk (Kd.R_elder' (by (with_reducible repeat (first | apply Kd.R_alloc | apply Kd.R_drewN | apply Kd.R_drew)); exact HO157.out) (Kd.R_base ho0) hb); have n1_ := Aside0.mk (Kd.R_lower (Kd.R_new' ho0 (Kd.R_lt (by (with_reducible repeat (first | apply Kd.R_alloc | apply Kd.R_drewN | apply Kd.R_drew)); exact HO157.out))) (below_size (by repeat (first | (with_reducible first | exact HB.out | apply below_alloc | apply pw_below_drewN | apply below_drew1) | exact HB.out)))); have n2_ := Aside0.mk (below_step (by repeat (first | (with_reducible first | exact HB.out | apply below_alloc | apply pw_below_drewN | apply below_drew1) | exact HB.out)) hb); clear HO157; clear HB; have HO157 := n0_; have HO160 := n1_; have HB := n2_; clear n0_ n1_ n2_; (try clear hb); (try clear hb2); (try clear hk); (try clear hi); (try clear ho0)))
 go_ret
 exact ⟨_, by first | rfl | (simp [errW_none, errW_some] <;> rfl) | (simp [*, errW_none, errW_some] <;> rfl), by (with_reducible repeat (first | apply Kd.R_alloc | apply Kd.R_drewN | apply Kd.R_drew)); exact Kd.R_mono HO160.out (fun _ hk => trivial), by repeat (first | (with_reducible first | exact HB.out | apply below_alloc | apply pw_below_drewN | apply below_drew1) | exact HB.out)⟩
/-! ### reckonerref02_Is: function 13 -/
def reckonerref02_Is.f (k : Nat) (l0 : List Int) (l1 : List Int) : Option (Bool) := (reckonerref02_Canonical.f l0).bind fun t161 => (if t161 = true then ((reckonerref02_Trim.f k l1).bind fun t162 => ((reckonerref01_Same.f k l0 t162).bind fun t165 => (some t165))) else (some false))
set_option maxHeartbeats 8000000 in
set_option maxRecDepth 100000 in
theorem reckonerref02_Is.calls (k : Nat) (A0 : Option Addr) (c0 : Nat) (l0 : List Int) (A1 : Option Addr) (c1 : Nat) (l1 : List Int) (r : Bool) (w : World) (hr0 : Kd.C (Kd.int .u64) w A0 l0.length l0) (hc0 : l0.length ≤ c0) (hr1 : Kd.C (Kd.int .u64) w A1 l1.length l1) (hc1 : l1.length ≤ c1) (h : reckonerref02_Is.f k l0 l1 = some r) :
  Calls Try.prog 13 #[.slice A0 l0.length c0, .slice A1 l1.length c1] w fun e w' => e = .returned (.bool r) ∧ Below w.heap.size w w' := by
 have HR0 := Aside0.mk hr0
 have HC0 := Aside0.mk hc0
 clear hr0 hc0
 have HR1 := Aside0.mk hr1
 have HC1 := Aside0.mk hc1
 clear hr1 hc1
 have HB := Aside0.mk (Below.refl w.heap.size w)
 have H : ((reckonerref02_Canonical.f l0).bind fun t161 => (if t161 = true then ((reckonerref02_Trim.f k l1).bind fun t162 => ((reckonerref01_Same.f k l0 t162).bind fun t165 => (some t165))) else (some false))) = some r := h
 clear h
 replace H := Option.bind_eq_some_iff.mp H
 obtain ⟨t161, A30, H⟩ := H
 replace H : (if t161 = true then ((reckonerref02_Trim.f k l1).bind fun t162 => ((reckonerref01_Same.f k l0 t162).bind fun t165 => (some t165))) else (some false)) = some r := H
 have A3 := Aside0.mk A30
 clear A30
 by_cases c4 : t161 = true
 ·subst c4
  have H1 : ((reckonerref02_Trim.f k l1).bind fun t162 => ((reckonerref01_Same.f k l0 t162).bind fun t165 => (some t165))) = some r := by rw [if_pos rfl] at H; exact H
  clear H
  have H := H1
  clear H1
  replace H := Option.bind_eq_some_iff.mp H
  obtain ⟨t162, A50, H⟩ := H
  replace H : ((reckonerref01_Same.f k l0 t162).bind fun t165 => (some t165)) = some r := H
  have A5 := Aside0.mk A50
  clear A50
  replace H := Option.bind_eq_some_iff.mp H
  obtain ⟨t165, A60, H⟩ := H
  replace H : (some t165) = some r := H
  have A6 := Aside0.mk A60
  clear A60
  obtain rfl := Option.some.inj H
  go_enter Try.func13, Try.ntmps13
  go_wp2_with (first | ((with_reducible refine gate_callee (f := 47) rfl ?_); refine goesL_ (some 6) rfl rfl Try.func47 (by kernel_rfl) rfl #[.slice A0 l0.length c0] rfl (by (try simp only [List.map_toArray, List.map_cons, List.map_nil]); first | done | rfl | (simp only [List.length_drop, List.length_take]; rfl)) ?_; (with_reducible refine (reckonerref02_Canonical.calls _ _ l0 true _ ?side1 ?side2 A3.out).mono ?_); (case side1 => repeat (first | exact HR0.out | (with_reducible refine Kd.C_alloc ?_ _) | (with_reducible refine Kd.C_drewN ?_ _) | (with_reducible refine Kd.C_drew ?_))); (case side2 => exact HC0.out); rintro e w' ⟨rfl, ⟨nd, rfl⟩⟩; refine ⟨_, rfl, ?_⟩) | (go_at_call 49; (with_reducible refine (reckonerref02_Trim.calls k _ _ l1 t162 _ ?side1 ?side2 A5.out).mono ?_); (case side1 => repeat (first | exact HR1.out | (with_reducible refine Kd.C_alloc ?_ _) | (with_reducible refine Kd.C_drewN ?_ _) | (with_reducible refine Kd.C_drew ?_))); (case side2 => exact HC1.out); rintro e w7 ⟨v163, rfl, ho0, hb⟩; have n0_ := Aside0.mk (Kd.R_lower ho0 (below_size (by repeat (first | (with_reducible first | exact HB.out | apply below_alloc | apply pw_below_drewN | apply below_drew1) | exact HB.out)))); have n1_ := Aside0.mk (below_step (by repeat (first | (with_reducible first | exact HB.out | apply below_alloc | apply pw_below_drewN | apply below_drew1) | exact HB.out)) hb); clear HB; have HO164 := n0_; have HB := n1_; clear n0_ n1_; (try clear hb); (try clear hb2); (try clear hk); (try clear hi); (try clear ho0); obtain ⟨Ao8, co8, eo8⟩ := Kd.R_slice HO164.out; subst eo8) | (go_at_call 48; (with_reducible refine (reckonerref01_Same.calls k _ _ l0 _ _ t162 t165 _ ?side1 ?side2 ?side3 ?side4 A6.out).mono ?_); (case side1 => repeat (first | exact (Kd.C_below HR0.out HB.out) | (with_reducible refine Kd.C_alloc ?_ _) | (with_reducible refine Kd.C_drewN ?_ _) | (with_reducible refine Kd.C_drew ?_))); (case side2 => exact HC0.out); (case side3 => repeat (first | exact (Kd.R_reads' HO164.out).2.2 | (with_reducible refine Kd.C_alloc ?_ _) | (with_reducible refine Kd.C_drewN ?_ _) | (with_reducible refine Kd.C_drew ?_))); (case side4 => exact (Kd.R_reads' HO164.out).2.1); rintro e w' ⟨rfl, ⟨nd, rfl⟩⟩))
  go_ret
  exact ⟨by first | rfl | (simp [errW_none, errW_some] <;> rfl) | (simp [*, errW_none, errW_some] <;> rfl), by repeat (first | (with_reducible first | exact HB.out | apply below_alloc | apply pw_below_drewN | apply below_drew1) | exact HB.out)⟩
 ·replace c4 := Bool.eq_false_iff.mpr c4
  subst c4
  have H1 : (some false) = some r := by rw [if_neg (show ¬ (false = true) by decide)] at H; exact H
  clear H
  have H := H1
  clear H1
  obtain rfl := Option.some.inj H
  go_enter Try.func13, Try.ntmps13
  go_wp2_with (first | ((with_reducible refine gate_callee (f := 47) rfl ?_); refine goesL_ (some 6) rfl rfl Try.func47 (by kernel_rfl) rfl #[.slice A0 l0.length c0] rfl (by (try simp only [List.map_toArray, List.map_cons, List.map_nil]); first | done | rfl | (simp only [List.length_drop, List.length_take]; rfl)) ?_; (with_reducible refine (reckonerref02_Canonical.calls _ _ l0 false _ ?side1 ?side2 A3.out).mono ?_); (case side1 => repeat (first | exact HR0.out | (with_reducible refine Kd.C_alloc ?_ _) | (with_reducible refine Kd.C_drewN ?_ _) | (with_reducible refine Kd.C_drew ?_))); (case side2 => exact HC0.out); rintro e w' ⟨rfl, ⟨nd, rfl⟩⟩; refine ⟨_, rfl, ?_⟩))
  go_ret
  exact ⟨by first | rfl | (simp [errW_none, errW_some] <;> rfl) | (simp [*, errW_none, errW_some] <;> rfl), by repeat (first | (with_reducible first | exact HB.out | apply below_alloc | apply pw_below_drewN | apply below_drew1) | exact HB.out)⟩
end Go.Proofs.Ytkkkbalefnileaa.T
-- PRINTED by print.py (a twelfth state) out of the translation. Not trusted: Lean checks it.
namespace Go.Proofs.Ytkkkbalefnileaa.T
open Go.RowKit Go.Proofs.YtkkkbalefnileaaW.PrintWords Go.Proofs.YtkkkbalefnileaaW.PrintLast Go.Proofs.YtkkkbalefnileaaW.PrintMore
attribute [local go_sem] max2_int min2_int max_two min_two max_three min_three max_four min_four   -- for this text's walks alone
open Ytkkkbalefnileaa.Ex
set_option linter.unusedVariables false
set_option linter.unusedSimpArgs false

/-! ### reckonerref01_Times: function 65 -/
mutual
def reckonerref01_Times.l0 : Nat → List Int → List Int → List Int → Int → Option (List Int)
  | 0, _, _, _, _ => none
  | k + 1, x0, x1, x5, x6 => if x6 < (x0.length : Int) then (reckonerref01_Times.l1 k x0 x1 x5 x6 0 0) else (some x5)
def reckonerref01_Times.l1 : Nat → List Int → List Int → List Int → Int → Int → Int → Option (List Int)
  | 0, _, _, _, _, _, _ => none
  | k + 1, x0, x1, x5, x6, x7, x8 => if x8 < (x1.length : Int) then (if 0 ≤ (wrap64 (x6 + x8)) then (if (wrap64 (x6 + x8)) < (x5.length : Int) then (if 0 ≤ x6 then (if x6 < (x0.length : Int) then (if 0 ≤ x8 then (reckonerref01_Times.l1 k x0 x1 (x5.set ((wrap64 (x6 + x8)) : Int).toNat (Int.tmod (IntKind.u64.wrap ((IntKind.u64.wrap (x7 + (rd x5 (wrap64 (x6 + x8))))) + (IntKind.u64.wrap ((rd x0 x6) * (rd x1 x8))))) 4294967296)) x6 (IntKind.u64.wrap (Int.tdiv (IntKind.u64.wrap ((IntKind.u64.wrap (x7 + (rd x5 (wrap64 (x6 + x8))))) + (IntKind.u64.wrap ((rd x0 x6) * (rd x1 x8))))) 4294967296)) (wrap64 (x8 + 1))) else (none)) else (none)) else (none)) else (none)) else (none)) else (if 0 ≤ (wrap64 (x6 + (x1.length : Int))) then (if (wrap64 (x6 + (x1.length : Int))) < (x5.length : Int) then (reckonerref01_Times.l0 k x0 x1 (x5.set ((wrap64 (x6 + (x1.length : Int))) : Int).toNat x7) (wrap64 (x6 + 1))) else (none)) else (none))
end
def reckonerref01_Times.f (k : Nat) (l0 : List Int) (l1 : List Int) : Option (List Int) := if 0 ≤ (wrap64 ((l0.length : Int) + (l1.length : Int))) then (if (wrap64 ((l0.length : Int) + (l1.length : Int)) : Int).toNat ≤ 35184372088832 then (reckonerref01_Times.l0 k l0 l1 (List.replicate (wrap64 ((l0.length : Int) + (l1.length : Int)) : Int).toNat 0) 0) else (none)) else (none)
set_option maxHeartbeats 8000000 in
set_option maxRecDepth 100000 in
theorem reckonerref01_Times.calls (k : Nat) (A0 : Option Addr) (c0 : Nat) (l0 : List Int) (A1 : Option Addr) (c1 : Nat) (l1 : List Int) (r : List Int) (w : World) (hr0 : Kd.C (Kd.int .u64) w A0 l0.length l0) (hc0 : l0.length ≤ c0) (hr1 : Kd.C (Kd.int .u64) w A1 l1.length l1) (hc1 : l1.length ≤ c1) (h : reckonerref01_Times.f k l0 l1 = some r) :
  Calls Try.prog 65 #[.slice A0 l0.length c0, .slice A1 l1.length c1] w fun e w' => ∃ v0_ : Value, e = .returned (v0_) ∧ Kd.R (Kd.int .u64) 33 w' w.heap.size (fun _ => True) v0_ r ∧ Below w.heap.size w w' := by
 have HR0 := Aside0.mk hr0
 have HC0 := Aside0.mk hc0
 clear hr0 hc0
 have HR1 := Aside0.mk hr1
 have HC1 := Aside0.mk hc1
 clear hr1 hc1
 have HB := Aside0.mk (Below.refl w.heap.size w)
 have H : (if 0 ≤ (wrap64 ((l0.length : Int) + (l1.length : Int))) then (if (wrap64 ((l0.length : Int) + (l1.length : Int)) : Int).toNat ≤ 35184372088832 then (reckonerref01_Times.l0 k l0 l1 (List.replicate (wrap64 ((l0.length : Int) + (l1.length : Int)) : Int).toNat 0) 0) else (none)) else (none)) = some r := h
 clear h
 obtain ⟨ji3, hji3⟩ : ∃ j_ : Int, (wrap64 ((l0.length : Int) + (l1.length : Int))) = j_ := ⟨_, rfl⟩
 replace H : (if 0 ≤ (ji3) then (if (ji3 : Int).toNat ≤ 35184372088832 then (reckonerref01_Times.l0 k l0 l1 (List.replicate (ji3 : Int).toNat 0) 0) else (none)) else (none)) = some r := by first | (rw [hji3] at H; exact H) | (simp only [hji3] at H ⊢; exact H)
 have hji3w : (IntKind.i64.wrap ((l0.length : Int) + (l1.length : Int))) = ji3 := (i64_w _).trans hji3
 by_cases c4 : 0 ≤ (ji3)
 ·rw [if_pos c4] at H
  have c4b0 := eq_true c4
  have c4b1 : decide (0 ≤ (ji3)) = true := decide_eq_true c4
  clear c4
  by_cases c5 : (ji3 : Int).toNat ≤ 35184372088832
  ·rw [if_pos c5] at H
   have c5b0 := eq_true c5
   have c5b1 : decide ((ji3 : Int).toNat ≤ 35184372088832) = true := decide_eq_true c5
   clear c5
   obtain ⟨y166, hy166⟩ : ∃ y_ : List Int, y_ = (List.replicate (ji3 : Int).toNat 0) := ⟨_, rfl⟩
   replace H : (reckonerref01_Times.l0 k l0 l1 y166 0) = some r := by first | (rw [hy166]; with_reducible exact H) | (have H2_ := (Option.bind_some _ _).symm.trans H; rw [hy166]; with_reducible exact H2_) | (have H2_ := (Option.bind_some _ _).symm.trans H; with_reducible exact H2_) | with_reducible exact H | (rw [hy166]; exact H) | exact H
   have Ny166 := Aside0.mk hy166
   clear hy166
   have H' := Aside0.mk H
   clear H
   go_enter Try.func65, Try.ntmps65
   go_wp2_with (first | ((with_reducible refine gate_dst (N := 14) rfl ?_); refine Kd.R_make (Kd.int .u64) _ 33 rfl (N := 14) rfl 22 _ _ rfl ji3 rfl rfl Try.underlying22 (.int .u64 0) 8 info33 rfl (by decide) (by omega) 0 (ok := fun _ => True) (okp := fun _ => True) rfl (fun _ hk => hk) trivial (of_decide_eq_true (by first | (with_reducible assumption) | assumption)) (Nat.le_trans (Nat.mul_le_mul_right _ (of_decide_eq_true (by first | (with_reducible assumption) | assumption) : ji3.toNat ≤ 35184372088832)) (by omega)) (Below.refl _ _) (Nat.le_refl _) ?_; intro v167 w6 ho7 hb hg_ hnew_; clear hg_ hnew_; (first | rw [← Ny166.out] at ho7 | (simp only [Int.reduceToNat] at ho7; rw [← Ny166.out] at ho7)); have n0_ := Aside0.mk (Kd.R_lower ho7 (below_size (by repeat (first | (with_reducible first | exact HB.out | apply below_alloc | apply pw_below_drewN | apply below_drew1) | exact HB.out)))); have n1_ := Aside0.mk (below_step (by repeat (first | (with_reducible first | exact HB.out | apply below_alloc | apply pw_below_drewN | apply below_drew1) | exact HB.out)) hb); clear HB; have HO168 := n0_; have HB := n1_; clear n0_ n1_; clear hb ho7))
   repeat (go_quiet (first | ((with_reducible refine gate_dst (N := 14) rfl ?_); refine Kd.R_make (Kd.int .u64) _ 33 rfl (N := 14) rfl 22 _ _ rfl ji3 rfl rfl Try.underlying22 (.int .u64 0) 8 info33 rfl (by decide) (by omega) 0 (ok := fun _ => True) (okp := fun _ => True) rfl (fun _ hk => hk) trivial (of_decide_eq_true (by first | (with_reducible assumption) | assumption)) (Nat.le_trans (Nat.mul_le_mul_right _ (of_decide_eq_true (by first | (with_reducible assumption) | assumption) : ji3.toNat ≤ 35184372088832)) (by omega)) (Below.refl _ _) (Nat.le_refl _) ?_; intro v167 w6 ho7 hb hg_ hnew_; clear hg_ hnew_; (first | rw [← Ny166.out] at ho7 | (simp only [Int.reduceToNat] at ho7; rw [← Ny166.out] at ho7)); have n0_ := Aside0.mk (Kd.R_lower ho7 (below_size (by repeat (first | (with_reducible first | exact HB.out | apply below_alloc | apply pw_below_drewN | apply below_drew1) | exact HB.out)))); have n1_ := Aside0.mk (below_step (by repeat (first | (with_reducible first | exact HB.out | apply below_alloc | apply pw_below_drewN | apply below_drew1) | exact HB.out)) hb); clear HB; have HO168 := n0_; have HB := n1_; clear n0_ n1_; clear hb ho7)); try go_wp2_with (first | ((with_reducible refine gate_dst (N := 14) rfl ?_); refine Kd.R_make (Kd.int .u64) _ 33 rfl (N := 14) rfl 22 _ _ rfl ji3 rfl rfl Try.underlying22 (.int .u64 0) 8 info33 rfl (by decide) (by omega) 0 (ok := fun _ => True) (okp := fun _ => True) rfl (fun _ hk => hk) trivial (of_decide_eq_true (by first | (with_reducible assumption) | assumption)) (Nat.le_trans (Nat.mul_le_mul_right _ (of_decide_eq_true (by first | (with_reducible assumption) | assumption) : ji3.toNat ≤ 35184372088832)) (by omega)) (Below.refl _ _) (Nat.le_refl _) ?_; intro v167 w6 ho7 hb hg_ hnew_; clear hg_ hnew_; (first | rw [← Ny166.out] at ho7 | (simp only [Int.reduceToNat] at ho7; rw [← Ny166.out] at ho7)); have n0_ := Aside0.mk (Kd.R_lower ho7 (below_size (by repeat (first | (with_reducible first | exact HB.out | apply below_alloc | apply pw_below_drewN | apply below_drew1) | exact HB.out)))); have n1_ := Aside0.mk (below_step (by repeat (first | (with_reducible first | exact HB.out | apply below_alloc | apply pw_below_drewN | apply below_drew1) | exact HB.out)) hb); clear HB; have HO168 := n0_; have HB := n1_; clear n0_ n1_; clear hb ho7)))
   go_loopg [6] k (fun kq v6 w' => ∃ (x5_1 : List Int) (x6_1 : Int), v6 = .int .i64 x6_1 ∧ Aside0 (reckonerref01_Times.l0 kq l0 l1 x5_1 x6_1 = some r) ∧ Aside0 (kq ≤ k) ∧ Aside0 (Kd.R (Kd.int .u64) 33 w' w.heap.size (fun _ => True) v167 x5_1) ∧ Aside0 (Below w.heap.size w w'))
   case atStart => exact ⟨(y166), (0), (by first | rfl | (simp; done) | (simp [*]; done)), H', ⟨Nat.le_refl _⟩, ⟨by (with_reducible repeat (first | apply Kd.R_alloc | apply Kd.R_drewN | apply Kd.R_drew)); exact HO168.out⟩, ⟨by repeat (first | (with_reducible first | exact HB.out | apply below_alloc | apply pw_below_drewN | apply below_drew1) | exact HB.out)⟩⟩
   case round =>
    clear H'
    try clear c1
    try clear p2
    try clear c4
    try clear c4b0
    try clear c4b1
    try clear c5
    try clear c5b0
    try clear c5b1
    try clear c6
    try clear p6
    obtain ⟨x5_1, x6_1, rfl, HA, HK1, HO_5, HB⟩ := hrel
    cases gk with
    | zero => exact absurd HA.out (by simp [reckonerref01_Times.l0])
    | succ k1 =>
     have H := HA.out
     clear HA
     simp only [reckonerref01_Times.l0] at H
     by_cases c8 : x6_1 < (l0.length : Int)
     ·rw [if_pos c8] at H
      have c8b0 : decide (x6_1 < (l0.length : Int)) = true := decide_eq_true c8
      clear c8
      have H' := Aside0.mk H
      clear H
      go_wp2
      repeat (go_quiet (fail); try go_wp2)
      go_loopg [7, 8] k1 (fun kq v7 v8 w' => ∃ (x5_2 : List Int) (x7_2 : Int) (x8_2 : Int), v7 = .int .u64 x7_2 ∧ v8 = .int .i64 x8_2 ∧ Aside0 (reckonerref01_Times.l1 kq l0 l1 x5_2 x6_1 x7_2 x8_2 = some r) ∧ Aside0 (kq ≤ k1) ∧ Aside0 (Kd.R (Kd.int .u64) 33 w' w.heap.size (fun _ => True) v167 x5_2) ∧ Aside0 (Below w.heap.size w w'))
      case atStart => exact ⟨(x5_1), (0), (0), (by first | rfl | (simp; done) | (simp [*]; done)), (by first | rfl | (simp; done) | (simp [*]; done)), H', ⟨Nat.le_refl _⟩, ⟨by (with_reducible repeat (first | apply Kd.R_alloc | apply Kd.R_drewN | apply Kd.R_drew)); exact HO_5.out⟩, ⟨by repeat (first | (with_reducible first | exact HB.out | apply below_alloc | apply pw_below_drewN | apply below_drew1) | exact HB.out)⟩⟩
      case round =>
       clear H'
       try clear c1
       try clear p2
       try clear c4
       try clear c4b0
       try clear c4b1
       try clear c5
       try clear c5b0
       try clear c5b1
       try clear c6
       try clear p6
       try clear c8
       try clear c8b0
       try clear p2
       try clear p6
       obtain ⟨x5_2, x7_2, x8_2, rfl, rfl, HA, HK2, HO_5, HB⟩ := hrel
       cases gk with
       | zero => exact absurd HA.out (by simp [reckonerref01_Times.l1])
       | succ k2 =>
        have H := HA.out
        clear HA
        simp only [reckonerref01_Times.l1] at H
        by_cases c9 : x8_2 < (l1.length : Int)
        ·rw [if_pos c9] at H
         have c9b0 : decide (x8_2 < (l1.length : Int)) = true := decide_eq_true c9
         clear c9
         obtain ⟨ji10, hji10⟩ : ∃ j_ : Int, (wrap64 (x6_1 + x8_2)) = j_ := ⟨_, rfl⟩
         replace H : (if 0 ≤ (ji10) then (if (ji10) < (x5_2.length : Int) then (if 0 ≤ x6_1 then (if x6_1 < (l0.length : Int) then (if 0 ≤ x8_2 then (reckonerref01_Times.l1 k2 l0 l1 (x5_2.set ((ji10) : Int).toNat (Int.tmod (IntKind.u64.wrap ((IntKind.u64.wrap (x7_2 + (rd x5_2 (ji10)))) + (IntKind.u64.wrap ((rd l0 x6_1) * (rd l1 x8_2))))) 4294967296)) x6_1 (IntKind.u64.wrap (Int.tdiv (IntKind.u64.wrap ((IntKind.u64.wrap (x7_2 + (rd x5_2 (ji10)))) + (IntKind.u64.wrap ((rd l0 x6_1) * (rd l1 x8_2))))) 4294967296)) (wrap64 (x8_2 + 1))) else (none)) else (none)) else (none)) else (none)) else (none)) = some r := by first | (rw [hji10] at H; exact H) | (simp only [hji10] at H ⊢; exact H)
         have hji10w : (IntKind.i64.wrap (x6_1 + x8_2)) = ji10 := (i64_w _).trans hji10
         by_cases c11 : 0 ≤ (ji10)
         ·rw [if_pos c11] at H
          have c11b0 : decide (0 ≤ (ji10)) = true := decide_eq_true c11
          clear c11
          by_cases c12 : (ji10) < (x5_2.length : Int)
          ·rw [if_pos c12] at H
           have c12b0 : decide ((ji10) < (x5_2.length : Int)) = true := decide_eq_true c12
           clear c12
           by_cases c13 : 0 ≤ x6_1
           ·rw [if_pos c13] at H
            have c13b0 : decide (0 ≤ x6_1) = true := decide_eq_true c13
            clear c13
            by_cases c14 : x6_1 < (l0.length : Int)
            ·rw [if_pos c14] at H
             have c14b0 : decide (x6_1 < (l0.length : Int)) = true := decide_eq_true c14
             clear c14
             by_cases c15 : 0 ≤ x8_2
             ·rw [if_pos c15] at H
              have c15b0 : decide (0 ≤ x8_2) = true := decide_eq_true c15
              clear c15
              obtain ⟨y172, hy172⟩ : ∃ y_ : List Int, y_ = (x5_2.set ((ji10) : Int).toNat (Int.tmod (IntKind.u64.wrap ((IntKind.u64.wrap (x7_2 + (rd x5_2 (ji10)))) + (IntKind.u64.wrap ((rd l0 x6_1) * (rd l1 x8_2))))) 4294967296)) := ⟨_, rfl⟩
              replace H : (reckonerref01_Times.l1 k2 l0 l1 y172 x6_1 (IntKind.u64.wrap (Int.tdiv (IntKind.u64.wrap ((IntKind.u64.wrap (x7_2 + (rd x5_2 (ji10)))) + (IntKind.u64.wrap ((rd l0 x6_1) * (rd l1 x8_2))))) 4294967296)) (wrap64 (x8_2 + 1))) = some r := by first | (rw [hy172]; with_reducible exact H) | (have H2_ := (Option.bind_some _ _).symm.trans H; rw [hy172]; with_reducible exact H2_) | (have H2_ := (Option.bind_some _ _).symm.trans H; with_reducible exact H2_) | with_reducible exact H | (rw [hy172]; exact H) | exact H
              have Ny172 := Aside0.mk hy172
              clear hy172
              have H' := Aside0.mk H
              clear H
              obtain ⟨Ao17, co17, eo17⟩ := Kd.R_slice HO_5.out
              subst eo17
              have p169 : 0 ≤ ((ji10) : Int) := of_decide_eq_true (by first | (with_reducible assumption) | assumption)
              have q169 : (ji10) < (x5_2.length : Int) := of_decide_eq_true (by first | (with_reducible assumption) | assumption)
              obtain ⟨ad169, e169, hx169_0⟩ := Kd.at_int (Kd.R_reads' HO_5.out).2.2 (ji10) p169 q169
              cases e169
              replace p169 := eq_true p169
              replace q169 := eq_true q169
              have p170 : 0 ≤ (x6_1 : Int) := of_decide_eq_true (by first | (with_reducible assumption) | assumption)
              have q170 : x6_1 < (l0.length : Int) := of_decide_eq_true (by first | (with_reducible assumption) | assumption)
              obtain ⟨ad170, e170, hx170_0⟩ := Kd.at_int HR0.out x6_1 p170 q170
              cases e170
              replace hx170_0 := (HB.out.cell (World.block_lt_of_cell? w _ hx170_0)).trans hx170_0
              replace p170 := eq_true p170
              replace q170 := eq_true q170
              have p171 : 0 ≤ (x8_2 : Int) := of_decide_eq_true (by first | (with_reducible assumption) | assumption)
              have q171 : x8_2 < (l1.length : Int) := of_decide_eq_true (by first | (with_reducible assumption) | assumption)
              obtain ⟨ad171, e171, hx171_0⟩ := Kd.at_int HR1.out x8_2 p171 q171
              cases e171
              replace hx171_0 := (HB.out.cell (World.block_lt_of_cell? w _ hx171_0)).trans hx171_0
              replace p171 := eq_true p171
              replace q171 := eq_true q171
              have p16 : 0 ≤ ((ji10) : Int) := of_decide_eq_true (by first | (with_reducible assumption) | assumption)
              have q16 : ((ji10) : Int) < ((x5_2.length : Int) : Int) := of_decide_eq_true (by first | (with_reducible assumption) | assumption)
              obtain ⟨go16, co16, eo16, gb16, gl16, cl16, HG16⟩ := Kd.R_form HO_5.out (by omega)
              (first | cases eo16 | (injection eo16 with ea_ en_ ec_; (first | subst ea_ | (injection ea_ with ea_; subst ea_)); subst ec_; clear en_))
              have GB16 := Aside0.mk gb16
              have GG16 := Aside0.mk HG16
              clear gb16 gl16 HG16
              (first | simp only [add_plain] at hx169_0 | skip)
              obtain ⟨hx16_0, hf16_0⟩ := Kd.R_celln 0 HO_5.out ((ji10) : Int) p16 q16
              replace p16 := eq_true p16
              replace q16 := eq_true q16
              have HP18 := Kd.R_putg HO_5.out ((ji10) : Int) (Int.tmod (IntKind.u64.wrap ((IntKind.u64.wrap (x7_2 + (rd x5_2 (ji10)))) + (IntKind.u64.wrap ((rd l0 x6_1) * (rd l1 x8_2))))) 4294967296)
              go_wp2_with (first | ((with_reducible refine gate_store (t := 33) (p := 51) rfl ?_); (try (rw [drewN_self wr]; generalize hq_ : World.drewN wr _ = wr; have n0_ := Aside0.mk (Kd.R_at hq_ HO_5.out); have n1_ := Aside0.mk (below_at hq_ HB.out); clear hq_ HO_5 HB; have HO_5 := n0_; have HB := n1_; clear n0_ n1_; (try (have HP18 := Kd.R_putg HO_5.out ((ji10) : Int) (Int.tmod (IntKind.u64.wrap ((IntKind.u64.wrap (x7_2 + (rd x5_2 (ji10)))) + (IntKind.u64.wrap ((rd l0 x6_1) * (rd l1 x8_2))))) 4294967296))))); refine store_event (t := 33) (p := 51) (v := ?vo_w19) (w1 := (wr.setCell ⟨go16, ((ji10) : Int).toNat, none⟩ (.int .u64 (Int.tmod (IntKind.u64.wrap ((IntKind.u64.wrap (x7_2 + (rd x5_2 (ji10)))) + (IntKind.u64.wrap ((rd l0 x6_1) * (rd l1 x8_2))))) 4294967296)))) ?hg ?ho ?hn ?hr ?_; (case ho => rfl); (case hg => rfl); (case hn => rfl); (case hr => first | (go_simp; done) | (go_simp; rfl)); intro w19 hw; have hg : wr.grownBy w19 (some go16) := (by rw [hw]; exact HP18.2); have hp_ : Kd.R (Kd.int .u64) 33 w19 w.heap.size (fun _ => True) (.slice (some ⟨go16, 0, none⟩) x5_2.length co17) y172 := (by rw [hw, Ny172.out]; exact HP18.1); clear HP18; have n0_ := Aside0.mk (hp_); have n1_ := Aside0.mk ((by rw [hw]; exact below_set (HB.out) GB16.out : Below w.heap.size w w19)); clear HO_5; clear HB; have HO_5 := n0_; have HB := n1_; clear n0_ n1_; clear hg hw hp_))
              repeat (go_quiet (first | ((with_reducible refine gate_store (t := 33) (p := 51) rfl ?_); (try (rw [drewN_self wr]; generalize hq_ : World.drewN wr _ = wr; have n0_ := Aside0.mk (Kd.R_at hq_ HO_5.out); have n1_ := Aside0.mk (below_at hq_ HB.out); clear hq_ HO_5 HB; have HO_5 := n0_; have HB := n1_; clear n0_ n1_; (try (have HP18 := Kd.R_putg HO_5.out ((ji10) : Int) (Int.tmod (IntKind.u64.wrap ((IntKind.u64.wrap (x7_2 + (rd x5_2 (ji10)))) + (IntKind.u64.wrap ((rd l0 x6_1) * (rd l1 x8_2))))) 4294967296))))); refine store_event (t := 33) (p := 51) (v := ?vo_w19) (w1 := (wr.setCell ⟨go16, ((ji10) : Int).toNat, none⟩ (.int .u64 (Int.tmod (IntKind.u64.wrap ((IntKind.u64.wrap (x7_2 + (rd x5_2 (ji10)))) + (IntKind.u64.wrap ((rd l0 x6_1) * (rd l1 x8_2))))) 4294967296)))) ?hg ?ho ?hn ?hr ?_; (case ho => rfl); (case hg => rfl); (case hn => rfl); (case hr => first | (go_simp; done) | (go_simp; rfl)); intro w19 hw; have hg : wr.grownBy w19 (some go16) := (by rw [hw]; exact HP18.2); have hp_ : Kd.R (Kd.int .u64) 33 w19 w.heap.size (fun _ => True) (.slice (some ⟨go16, 0, none⟩) x5_2.length co17) y172 := (by rw [hw, Ny172.out]; exact HP18.1); clear HP18; have n0_ := Aside0.mk (hp_); have n1_ := Aside0.mk ((by rw [hw]; exact below_set (HB.out) GB16.out : Below w.heap.size w w19)); clear HO_5; clear HB; have HO_5 := n0_; have HB := n1_; clear n0_ n1_; clear hg hw hp_)); try go_wp2_with (first | ((with_reducible refine gate_store (t := 33) (p := 51) rfl ?_); (try (rw [drewN_self wr]; generalize hq_ : World.drewN wr _ = wr; have n0_ := Aside0.mk (Kd.R_at hq_ HO_5.out); have n1_ := Aside0.mk (below_at hq_ HB.out); clear hq_ HO_5 HB; have HO_5 := n0_; have HB := n1_; clear n0_ n1_; (try (have HP18 := Kd.R_putg HO_5.out ((ji10) : Int) (Int.tmod (IntKind.u64.wrap ((IntKind.u64.wrap (x7_2 + (rd x5_2 (ji10)))) + (IntKind.u64.wrap ((rd l0 x6_1) * (rd l1 x8_2))))) 4294967296))))); refine store_event (t := 33) (p := 51) (v := ?vo_w19) (w1 := (wr.setCell ⟨go16, ((ji10) : Int).toNat, none⟩ (.int .u64 (Int.tmod (IntKind.u64.wrap ((IntKind.u64.wrap (x7_2 + (rd x5_2 (ji10)))) + (IntKind.u64.wrap ((rd l0 x6_1) * (rd l1 x8_2))))) 4294967296)))) ?hg ?ho ?hn ?hr ?_; (case ho => rfl); (case hg => rfl); (case hn => rfl); (case hr => first | (go_simp; done) | (go_simp; rfl)); intro w19 hw; have hg : wr.grownBy w19 (some go16) := (by rw [hw]; exact HP18.2); have hp_ : Kd.R (Kd.int .u64) 33 w19 w.heap.size (fun _ => True) (.slice (some ⟨go16, 0, none⟩) x5_2.length co17) y172 := (by rw [hw, Ny172.out]; exact HP18.1); clear HP18; have n0_ := Aside0.mk (hp_); have n1_ := Aside0.mk ((by rw [hw]; exact below_set (HB.out) GB16.out : Below w.heap.size w w19)); clear HO_5; clear HB; have HO_5 := n0_; have HB := n1_; clear n0_ n1_; clear hg hw hp_)))
              go_roundg k2
              case measure => have := HK1.out; have := HK2.out; omega
              case rel => exact ⟨(y172), (IntKind.u64.wrap (Int.tdiv (IntKind.u64.wrap ((IntKind.u64.wrap (x7_2 + (rd x5_2 (ji10)))) + (IntKind.u64.wrap ((rd l0 x6_1) * (rd l1 x8_2))))) 4294967296)), (wrap64 (x8_2 + 1)), (by first | rfl | (simp; done) | (simp only [← hji10] <;> (first | rfl | simp)) | (simp [*]; done)), (by first | rfl | (simp; done) | (simp [*]; done)), H', ⟨by have := HK1.out; have := HK2.out; omega⟩, ⟨by first | ((with_reducible repeat (first | apply Kd.R_alloc | apply Kd.R_drewN | apply Kd.R_drew)); exact HO_5.out) | (rw [Ny172.out]; exact (Kd.R_putg (Kd.R_drewN HO_5.out _) _ _).1)⟩, ⟨by first | ((repeat (first | (with_reducible first | exact HB.out | apply below_alloc | apply pw_below_drewN | apply below_drew1) | exact HB.out)); done) | (refine Below.setCell (pw_below_drewN HB.out _) ?_ _; exact Kd.R_base HO_5.out _ rfl)⟩⟩
             ·rw [if_neg c15] at H
              exact absurd H (by simp)
            ·rw [if_neg c14] at H
             exact absurd H (by simp)
           ·rw [if_neg c13] at H
            exact absurd H (by simp)
          ·rw [if_neg c12] at H
           exact absurd H (by simp)
         ·rw [if_neg c11] at H
          exact absurd H (by simp)
        ·rw [if_neg c9] at H
         have c9b0 : decide (x8_2 < (l1.length : Int)) = false := decide_eq_false c9
         clear c9
         obtain ⟨ji20, hji20⟩ : ∃ j_ : Int, (wrap64 (x6_1 + (l1.length : Int))) = j_ := ⟨_, rfl⟩
         replace H : (if 0 ≤ (ji20) then (if (ji20) < (x5_2.length : Int) then (reckonerref01_Times.l0 k2 l0 l1 (x5_2.set ((ji20) : Int).toNat x7_2) (wrap64 (x6_1 + 1))) else (none)) else (none)) = some r := by first | (rw [hji20] at H; exact H) | (simp only [hji20] at H ⊢; exact H)
         have hji20w : (IntKind.i64.wrap (x6_1 + (l1.length : Int))) = ji20 := (i64_w _).trans hji20
         by_cases c21 : 0 ≤ (ji20)
         ·rw [if_pos c21] at H
          have c21b0 : decide (0 ≤ (ji20)) = true := decide_eq_true c21
          clear c21
          by_cases c22 : (ji20) < (x5_2.length : Int)
          ·rw [if_pos c22] at H
           have c22b0 : decide ((ji20) < (x5_2.length : Int)) = true := decide_eq_true c22
           clear c22
           obtain ⟨y173, hy173⟩ : ∃ y_ : List Int, y_ = (x5_2.set ((ji20) : Int).toNat x7_2) := ⟨_, rfl⟩
           replace H : (reckonerref01_Times.l0 k2 l0 l1 y173 (wrap64 (x6_1 + 1))) = some r := by first | (rw [hy173]; with_reducible exact H) | (have H2_ := (Option.bind_some _ _).symm.trans H; rw [hy173]; with_reducible exact H2_) | (have H2_ := (Option.bind_some _ _).symm.trans H; with_reducible exact H2_) | with_reducible exact H | (rw [hy173]; exact H) | exact H
           have Ny173 := Aside0.mk hy173
           clear hy173
           have H' := Aside0.mk H
           clear H
           have p23 : 0 ≤ ((ji20) : Int) := of_decide_eq_true (by first | (with_reducible assumption) | assumption)
           have q23 : ((ji20) : Int) < ((x5_2.length : Int) : Int) := of_decide_eq_true (by first | (with_reducible assumption) | assumption)
           obtain ⟨go23, co23, eo23, gb23, gl23, cl23, HG23⟩ := Kd.R_form HO_5.out (by omega)
           (first | cases eo23 | (injection eo23 with ea_ en_ ec_; (first | subst ea_ | (injection ea_ with ea_; subst ea_)); subst ec_; clear en_))
           have GB23 := Aside0.mk gb23
           have GG23 := Aside0.mk HG23
           clear gb23 gl23 HG23
           obtain ⟨hx23_0, hf23_0⟩ := Kd.R_celln 0 HO_5.out ((ji20) : Int) p23 q23
           replace p23 := eq_true p23
           replace q23 := eq_true q23
           have HP24 := Kd.R_putg HO_5.out ((ji20) : Int) x7_2
           go_wp2_with (first | ((with_reducible refine gate_store (t := 33) (p := 60) rfl ?_); (try (rw [drewN_self wr]; generalize hq_ : World.drewN wr _ = wr; have n0_ := Aside0.mk (Kd.R_at hq_ HO_5.out); have n1_ := Aside0.mk (below_at hq_ HB.out); clear hq_ HO_5 HB; have HO_5 := n0_; have HB := n1_; clear n0_ n1_; (try (have HP24 := Kd.R_putg HO_5.out ((ji20) : Int) x7_2)))); refine store_event (t := 33) (p := 60) (v := ?vo_w25) (w1 := (wr.setCell ⟨go23, ((ji20) : Int).toNat, none⟩ (.int .u64 x7_2))) ?hg ?ho ?hn ?hr ?_; (case ho => rfl); (case hg => rfl); (case hn => rfl); (case hr => first | (go_simp; done) | (go_simp; rfl)); intro w25 hw; have hg : wr.grownBy w25 (some go23) := (by rw [hw]; exact HP24.2); have hp_ : Kd.R (Kd.int .u64) 33 w25 w.heap.size (fun _ => True) (.slice (some ⟨go23, 0, none⟩) x5_2.length co23) y173 := (by rw [hw, Ny173.out]; exact HP24.1); clear HP24; have n0_ := Aside0.mk (hp_); have n1_ := Aside0.mk ((by rw [hw]; exact below_set (HB.out) GB23.out : Below w.heap.size w w25)); clear HO_5; clear HB; have HO_5 := n0_; have HB := n1_; clear n0_ n1_; clear hg hw hp_))
           repeat (go_quiet (first | ((with_reducible refine gate_store (t := 33) (p := 60) rfl ?_); (try (rw [drewN_self wr]; generalize hq_ : World.drewN wr _ = wr; have n0_ := Aside0.mk (Kd.R_at hq_ HO_5.out); have n1_ := Aside0.mk (below_at hq_ HB.out); clear hq_ HO_5 HB; have HO_5 := n0_; have HB := n1_; clear n0_ n1_; (try (have HP24 := Kd.R_putg HO_5.out ((ji20) : Int) x7_2)))); refine store_event (t := 33) (p := 60) (v := ?vo_w25) (w1 := (wr.setCell ⟨go23, ((ji20) : Int).toNat, none⟩ (.int .u64 x7_2))) ?hg ?ho ?hn ?hr ?_; (case ho => rfl); (case hg => rfl); (case hn => rfl); (case hr => first | (go_simp; done) | (go_simp; rfl)); intro w25 hw; have hg : wr.grownBy w25 (some go23) := (by rw [hw]; exact HP24.2); have hp_ : Kd.R (Kd.int .u64) 33 w25 w.heap.size (fun _ => True) (.slice (some ⟨go23, 0, none⟩) x5_2.length co23) y173 := (by rw [hw, Ny173.out]; exact HP24.1); clear HP24; have n0_ := Aside0.mk (hp_); have n1_ := Aside0.mk ((by rw [hw]; exact below_set (HB.out) GB23.out : Below w.heap.size w w25)); clear HO_5; clear HB; have HO_5 := n0_; have HB := n1_; clear n0_ n1_; clear hg hw hp_)); try go_wp2_with (first | ((with_reducible refine gate_store (t := 33) (p := 60) rfl ?_); (try (rw [drewN_self wr]; generalize hq_ : World.drewN wr _ = wr; have n0_ := Aside0.mk (Kd.R_at hq_ HO_5.out); have n1_ := Aside0.mk (below_at hq_ HB.out); clear hq_ HO_5 HB; have HO_5 := n0_; have HB := n1_; clear n0_ n1_; (try (have HP24 := Kd.R_putg HO_5.out ((ji20) : Int) x7_2)))); refine store_event (t := 33) (p := 60) (v := ?vo_w25) (w1 := (wr.setCell ⟨go23, ((ji20) : Int).toNat, none⟩ (.int .u64 x7_2))) ?hg ?ho ?hn ?hr ?_; (case ho => rfl); (case hg => rfl); (case hn => rfl); (case hr => first | (go_simp; done) | (go_simp; rfl)); intro w25 hw; have hg : wr.grownBy w25 (some go23) := (by rw [hw]; exact HP24.2); have hp_ : Kd.R (Kd.int .u64) 33 w25 w.heap.size (fun _ => True) (.slice (some ⟨go23, 0, none⟩) x5_2.length co23) y173 := (by rw [hw, Ny173.out]; exact HP24.1); clear HP24; have n0_ := Aside0.mk (hp_); have n1_ := Aside0.mk ((by rw [hw]; exact below_set (HB.out) GB23.out : Below w.heap.size w w25)); clear HO_5; clear HB; have HO_5 := n0_; have HB := n1_; clear n0_ n1_; clear hg hw hp_)))
           go_roundg k2
           case measure => have := HK1.out; have := HK2.out; omega
           case rel => exact ⟨(y173), (wrap64 (x6_1 + 1)), (by first | rfl | (simp; done) | (simp [*]; done)), H', ⟨by have := HK1.out; have := HK2.out; omega⟩, ⟨by first | ((with_reducible repeat (first | apply Kd.R_alloc | apply Kd.R_drewN | apply Kd.R_drew)); exact HO_5.out) | (rw [Ny173.out]; exact (Kd.R_putg (Kd.R_drewN HO_5.out _) _ _).1)⟩, ⟨by first | ((repeat (first | (with_reducible first | exact HB.out | apply below_alloc | apply pw_below_drewN | apply below_drew1) | exact HB.out)); done) | (refine Below.setCell (pw_below_drewN HB.out _) ?_ _; exact Kd.R_base HO_5.out _ rfl)⟩⟩
          ·rw [if_neg c22] at H
           exact absurd H (by simp)
         ·rw [if_neg c21] at H
          exact absurd H (by simp)
     ·rw [if_neg c8] at H
      have c8b0 : decide (x6_1 < (l0.length : Int)) = false := decide_eq_false c8
      clear c8
      obtain rfl := Option.some.inj H
      go_wp2
      repeat (go_quiet (fail); try go_wp2)
      go_ret
      exact ⟨_, by first | rfl | (simp [errW_none, errW_some] <;> rfl) | (simp only [← hji3]; first | rfl | (simp [errW_none, errW_some] <;> rfl)) | (simp [*, errW_none, errW_some] <;> rfl), by (with_reducible repeat (first | apply Kd.R_alloc | apply Kd.R_drewN | apply Kd.R_drew)); exact HO_5.out, by repeat (first | (with_reducible first | exact HB.out | apply below_alloc | apply pw_below_drewN | apply below_drew1) | exact HB.out)⟩
  ·rw [if_neg c5] at H
   exact absurd H (by simp)
 ·rw [if_neg c4] at H
  exact absurd H (by simp)
/-! ### reckonerref02_Mul: function 23 -/
def reckonerref02_Mul.f (k : Nat) (l0 : List Int) (l1 : List Int) : Option (List Int) := (reckonerref01_Digits.f k l0).bind fun t174 => ((reckonerref01_Digits.f k l1).bind fun t177 => ((reckonerref01_Times.f k t174 t177).bind fun t180 => ((reckonerref02_nat.f k t180).bind fun t183 => (some t183))))
set_option maxHeartbeats 8000000 in
set_option maxRecDepth 100000 in
theorem reckonerref02_Mul.calls (k : Nat) (A0 : Option Addr) (c0 : Nat) (l0 : List Int) (A1 : Option Addr) (c1 : Nat) (l1 : List Int) (r : List Int) (w : World) (hr0 : Kd.C (Kd.int .u64) w A0 l0.length l0) (hc0 : l0.length ≤ c0) (hr1 : Kd.C (Kd.int .u64) w A1 l1.length l1) (hc1 : l1.length ≤ c1) (h : reckonerref02_Mul.f k l0 l1 = some r) :
  Calls Try.prog 23 #[.slice A0 l0.length c0, .slice A1 l1.length c1] w fun e w' => ∃ v0_ : Value, e = .returned (v0_) ∧ Kd.R (Kd.int .u64) 33 w' w.heap.size (fun _ => True) v0_ r ∧ Below w.heap.size w w' := by
 have HR0 := Aside0.mk hr0
 have HC0 := Aside0.mk hc0
 clear hr0 hc0
 have HR1 := Aside0.mk hr1
 have HC1 := Aside0.mk hc1
 clear hr1 hc1
 have HB := Aside0.mk (Below.refl w.heap.size w)
 have H : ((reckonerref01_Digits.f k l0).bind fun t174 => ((reckonerref01_Digits.f k l1).bind fun t177 => ((reckonerref01_Times.f k t174 t177).bind fun t180 => ((reckonerref02_nat.f k t180).bind fun t183 => (some t183))))) = some r := h
 clear h
 replace H := Option.bind_eq_some_iff.mp H
 obtain ⟨t174, A30, H⟩ := H
 replace H : ((reckonerref01_Digits.f k l1).bind fun t177 => ((reckonerref01_Times.f k t174 t177).bind fun t180 => ((reckonerref02_nat.f k t180).bind fun t183 => (some t183)))) = some r := H
 have A3 := Aside0.mk A30
 clear A30
 replace H := Option.bind_eq_some_iff.mp H
 obtain ⟨t177, A40, H⟩ := H
 replace H : ((reckonerref01_Times.f k t174 t177).bind fun t180 => ((reckonerref02_nat.f k t180).bind fun t183 => (some t183))) = some r := H
 have A4 := Aside0.mk A40
 clear A40
 replace H := Option.bind_eq_some_iff.mp H
 obtain ⟨t180, A50, H⟩ := H
 replace H : ((reckonerref02_nat.f k t180).bind fun t183 => (some t183)) = some r := H
 have A5 := Aside0.mk A50
 clear A50
 replace H := Option.bind_eq_some_iff.mp H
 obtain ⟨t183, A60, H⟩ := H
 replace H : (some t183) = some r := H
 have A6 := Aside0.mk A60
 clear A60
 obtain rfl := Option.some.inj H
 go_enter Try.func23, Try.ntmps23
 go_wp2_with (first | ((with_reducible refine gate_callee (f := 57) rfl ?_); refine goesL_ (some 6) rfl rfl Try.func57 (by kernel_rfl) rfl #[.slice A0 l0.length c0] rfl (by (try simp only [List.map_toArray, List.map_cons, List.map_nil]); first | done | rfl | (simp only [List.length_drop, List.length_take]; rfl)) ?_; (with_reducible refine (reckonerref01_Digits.calls k _ _ l0 t174 _ ?side1 ?side2 A3.out).mono ?_); (case side1 => repeat (first | exact HR0.out | (with_reducible refine Kd.C_alloc ?_ _) | (with_reducible refine Kd.C_drewN ?_ _) | (with_reducible refine Kd.C_drew ?_))); (case side2 => exact HC0.out); rintro e w7 ⟨v175, rfl, ho0, hb⟩; refine ⟨_, rfl, ?_⟩; have n0_ := Aside0.mk (Kd.R_lower ho0 (below_size (by repeat (first | (with_reducible first | exact HB.out | apply below_alloc | apply pw_below_drewN | apply below_drew1) | exact HB.out)))); have n1_ := Aside0.mk (below_step (by repeat (first | (with_reducible first | exact HB.out | apply below_alloc | apply pw_below_drewN | apply below_drew1) | exact HB.out)) hb); clear HB; have HO176 := n0_; have HB := n1_; clear n0_ n1_; (try clear hb); (try clear hb2); (try clear hk); (try clear hi); (try clear ho0)) | ((with_reducible refine gate_callee (f := 57) rfl ?_); refine goesL_ (some 8) rfl rfl Try.func57 (by kernel_rfl) rfl #[.slice A1 l1.length c1] rfl (by (try simp only [List.map_toArray, List.map_cons, List.map_nil]); first | done | rfl | (simp only [List.length_drop, List.length_take]; rfl)) ?_; (with_reducible refine (reckonerref01_Digits.calls k _ _ l1 t177 _ ?side1 ?side2 A4.out).mono ?_); (case side1 => repeat (first | exact (Kd.C_below HR1.out HB.out) | (with_reducible refine Kd.C_alloc ?_ _) | (with_reducible refine Kd.C_drewN ?_ _) | (with_reducible refine Kd.C_drew ?_))); (case side2 => exact HC1.out); rintro e w8 ⟨v178, rfl, ho0, hb⟩; refine ⟨_, rfl, ?_⟩; have n0_ := Aside0.mk (Kd.R_elder' (by (with_reducible repeat (first | apply Kd.R_alloc | apply Kd.R_drewN | apply Kd.R_drew)); exact HO176.out) (Kd.R_base ho0) hb); have n1_ := Aside0.mk (Kd.R_lower (Kd.R_new' ho0 (Kd.R_lt (by (with_reducible repeat (first | apply Kd.R_alloc | apply Kd.R_drewN | apply Kd.R_drew)); exact HO176.out))) (below_size (by repeat (first | (with_reducible first | exact HB.out | apply below_alloc | apply pw_below_drewN | apply below_drew1) | exact HB.out)))); have n2_ := Aside0.mk (below_step (by repeat (first | (with_reducible first | exact HB.out | apply below_alloc | apply pw_below_drewN | apply below_drew1) | exact HB.out)) hb); clear HO176; clear HB; have HO176 := n0_; have HO179 := n1_; have HB := n2_; clear n0_ n1_ n2_; (try clear hb); (try clear hb2); (try clear hk); (try clear hi); (try clear ho0); obtain ⟨Ao9, co9, eo9⟩ := Kd.R_slice HO176.out; subst eo9; obtain ⟨Ao10, co10, eo10⟩ := Kd.R_slice HO179.out; subst eo10) | ((with_reducible refine gate_callee (f := 65) rfl ?_); refine goesL_ (some 9) rfl rfl Try.func65 (by kernel_rfl) rfl #[.slice Ao9 t174.length co9, .slice Ao10 t177.length co10] rfl (by (try simp only [List.map_toArray, List.map_cons, List.map_nil]); first | done | rfl | (simp only [List.length_drop, List.length_take]; rfl)) ?_; (with_reducible refine (reckonerref01_Times.calls k _ _ t174 _ _ t177 t180 _ ?side1 ?side2 ?side3 ?side4 A5.out).mono ?_); (case side1 => repeat (first | exact (Kd.R_reads' HO176.out).2.2 | (with_reducible refine Kd.C_alloc ?_ _) | (with_reducible refine Kd.C_drewN ?_ _) | (with_reducible refine Kd.C_drew ?_))); (case side2 => exact (Kd.R_reads' HO176.out).2.1); (case side3 => repeat (first | exact (Kd.R_reads' HO179.out).2.2 | (with_reducible refine Kd.C_alloc ?_ _) | (with_reducible refine Kd.C_drewN ?_ _) | (with_reducible refine Kd.C_drew ?_))); (case side4 => exact (Kd.R_reads' HO179.out).2.1); rintro e w11 ⟨v181, rfl, ho0, hb⟩; refine ⟨_, rfl, ?_⟩; have n0_ := Aside0.mk (Kd.R_elder' (by (with_reducible repeat (first | apply Kd.R_alloc | apply Kd.R_drewN | apply Kd.R_drew)); exact HO176.out) (Kd.R_base ho0) hb); have n1_ := Aside0.mk (Kd.R_elder' (by (with_reducible repeat (first | apply Kd.R_alloc | apply Kd.R_drewN | apply Kd.R_drew)); exact HO179.out) (Kd.R_base ho0) hb); have n2_ := Aside0.mk (Kd.R_lower (Kd.R_new' (Kd.R_new' ho0 (Kd.R_lt (by (with_reducible repeat (first | apply Kd.R_alloc | apply Kd.R_drewN | apply Kd.R_drew)); exact HO176.out))) (Kd.R_lt (by (with_reducible repeat (first | apply Kd.R_alloc | apply Kd.R_drewN | apply Kd.R_drew)); exact HO179.out))) (below_size (by repeat (first | (with_reducible first | exact HB.out | apply below_alloc | apply pw_below_drewN | apply below_drew1) | exact HB.out)))); have n3_ := Aside0.mk (below_step (by repeat (first | (with_reducible first | exact HB.out | apply below_alloc | apply pw_below_drewN | apply below_drew1) | exact HB.out)) hb); clear HO176; clear HO179; clear HB; have HO176 := n0_; have HO179 := n1_; have HO182 := n2_; have HB := n3_; clear n0_ n1_ n2_ n3_; (try clear hb); (try clear hb2); (try clear hk); (try clear hi); (try clear ho0); obtain ⟨Ao12, co12, eo12⟩ := Kd.R_slice HO182.out; subst eo12) | ((with_reducible refine gate_callee (f := 58) rfl ?_); refine goesL_ (some 10) rfl rfl Try.func58 (by kernel_rfl) rfl #[.slice Ao12 t180.length co12] rfl (by (try simp only [List.map_toArray, List.map_cons, List.map_nil]); first | done | rfl | (simp only [List.length_drop, List.length_take]; rfl)) ?_; (with_reducible refine (reckonerref02_nat.calls k _ _ t180 t183 _ ?side1 ?side2 A6.out).mono ?_); (case side1 => repeat (first | exact (Kd.R_reads' HO182.out).2.2 | (with_reducible refine Kd.C_alloc ?_ _) | (with_reducible refine Kd.C_drewN ?_ _) | (with_reducible refine Kd.C_drew ?_))); (case side2 => exact (Kd.R_reads' HO182.out).2.1); rintro e w13 ⟨v184, rfl, ho0, hb⟩; refine ⟨_, rfl, ?_⟩; have n0_ := Aside0.mk (Kd.R_elder' (by (with_reducible repeat (first | apply Kd.R_alloc | apply Kd.R_drewN | apply Kd.R_drew)); exact HO176.out) (Kd.R_base ho0) hb); have n1_ := Aside0.mk (Kd.R_elder' (by (with_reducible repeat (first | apply Kd.R_alloc | apply Kd.R_drewN | apply Kd.R_drew)); exact HO179.out) (Kd.R_base ho0) hb); have n2_ := Aside0.mk (Kd.R_elder' (by (with_reducible repeat (first | apply Kd.R_alloc | apply Kd.R_drewN | apply Kd.R_drew)); exact HO182.out) (Kd.R_base ho0) hb); have n3_ := Aside0.mk (Kd.R_lower (Kd.R_new' (Kd.R_new' (Kd.R_new' ho0 (Kd.R_lt (by (with_reducible repeat (first | apply Kd.R_alloc | apply Kd.R_drewN | apply Kd.R_drew)); exact HO176.out))) (Kd.R_lt (by (with_reducible repeat (first | apply Kd.R_alloc | apply Kd.R_drewN | apply Kd.R_drew)); exact HO179.out))) (Kd.R_lt (by (with_reducible repeat (first | apply Kd.R_alloc | apply Kd.R_drewN | apply Kd.R_drew)); exact HO182.out))) (below_size (by repeat (first | (with_reducible first | exact HB.out | apply below_alloc | apply pw_below_drewN | apply below_drew1) | exact HB.out)))); have n4_ := Aside0.mk (below_step (by repeat (first | (with_reducible first | exact HB.out | apply below_alloc | apply pw_below_drewN | apply below_drew1) | exact HB.out)) hb); clear HO176; clear HO179; clear HO182; clear HB; have HO176 := n0_; have HO179 := n1_; have HO182 := n2_; have HO185 := n3_; have HB := n4_; clear n0_ n1_ n2_ n3_ n4_; (try clear hb); (try clear hb2); (try clear hk); (try clear hi); (try clear ho0)))
 go_ret
 exact ⟨_, by first | rfl | (simp [errW_none, errW_some] <;> rfl) | (simp [*, errW_none, errW_some] <;> rfl), by (with_reducible repeat (first | apply Kd.R_alloc | apply Kd.R_drewN | apply Kd.R_drew)); exact Kd.R_mono HO185.out (fun _ hk => trivial), by repeat (first | (with_reducible first | exact HB.out | apply below_alloc | apply pw_below_drewN | apply below_drew1) | exact HB.out)⟩
/-! ### reckonerref01_Word: function 81 -/
def reckonerref01_Word.f (a0 : Int) : Option (List Int) := some (([Int.tmod a0 4294967296, IntKind.u64.wrap (Int.tdiv a0 4294967296)] : List Int))
set_option maxHeartbeats 8000000 in
set_option maxRecDepth 100000 in
theorem reckonerref01_Word.calls (a0 : Int) (r : List Int) (w : World) (h : reckonerref01_Word.f a0 = some r) :
    Calls Try.prog 81 #[.int .u64 a0] w fun e w' => ∃ v0_ : Value, e = .returned (v0_) ∧ Kd.R (Kd.int .u64) 33 w' w.heap.size (fun _ => True) v0_ r ∧ Below w.heap.size w w' := by
  have HB := Aside0.mk (Below.refl w.heap.size w)
  have H : (some (([Int.tmod a0 4294967296, IntKind.u64.wrap (Int.tdiv a0 4294967296)] : List Int))) = some r := h
  clear h
  obtain ⟨y186, hy186⟩ : ∃ y_ : List Int, y_ = (([Int.tmod a0 4294967296, IntKind.u64.wrap (Int.tdiv a0 4294967296)] : List Int)) := ⟨_, rfl⟩
  replace H : (some y186) = some r := by first | (rw [hy186]; with_reducible exact H) | (have H2_ := (Option.bind_some _ _).symm.trans H; rw [hy186]; with_reducible exact H2_) | (have H2_ := (Option.bind_some _ _).symm.trans H; with_reducible exact H2_) | with_reducible exact H | (rw [hy186]; exact H) | exact H
  have Ny186 := Aside0.mk hy186
  clear hy186
  obtain rfl := Option.some.inj H
  go_enter Try.func81, Try.ntmps81
  go_wp2_with (first | ((with_reducible refine gate_dst (N := 7) rfl ?_); refine Kd.R_lit (Kd.int .u64) _ 33 ?hg (N := 7) ?hd (xs := ([Int.tmod a0 4294967296, IntKind.u64.wrap (Int.tdiv a0 4294967296)] : List Int)) (inner := [.int .u64 (Int.tmod a0 4294967296), .int .u64 (IntKind.u64.wrap (Int.tdiv a0 4294967296))]) (ok := fun _ => True) (okp := fun _ => True) ?hr ?hp (fun _ hk => hk) trivial (Below.refl _ _) (Nat.le_refl _) (by simp) ?_; (case hd => rfl); (case hg => rfl); (case hr => first | (go_simp; done) | (go_simp; rfl)); (case hp => exact (Reps.one (show Kd.M (Kd.int .u64) _ _ _ (Int.tmod a0 4294967296) [.int .u64 (Int.tmod a0 4294967296)] from rfl) (Reps.one (show Kd.M (Kd.int .u64) _ _ _ (IntKind.u64.wrap (Int.tdiv a0 4294967296)) [.int .u64 (IntKind.u64.wrap (Int.tdiv a0 4294967296))] from rfl) (Reps.none _ _)))); intro v187 w2 ho3 hb hg_ hnew_; clear hg_ hnew_; (first | rw [← Ny186.out] at ho3 | (simp only [Int.reduceToNat] at ho3; rw [← Ny186.out] at ho3)); have n0_ := Aside0.mk (Kd.R_lower ho3 (below_size (by repeat (first | (with_reducible first | exact HB.out | apply below_alloc | apply pw_below_drewN | apply below_drew1) | exact HB.out)))); have n1_ := Aside0.mk (below_step (by repeat (first | (with_reducible first | exact HB.out | apply below_alloc | apply pw_below_drewN | apply below_drew1) | exact HB.out)) hb); clear HB; have HO188 := n0_; have HB := n1_; clear n0_ n1_; clear hb ho3))
  go_ret
  exact ⟨_, by first | rfl | (simp [errW_none, errW_some] <;> rfl) | (simp [*, errW_none, errW_some] <;> rfl), by (with_reducible repeat (first | apply Kd.R_alloc | apply Kd.R_drewN | apply Kd.R_drew)); exact HO188.out, by repeat (first | (with_reducible first | exact HB.out | apply below_alloc | apply pw_below_drewN | apply below_drew1) | exact HB.out)⟩
/-! ### reckonerref02_FromWord: function 50 -/
def reckonerref02_FromWord.f (k : Nat) (a0 : Int) : Option (List Int) := (reckonerref01_Word.f a0).bind fun t189 => ((reckonerref02_nat.f k t189).bind fun t192 => (some t192))
set_option maxHeartbeats 8000000 in
set_option maxRecDepth 100000 in
theorem reckonerref02_FromWord.calls (k : Nat) (a0 : Int) (r : List Int) (w : World) (h : reckonerref02_FromWord.f k a0 = some r) :
  Calls Try.prog 50 #[.int .u64 a0] w fun e w' => ∃ v0_ : Value, e = .returned (v0_) ∧ Kd.R (Kd.int .u64) 33 w' w.heap.size (fun _ => True) v0_ r ∧ Below w.heap.size w w' := by
 have HB := Aside0.mk (Below.refl w.heap.size w)
 have H : ((reckonerref01_Word.f a0).bind fun t189 => ((reckonerref02_nat.f k t189).bind fun t192 => (some t192))) = some r := h
 clear h
 replace H := Option.bind_eq_some_iff.mp H
 obtain ⟨t189, A20, H⟩ := H
 replace H : ((reckonerref02_nat.f k t189).bind fun t192 => (some t192)) = some r := H
 have A2 := Aside0.mk A20
 clear A20
 replace H := Option.bind_eq_some_iff.mp H
 obtain ⟨t192, A30, H⟩ := H
 replace H : (some t192) = some r := H
 have A3 := Aside0.mk A30
 clear A30
 obtain rfl := Option.some.inj H
 go_enter Try.func50, Try.ntmps50
 go_wp2_with (first | ((with_reducible refine gate_callee (f := 81) rfl ?_); refine goesL_ (some 4) rfl rfl Try.func81 (by kernel_rfl) rfl #[.int .u64 a0] rfl (by (try simp only [List.map_toArray, List.map_cons, List.map_nil]); first | done | rfl | (simp only [List.length_drop, List.length_take]; rfl)) ?_; (with_reducible refine (reckonerref01_Word.calls a0 t189 _ A2.out).mono ?_); rintro e w4 ⟨v190, rfl, ho0, hb⟩; refine ⟨_, rfl, ?_⟩; have n0_ := Aside0.mk (Kd.R_lower ho0 (below_size (by repeat (first | (with_reducible first | exact HB.out | apply below_alloc | apply pw_below_drewN | apply below_drew1) | exact HB.out)))); have n1_ := Aside0.mk (below_step (by repeat (first | (with_reducible first | exact HB.out | apply below_alloc | apply pw_below_drewN | apply below_drew1) | exact HB.out)) hb); clear HB; have HO191 := n0_; have HB := n1_; clear n0_ n1_; (try clear hb); (try clear hb2); (try clear hk); (try clear hi); (try clear ho0); obtain ⟨Ao5, co5, eo5⟩ := Kd.R_slice HO191.out; subst eo5) | ((with_reducible refine gate_callee (f := 58) rfl ?_); refine goesL_ (some 5) rfl rfl Try.func58 (by kernel_rfl) rfl #[.slice Ao5 t189.length co5] rfl (by (try simp only [List.map_toArray, List.map_cons, List.map_nil]); first | done | rfl | (simp only [List.length_drop, List.length_take]; rfl)) ?_; (with_reducible refine (reckonerref02_nat.calls k _ _ t189 t192 _ ?side1 ?side2 A3.out).mono ?_); (case side1 => repeat (first | exact (Kd.R_reads' HO191.out).2.2 | (with_reducible refine Kd.C_alloc ?_ _) | (with_reducible refine Kd.C_drewN ?_ _) | (with_reducible refine Kd.C_drew ?_))); (case side2 => exact (Kd.R_reads' HO191.out).2.1); rintro e w6 ⟨v193, rfl, ho0, hb⟩; refine ⟨_, rfl, ?_⟩; have n0_ := Aside0.mk (Kd.R_elder' (by (with_reducible repeat (first | apply Kd.R_alloc | apply Kd.R_drewN | apply Kd.R_drew)); exact HO191.out) (Kd.R_base ho0) hb); have n1_ := Aside0.mk (Kd.R_lower (Kd.R_new' ho0 (Kd.R_lt (by (with_reducible repeat (first | apply Kd.R_alloc | apply Kd.R_drewN | apply Kd.R_drew)); exact HO191.out))) (below_size (by repeat (first | (with_reducible first | exact HB.out | apply below_alloc | apply pw_below_drewN | apply below_drew1) | exact HB.out)))); have n2_ := Aside0.mk (below_step (by repeat (first | (with_reducible first | exact HB.out | apply below_alloc | apply pw_below_drewN | apply below_drew1) | exact HB.out)) hb); clear HO191; clear HB; have HO191 := n0_; have HO194 := n1_; have HB := n2_; clear n0_ n1_ n2_; (try clear hb); (try clear hb2); (try clear hk); (try clear hi); (try clear ho0)))
 go_ret
 exact ⟨_, by first | rfl | (simp [errW_none, errW_some] <;> rfl) | (simp [*, errW_none, errW_some] <;> rfl), by (with_reducible repeat (first | apply Kd.R_alloc | apply Kd.R_drewN | apply Kd.R_drew)); exact Kd.R_mono HO194.out (fun _ hk => trivial), by repeat (first | (with_reducible first | exact HB.out | apply below_alloc | apply pw_below_drewN | apply below_drew1) | exact HB.out)⟩
/-! ### reckonerref02_Pow: function 14 -/
-- OURS: function 16 (nat_DivMod)

-- OURS: function 22 (nat_Square)

-- OURS: function 25 (nat_Sub)

/-! ### reckonerref01_digit: function 89 -/
def reckonerref01_digit.f (l0 : List Int) (a1 : Int) : Option (Int) := if a1 < (l0.length : Int) then (if 0 ≤ a1 then (some (rd l0 a1)) else (none)) else (some 0)
set_option maxHeartbeats 8000000 in
set_option maxRecDepth 100000 in
theorem reckonerref01_digit.calls (A0 : Option Addr) (c0 : Nat) (l0 : List Int) (a1 : Int) (r : Int) (w : World) (hr0 : Kd.C (Kd.int .u64) w A0 l0.length l0) (hc0 : l0.length ≤ c0) (h : reckonerref01_digit.f l0 a1 = some r) :
    Calls Try.prog 89 #[.slice A0 l0.length c0, .int .i64 a1] w fun e w' => e = .returned (.int .u64 r) ∧ Drawn0 w w' := by
  have HR0 := Aside0.mk hr0
  have HC0 := Aside0.mk hc0
  clear hr0 hc0
  have H : (if a1 < (l0.length : Int) then (if 0 ≤ a1 then (some (rd l0 a1)) else (none)) else (some 0)) = some r := h
  clear h
  by_cases c3 : a1 < (l0.length : Int)
  · rw [if_pos c3] at H
    have c3b0 : decide (a1 < (l0.length : Int)) = true := decide_eq_true c3
    clear c3
    by_cases c4 : 0 ≤ a1
    · rw [if_pos c4] at H
      have c4b0 : decide (0 ≤ a1) = true := decide_eq_true c4
      clear c4
      obtain rfl := Option.some.inj H
      have p210 : 0 ≤ (a1 : Int) := of_decide_eq_true (by first | (with_reducible assumption) | assumption)
      have q210 : a1 < (l0.length : Int) := of_decide_eq_true (by first | (with_reducible assumption) | assumption)
      obtain ⟨ad210, e210, hx210_0⟩ := Kd.at_int HR0.out a1 p210 q210
      cases e210
      replace p210 := eq_true p210
      replace q210 := eq_true q210
      go_enter Try.func89, Try.ntmps89
      go_wp2
      go_ret
      exact ⟨by first | rfl | (simp; done) | (simp [*]; done), by repeat (first | exact Drawn0.refl _ | apply Drawn0.step)⟩
    · rw [if_neg c4] at H
      exact absurd H (by simp)
  · rw [if_neg c3] at H
    have c3b0 : decide (a1 < (l0.length : Int)) = false := decide_eq_false c3
    clear c3
    obtain rfl := Option.some.inj H
    go_enter Try.func89, Try.ntmps89
    go_wp2
    go_ret
    exact ⟨by first | rfl | (simp; done) | (simp [*]; done), by repeat (first | exact Drawn0.refl _ | apply Drawn0.step)⟩
/-! ### reckonerref01_Plus: function 69 -/
mutual
def reckonerref01_Plus.l0 : Nat → List Int → List Int → List Int → Int → Int → Option (List Int)
  | 0, _, _, _, _, _ => none
  | k + 1, x0, x1, x5, x6, x7 => if x7 < (x0.length : Int) then (reckonerref01_Plus.j1 k x0 x1 x5 x6 x7 true) else (reckonerref01_Plus.j1 k x0 x1 x5 x6 x7 (decide (x7 < (x1.length : Int))))
def reckonerref01_Plus.j1 : Nat → List Int → List Int → List Int → Int → Int → Bool → Option (List Int)
  | 0, _, _, _, _, _, _ => none
  | k + 1, x0, x1, x5, x6, x7, x17 => if x17 = true then ((reckonerref01_digit.f x0 x7).bind fun t211 => ((reckonerref01_digit.f x1 x7).bind fun t212 => (if x5.length < 17592186044416 then (reckonerref01_Plus.l0 k x0 x1 (x5 ++ [Int.tmod (IntKind.u64.wrap ((IntKind.u64.wrap (x6 + t211)) + t212)) 4294967296]) (IntKind.u64.wrap (Int.tdiv (IntKind.u64.wrap ((IntKind.u64.wrap (x6 + t211)) + t212)) 4294967296)) (wrap64 (x7 + 1))) else (none)))) else (if x5.length < 17592186044416 then (some (x5 ++ [x6])) else (none))
end
def reckonerref01_Plus.f (k : Nat) (l0 : List Int) (l1 : List Int) : Option (List Int) := reckonerref01_Plus.l0 k l0 l1 ([] : List Int) 0 0
set_option maxHeartbeats 8000000 in
set_option maxRecDepth 100000 in
theorem reckonerref01_Plus.calls (k : Nat) (A0 : Option Addr) (c0 : Nat) (l0 : List Int) (A1 : Option Addr) (c1 : Nat) (l1 : List Int) (r : List Int) (w : World) (hr0 : Kd.C (Kd.int .u64) w A0 l0.length l0) (hc0 : l0.length ≤ c0) (hr1 : Kd.C (Kd.int .u64) w A1 l1.length l1) (hc1 : l1.length ≤ c1) (h : reckonerref01_Plus.f k l0 l1 = some r) :
  Calls Try.prog 69 #[.slice A0 l0.length c0, .slice A1 l1.length c1] w fun e w' => ∃ v0_ : Value, e = .returned (v0_) ∧ Kd.R (Kd.int .u64) 33 w' w.heap.size (fun _ => True) v0_ r ∧ Below w.heap.size w w' := by
 have HR0 := Aside0.mk hr0
 have HC0 := Aside0.mk hc0
 clear hr0 hc0
 have HR1 := Aside0.mk hr1
 have HC1 := Aside0.mk hc1
 clear hr1 hc1
 have HB := Aside0.mk (Below.refl w.heap.size w)
 have H : (reckonerref01_Plus.l0 k l0 l1 ([] : List Int) 0 0) = some r := h
 clear h
 have H' := Aside0.mk H
 clear H
 go_enter Try.func69, Try.ntmps69
 try simp only [List.append]
 go_wp2
 go_loopg [5, 6, 7] k (fun kq v5 v6 v7 w' => ∃ (x5_1 : List Int) (x6_1 : Int) (x7_1 : Int), v6 = .int .u64 x6_1 ∧ v7 = .int .i64 x7_1 ∧ Aside0 (reckonerref01_Plus.l0 kq l0 l1 x5_1 x6_1 x7_1 = some r) ∧ Aside0 (kq ≤ k) ∧ Aside0 (Kd.R (Kd.int .u64) 33 w' w.heap.size (fun _ => True) v5 x5_1) ∧ Aside0 (Below w.heap.size w w'))
 case atStart => exact ⟨(([] : List Int)), (0), (0), (by first | rfl | (simp; done) | (simp [*]; done)), (by first | rfl | (simp; done) | (simp [*]; done)), H', ⟨Nat.le_refl _⟩, ⟨by first | exact Kd.R_nil _ _ _ _ _ | exact Kd.N_nil _ _ _ _ _ | exact Kd.V_nil _ _ _ _ _ | exact Kd.Q_nil _ _ _ _ _ | exact Kd.S_nil _ _ _ _ _⟩, ⟨by repeat (first | (with_reducible first | exact HB.out | apply below_alloc | apply pw_below_drewN | apply below_drew1) | exact HB.out)⟩⟩
 case round =>
  clear H'
  try clear c1
  try clear p2
  obtain ⟨x5_1, x6_1, x7_1, rfl, rfl, HA, HK1, HO_5, HB⟩ := hrel
  cases gk with
  | zero => exact absurd HA.out (by simp [reckonerref01_Plus.l0])
  | succ k1 =>
   have H := HA.out
   clear HA
   simp only [reckonerref01_Plus.l0] at H
   have HC3 := Aside0.mk H
   clear H
   go_upto_region 4 with (fail)
   go_cut [17] (fun v17 wc => ∃ (kq : Nat) (x17_2 : Bool), v17 = .bool x17_2 ∧ Aside0 (reckonerref01_Plus.j1 kq l0 l1 x5_1 x6_1 x7_1 x17_2 = some r) ∧ Aside0 (kq ≤ k1) ∧ Aside0 (Kd.R (Kd.int .u64) 33 wc w.heap.size (fun _ => True) u5 x5_1) ∧ Aside0 (Below w.heap.size w wc))
   case first =>
    have H := HC3.out
    clear HC3
    by_cases c4 : x7_1 < (l0.length : Int)
    ·rw [if_pos c4] at H
     have c4b0 : decide (x7_1 < (l0.length : Int)) = true := decide_eq_true c4
     clear c4
     (first | rw [c4b0] | (simp only [i64_w, i32_w]; rw [c4b0]) | skip)
     have H' := Aside0.mk H
     clear H
     go_wp2
     go_meet
     case rel => exact ⟨_, (true), (by first | rfl | (simp; done) | (simp [*]; done)), H', ⟨by have := HK1.out; first | omega | exact Nat.le_refl _⟩, ⟨by (with_reducible repeat (first | apply Kd.R_alloc | apply Kd.R_drewN | apply Kd.R_drew)); exact HO_5.out⟩, ⟨by repeat (first | (with_reducible first | exact HB.out | apply below_alloc | apply pw_below_drewN | apply below_drew1) | exact HB.out)⟩⟩
    ·rw [if_neg c4] at H
     have c4b0 : decide (x7_1 < (l0.length : Int)) = false := decide_eq_false c4
     clear c4
     (first | rw [c4b0] | (simp only [i64_w, i32_w]; rw [c4b0]) | skip)
     have H' := Aside0.mk H
     clear H
     go_wp2
     go_meet
     case rel => exact ⟨_, (decide (x7_1 < (l1.length : Int))), (by first | rfl | (simp; done) | (simp [*]; done)), H', ⟨by have := HK1.out; first | omega | exact Nat.le_refl _⟩, ⟨by (with_reducible repeat (first | apply Kd.R_alloc | apply Kd.R_drewN | apply Kd.R_drew)); exact HO_5.out⟩, ⟨by repeat (first | (with_reducible first | exact HB.out | apply below_alloc | apply pw_below_drewN | apply below_drew1) | exact HB.out)⟩⟩
   case rest =>
    clear HC3
    try clear c1
    try clear p2
    try clear c4
    try clear c4b0
    try clear p2
    obtain ⟨kq, x17_2, rfl, HA, HJ2, HO_5, HB⟩ := hcut
    cases kq with
    | zero => exact absurd HA.out (by simp [reckonerref01_Plus.j1])
    | succ kj2 =>
     have H := HA.out
     clear HA
     simp only [reckonerref01_Plus.j1] at H
     by_cases c5 : x17_2 = true
     ·subst c5
      have H1 : ((reckonerref01_digit.f l0 x7_1).bind fun t211 => ((reckonerref01_digit.f l1 x7_1).bind fun t212 => (if x5_1.length < 17592186044416 then (reckonerref01_Plus.l0 kj2 l0 l1 (x5_1 ++ [Int.tmod (IntKind.u64.wrap ((IntKind.u64.wrap (x6_1 + t211)) + t212)) 4294967296]) (IntKind.u64.wrap (Int.tdiv (IntKind.u64.wrap ((IntKind.u64.wrap (x6_1 + t211)) + t212)) 4294967296)) (wrap64 (x7_1 + 1))) else (none)))) = some r := by rw [if_pos rfl] at H; exact H
      clear H
      have H := H1
      clear H1
      replace H := Option.bind_eq_some_iff.mp H
      obtain ⟨t211, A60, H⟩ := H
      replace H : ((reckonerref01_digit.f l1 x7_1).bind fun t212 => (if x5_1.length < 17592186044416 then (reckonerref01_Plus.l0 kj2 l0 l1 (x5_1 ++ [Int.tmod (IntKind.u64.wrap ((IntKind.u64.wrap (x6_1 + t211)) + t212)) 4294967296]) (IntKind.u64.wrap (Int.tdiv (IntKind.u64.wrap ((IntKind.u64.wrap (x6_1 + t211)) + t212)) 4294967296)) (wrap64 (x7_1 + 1))) else (none))) = some r := H
      have A6 := Aside0.mk A60
      clear A60
      replace H := Option.bind_eq_some_iff.mp H
      obtain ⟨t212, A70, H⟩ := H
      replace H : (if x5_1.length < 17592186044416 then (reckonerref01_Plus.l0 kj2 l0 l1 (x5_1 ++ [Int.tmod (IntKind.u64.wrap ((IntKind.u64.wrap (x6_1 + t211)) + t212)) 4294967296]) (IntKind.u64.wrap (Int.tdiv (IntKind.u64.wrap ((IntKind.u64.wrap (x6_1 + t211)) + t212)) 4294967296)) (wrap64 (x7_1 + 1))) else (none)) = some r := H
      have A7 := Aside0.mk A70
      clear A70
      by_cases c8 : x5_1.length < 17592186044416
      ·rw [if_pos c8] at H
       have LMc8 := Aside0.mk c8
       clear c8
       obtain ⟨y213, hy213⟩ : ∃ y_ : List Int, y_ = (x5_1 ++ [Int.tmod (IntKind.u64.wrap ((IntKind.u64.wrap (x6_1 + t211)) + t212)) 4294967296]) := ⟨_, rfl⟩
       replace H : (reckonerref01_Plus.l0 kj2 l0 l1 y213 (IntKind.u64.wrap (Int.tdiv (IntKind.u64.wrap ((IntKind.u64.wrap (x6_1 + t211)) + t212)) 4294967296)) (wrap64 (x7_1 + 1))) = some r := by first | (rw [hy213]; with_reducible exact H) | (have H2_ := (Option.bind_some _ _).symm.trans H; rw [hy213]; with_reducible exact H2_) | (have H2_ := (Option.bind_some _ _).symm.trans H; with_reducible exact H2_) | with_reducible exact H | (rw [hy213]; exact H) | exact H
       have Ny213 := Aside0.mk hy213
       clear hy213
       have H' := Aside0.mk H
       clear H
       go_wp2_with (first | ((with_reducible refine gate_callee (f := 89) rfl ?_); refine goesL_ (some 23) rfl rfl Try.func89 (by kernel_rfl) rfl #[.slice A0 l0.length c0, .int .i64 x7_1] rfl (by (try simp only [List.map_toArray, List.map_cons, List.map_nil]); first | done | rfl | (simp only [List.length_drop, List.length_take]; rfl)) ?_; (with_reducible refine (reckonerref01_digit.calls _ _ l0 x7_1 t211 _ ?side1 ?side2 A6.out).mono ?_); (case side1 => repeat (first | exact (Kd.C_below HR0.out HB.out) | (with_reducible refine Kd.C_alloc ?_ _) | (with_reducible refine Kd.C_drewN ?_ _) | (with_reducible refine Kd.C_drew ?_))); (case side2 => exact HC0.out); rintro e w' ⟨rfl, ⟨nd, rfl⟩⟩; refine ⟨_, rfl, ?_⟩) | ((with_reducible refine gate_callee (f := 89) rfl ?_); refine goesL_ (some 27) rfl rfl Try.func89 (by kernel_rfl) rfl #[.slice A1 l1.length c1, .int .i64 x7_1] rfl (by (try simp only [List.map_toArray, List.map_cons, List.map_nil]); first | done | rfl | (simp only [List.length_drop, List.length_take]; rfl)) ?_; (with_reducible refine (reckonerref01_digit.calls _ _ l1 x7_1 t212 _ ?side1 ?side2 A7.out).mono ?_); (case side1 => repeat (first | exact (Kd.C_below HR1.out (by repeat (first | (with_reducible first | exact HB.out | apply below_alloc | apply pw_below_drewN | apply below_drew1) | exact HB.out))) | (with_reducible refine Kd.C_alloc ?_ _) | (with_reducible refine Kd.C_drewN ?_ _) | (with_reducible refine Kd.C_drew ?_))); (case side2 => exact HC1.out); rintro e w' ⟨rfl, ⟨nd, rfl⟩⟩; refine ⟨_, rfl, ?_⟩) | ((with_reducible refine gate_builtin (b := .append) (xs := #[.tmp 29, .tmp 32]) rfl ?_); (try (refine gate_guard (by rfl) ?_; dsimp only)); at_builtin; refine Kd.R_append (Kd.int .u64) (w0 := w) w.heap.size rfl (.tmp 29) (.tmp 32) 22 33 (.int .u64 0) 8 rfl Try.underlying22 info33 rfl (by decide) (by omega) u5 x5_1 (Int.tmod (IntKind.u64.wrap ((IntKind.u64.wrap (x6_1 + t211)) + t212)) 4294967296) [.int .u64 (Int.tmod (IntKind.u64.wrap ((IntKind.u64.wrap (x6_1 + t211)) + t212)) 4294967296)] (fun _ => True) (fun _ => False) rfl rfl ?aP (fun _ hk => hk.elim) ?aF ?aO ?aB ?aS ?aL ?_; (case aP => exact rfl); (case aB => exact (by repeat (first | (with_reducible first | exact HB.out | apply below_alloc | apply pw_below_drewN | apply below_drew1) | exact HB.out))); (case aF => exact (fun _ _ => trivial)); (case aO => exact (by (with_reducible repeat (first | apply Kd.R_alloc | apply Kd.R_drewN | apply Kd.R_drew)); exact HO_5.out)); (case aS => exact (below_size (by repeat (first | (with_reducible first | exact HB.out | apply below_alloc | apply pw_below_drewN | apply below_drew1) | exact HB.out)))); (case aL => have := LMc8.out; omega); intro v214 w9 ho hb hg hat; rw [← Ny213.out] at ho; have n0_ := Aside0.mk (hb); have n1_ := Aside0.mk (ho); clear HB; clear HO_5; have HB := n0_; have HO215 := n1_; clear n0_ n1_; clear ho hb hg hat))
       go_roundg kj2
       case measure => have := HK1.out; have := HJ2.out; omega
       case rel => exact ⟨(y213), (IntKind.u64.wrap (Int.tdiv (IntKind.u64.wrap ((IntKind.u64.wrap (x6_1 + t211)) + t212)) 4294967296)), (wrap64 (x7_1 + 1)), (by first | rfl | (simp; done) | (simp [*]; done)), (by first | rfl | (simp; done) | (simp [*]; done)), H', ⟨by have := HK1.out; have := HJ2.out; omega⟩, ⟨by (with_reducible repeat (first | apply Kd.R_alloc | apply Kd.R_drewN | apply Kd.R_drew)); exact HO215.out⟩, ⟨by repeat (first | (with_reducible first | exact HB.out | apply below_alloc | apply pw_below_drewN | apply below_drew1) | exact HB.out)⟩⟩
      ·rw [if_neg c8] at H
       exact absurd H (by simp)
     ·replace c5 := Bool.eq_false_iff.mpr c5
      subst c5
      have H1 : (if x5_1.length < 17592186044416 then (some (x5_1 ++ [x6_1])) else (none)) = some r := by rw [if_neg (show ¬ (false = true) by decide)] at H; exact H
      clear H
      have H := H1
      clear H1
      by_cases c10 : x5_1.length < 17592186044416
      ·rw [if_pos c10] at H
       have LMc10 := Aside0.mk c10
       clear c10
       obtain ⟨y216, hy216⟩ : ∃ y_ : List Int, y_ = (x5_1 ++ [x6_1]) := ⟨_, rfl⟩
       replace H : (some y216) = some r := by first | (rw [hy216]; with_reducible exact H) | (have H2_ := (Option.bind_some _ _).symm.trans H; rw [hy216]; with_reducible exact H2_) | (have H2_ := (Option.bind_some _ _).symm.trans H; with_reducible exact H2_) | with_reducible exact H | (rw [hy216]; exact H) | exact H
       have Ny216 := Aside0.mk hy216
       clear hy216
       obtain rfl := Option.some.inj H
       go_wp2_with (first | ((with_reducible refine gate_builtin (b := .append) (xs := #[.tmp 36, .tmp 38]) rfl ?_); (try (refine gate_guard (by rfl) ?_; dsimp only)); at_builtin; refine Kd.R_append (Kd.int .u64) (w0 := w) w.heap.size rfl (.tmp 36) (.tmp 38) 22 33 (.int .u64 0) 8 rfl Try.underlying22 info33 rfl (by decide) (by omega) u5 x5_1 x6_1 [.int .u64 x6_1] (fun _ => True) (fun _ => False) rfl rfl ?aP (fun _ hk => hk.elim) ?aF ?aO ?aB ?aS ?aL ?_; (case aP => exact rfl); (case aB => exact (by repeat (first | (with_reducible first | exact HB.out | apply below_alloc | apply pw_below_drewN | apply below_drew1) | exact HB.out))); (case aF => exact (fun _ _ => trivial)); (case aO => exact (by (with_reducible repeat (first | apply Kd.R_alloc | apply Kd.R_drewN | apply Kd.R_drew)); exact HO_5.out)); (case aS => exact (below_size (by repeat (first | (with_reducible first | exact HB.out | apply below_alloc | apply pw_below_drewN | apply below_drew1) | exact HB.out)))); (case aL => have := LMc10.out; omega); intro v217 w11 ho hb hg hat; rw [← Ny216.out] at ho; have n0_ := Aside0.mk (hb); have n1_ := Aside0.mk (ho); clear HB; clear HO_5; have HB := n0_; have HO218 := n1_; clear n0_ n1_; clear ho hb hg hat))
       go_ret
       exact ⟨_, by first | rfl | (simp [errW_none, errW_some] <;> rfl) | (simp [*, errW_none, errW_some] <;> rfl), by (with_reducible repeat (first | apply Kd.R_alloc | apply Kd.R_drewN | apply Kd.R_drew)); exact HO218.out, by repeat (first | (with_reducible first | exact HB.out | apply below_alloc | apply pw_below_drewN | apply below_drew1) | exact HB.out)⟩
      ·rw [if_neg c10] at H
       exact absurd H (by simp)
/-! ### reckonerref02_Add: function 26 -/
def reckonerref02_Add.f (k : Nat) (l0 : List Int) (l1 : List Int) : Option (List Int) := (reckonerref01_Digits.f k l0).bind fun t219 => ((reckonerref01_Digits.f k l1).bind fun t222 => ((reckonerref01_Plus.f k t219 t222).bind fun t225 => ((reckonerref02_nat.f k t225).bind fun t228 => (some t228))))
set_option maxHeartbeats 8000000 in
set_option maxRecDepth 100000 in
theorem reckonerref02_Add.calls (k : Nat) (A0 : Option Addr) (c0 : Nat) (l0 : List Int) (A1 : Option Addr) (c1 : Nat) (l1 : List Int) (r : List Int) (w : World) (hr0 : Kd.C (Kd.int .u64) w A0 l0.length l0) (hc0 : l0.length ≤ c0) (hr1 : Kd.C (Kd.int .u64) w A1 l1.length l1) (hc1 : l1.length ≤ c1) (h : reckonerref02_Add.f k l0 l1 = some r) :
  Calls Try.prog 26 #[.slice A0 l0.length c0, .slice A1 l1.length c1] w fun e w' => ∃ v0_ : Value, e = .returned (v0_) ∧ Kd.R (Kd.int .u64) 33 w' w.heap.size (fun _ => True) v0_ r ∧ Below w.heap.size w w' := by
 have HR0 := Aside0.mk hr0
 have HC0 := Aside0.mk hc0
 clear hr0 hc0
 have HR1 := Aside0.mk hr1
 have HC1 := Aside0.mk hc1
 clear hr1 hc1
 have HB := Aside0.mk (Below.refl w.heap.size w)
 have H : ((reckonerref01_Digits.f k l0).bind fun t219 => ((reckonerref01_Digits.f k l1).bind fun t222 => ((reckonerref01_Plus.f k t219 t222).bind fun t225 => ((reckonerref02_nat.f k t225).bind fun t228 => (some t228))))) = some r := h
 clear h
 replace H := Option.bind_eq_some_iff.mp H
 obtain ⟨t219, A30, H⟩ := H
 replace H : ((reckonerref01_Digits.f k l1).bind fun t222 => ((reckonerref01_Plus.f k t219 t222).bind fun t225 => ((reckonerref02_nat.f k t225).bind fun t228 => (some t228)))) = some r := H
 have A3 := Aside0.mk A30
 clear A30
 replace H := Option.bind_eq_some_iff.mp H
 obtain ⟨t222, A40, H⟩ := H
 replace H : ((reckonerref01_Plus.f k t219 t222).bind fun t225 => ((reckonerref02_nat.f k t225).bind fun t228 => (some t228))) = some r := H
 have A4 := Aside0.mk A40
 clear A40
 replace H := Option.bind_eq_some_iff.mp H
 obtain ⟨t225, A50, H⟩ := H
 replace H : ((reckonerref02_nat.f k t225).bind fun t228 => (some t228)) = some r := H
 have A5 := Aside0.mk A50
 clear A50
 replace H := Option.bind_eq_some_iff.mp H
 obtain ⟨t228, A60, H⟩ := H
 replace H : (some t228) = some r := H
 have A6 := Aside0.mk A60
 clear A60
 obtain rfl := Option.some.inj H
 go_enter Try.func26, Try.ntmps26
 go_wp2_with (first | ((with_reducible refine gate_callee (f := 57) rfl ?_); refine goesL_ (some 6) rfl rfl Try.func57 (by kernel_rfl) rfl #[.slice A0 l0.length c0] rfl (by (try simp only [List.map_toArray, List.map_cons, List.map_nil]); first | done | rfl | (simp only [List.length_drop, List.length_take]; rfl)) ?_; (with_reducible refine (reckonerref01_Digits.calls k _ _ l0 t219 _ ?side1 ?side2 A3.out).mono ?_); (case side1 => repeat (first | exact HR0.out | (with_reducible refine Kd.C_alloc ?_ _) | (with_reducible refine Kd.C_drewN ?_ _) | (with_reducible refine Kd.C_drew ?_))); (case side2 => exact HC0.out); rintro e w7 ⟨v220, rfl, ho0, hb⟩; refine ⟨_, rfl, ?_⟩; have n0_ := Aside0.mk (Kd.R_lower ho0 (below_size (by repeat (first | (with_reducible first | exact HB.out | apply below_alloc | apply pw_below_drewN | apply below_drew1) | exact HB.out)))); have n1_ := Aside0.mk (below_step (by repeat (first | (with_reducible first | exact HB.out | apply below_alloc | apply pw_below_drewN | apply below_drew1) | exact HB.out)) hb); clear HB; have HO221 := n0_; have HB := n1_; clear n0_ n1_; (try clear hb); (try clear hb2); (try clear hk); (try clear hi); (try clear ho0)) | ((with_reducible refine gate_callee (f := 57) rfl ?_); refine goesL_ (some 8) rfl rfl Try.func57 (by kernel_rfl) rfl #[.slice A1 l1.length c1] rfl (by (try simp only [List.map_toArray, List.map_cons, List.map_nil]); first | done | rfl | (simp only [List.length_drop, List.length_take]; rfl)) ?_; (with_reducible refine (reckonerref01_Digits.calls k _ _ l1 t222 _ ?side1 ?side2 A4.out).mono ?_); (case side1 => repeat (first | exact (Kd.C_below HR1.out HB.out) | (with_reducible refine Kd.C_alloc ?_ _) | (with_reducible refine Kd.C_drewN ?_ _) | (with_reducible refine Kd.C_drew ?_))); (case side2 => exact HC1.out); rintro e w8 ⟨v223, rfl, ho0, hb⟩; refine ⟨_, rfl, ?_⟩; have n0_ := Aside0.mk (Kd.R_elder' (by (with_reducible repeat (first | apply Kd.R_alloc | apply Kd.R_drewN | apply Kd.R_drew)); exact HO221.out) (Kd.R_base ho0) hb); have n1_ := Aside0.mk (Kd.R_lower (Kd.R_new' ho0 (Kd.R_lt (by (with_reducible repeat (first | apply Kd.R_alloc | apply Kd.R_drewN | apply Kd.R_drew)); exact HO221.out))) (below_size (by repeat (first | (with_reducible first | exact HB.out | apply below_alloc | apply pw_below_drewN | apply below_drew1) | exact HB.out)))); have n2_ := Aside0.mk (below_step (by repeat (first | (with_reducible first | exact HB.out | apply below_alloc | apply pw_below_drewN | apply below_drew1) | exact HB.out)) hb); clear HO221; clear HB; have HO221 := n0_; have HO224 := n1_; have HB := n2_; clear n0_ n1_ n2_; (try clear hb); (try clear hb2); (try clear hk); (try clear hi); (try clear ho0); obtain ⟨Ao9, co9, eo9⟩ := Kd.R_slice HO221.out; subst eo9; obtain ⟨Ao10, co10, eo10⟩ := Kd.R_slice HO224.out; subst eo10) | ((with_reducible refine gate_callee (f := 69) rfl ?_); refine goesL_ (some 9) rfl rfl Try.func69 (by kernel_rfl) rfl #[.slice Ao9 t219.length co9, .slice Ao10 t222.length co10] rfl (by (try simp only [List.map_toArray, List.map_cons, List.map_nil]); first | done | rfl | (simp only [List.length_drop, List.length_take]; rfl)) ?_; (with_reducible refine (reckonerref01_Plus.calls k _ _ t219 _ _ t222 t225 _ ?side1 ?side2 ?side3 ?side4 A5.out).mono ?_); (case side1 => repeat (first | exact (Kd.R_reads' HO221.out).2.2 | (with_reducible refine Kd.C_alloc ?_ _) | (with_reducible refine Kd.C_drewN ?_ _) | (with_reducible refine Kd.C_drew ?_))); (case side2 => exact (Kd.R_reads' HO221.out).2.1); (case side3 => repeat (first | exact (Kd.R_reads' HO224.out).2.2 | (with_reducible refine Kd.C_alloc ?_ _) | (with_reducible refine Kd.C_drewN ?_ _) | (with_reducible refine Kd.C_drew ?_))); (case side4 => exact (Kd.R_reads' HO224.out).2.1); rintro e w11 ⟨v226, rfl, ho0, hb⟩; refine ⟨_, rfl, ?_⟩; have n0_ := Aside0.mk (Kd.R_elder' (by (with_reducible repeat (first | apply Kd.R_alloc | apply Kd.R_drewN | apply Kd.R_drew)); exact HO221.out) (Kd.R_base ho0) hb); have n1_ := Aside0.mk (Kd.R_elder' (by (with_reducible repeat (first | apply Kd.R_alloc | apply Kd.R_drewN | apply Kd.R_drew)); exact HO224.out) (Kd.R_base ho0) hb); have n2_ := Aside0.mk (Kd.R_lower (Kd.R_new' (Kd.R_new' ho0 (Kd.R_lt (by (with_reducible repeat (first | apply Kd.R_alloc | apply Kd.R_drewN | apply Kd.R_drew)); exact HO221.out))) (Kd.R_lt (by (with_reducible repeat (first | apply Kd.R_alloc | apply Kd.R_drewN | apply Kd.R_drew)); exact HO224.out))) (below_size (by repeat (first | (with_reducible first | exact HB.out | apply below_alloc | apply pw_below_drewN | apply below_drew1) | exact HB.out)))); have n3_ := Aside0.mk (below_step (by repeat (first | (with_reducible first | exact HB.out | apply below_alloc | apply pw_below_drewN | apply below_drew1) | exact HB.out)) hb); clear HO221; clear HO224; clear HB; have HO221 := n0_; have HO224 := n1_; have HO227 := n2_; have HB := n3_; clear n0_ n1_ n2_ n3_; (try clear hb); (try clear hb2); (try clear hk); (try clear hi); (try clear ho0); obtain ⟨Ao12, co12, eo12⟩ := Kd.R_slice HO227.out; subst eo12) | ((with_reducible refine gate_callee (f := 58) rfl ?_); refine goesL_ (some 10) rfl rfl Try.func58 (by kernel_rfl) rfl #[.slice Ao12 t225.length co12] rfl (by (try simp only [List.map_toArray, List.map_cons, List.map_nil]); first | done | rfl | (simp only [List.length_drop, List.length_take]; rfl)) ?_; (with_reducible refine (reckonerref02_nat.calls k _ _ t225 t228 _ ?side1 ?side2 A6.out).mono ?_); (case side1 => repeat (first | exact (Kd.R_reads' HO227.out).2.2 | (with_reducible refine Kd.C_alloc ?_ _) | (with_reducible refine Kd.C_drewN ?_ _) | (with_reducible refine Kd.C_drew ?_))); (case side2 => exact (Kd.R_reads' HO227.out).2.1); rintro e w13 ⟨v229, rfl, ho0, hb⟩; refine ⟨_, rfl, ?_⟩; have n0_ := Aside0.mk (Kd.R_elder' (by (with_reducible repeat (first | apply Kd.R_alloc | apply Kd.R_drewN | apply Kd.R_drew)); exact HO221.out) (Kd.R_base ho0) hb); have n1_ := Aside0.mk (Kd.R_elder' (by (with_reducible repeat (first | apply Kd.R_alloc | apply Kd.R_drewN | apply Kd.R_drew)); exact HO224.out) (Kd.R_base ho0) hb); have n2_ := Aside0.mk (Kd.R_elder' (by (with_reducible repeat (first | apply Kd.R_alloc | apply Kd.R_drewN | apply Kd.R_drew)); exact HO227.out) (Kd.R_base ho0) hb); have n3_ := Aside0.mk (Kd.R_lower (Kd.R_new' (Kd.R_new' (Kd.R_new' ho0 (Kd.R_lt (by (with_reducible repeat (first | apply Kd.R_alloc | apply Kd.R_drewN | apply Kd.R_drew)); exact HO221.out))) (Kd.R_lt (by (with_reducible repeat (first | apply Kd.R_alloc | apply Kd.R_drewN | apply Kd.R_drew)); exact HO224.out))) (Kd.R_lt (by (with_reducible repeat (first | apply Kd.R_alloc | apply Kd.R_drewN | apply Kd.R_drew)); exact HO227.out))) (below_size (by repeat (first | (with_reducible first | exact HB.out | apply below_alloc | apply pw_below_drewN | apply below_drew1) | exact HB.out)))); have n4_ := Aside0.mk (below_step (by repeat (first | (with_reducible first | exact HB.out | apply below_alloc | apply pw_below_drewN | apply below_drew1) | exact HB.out)) hb); clear HO221; clear HO224; clear HO227; clear HB; have HO221 := n0_; have HO224 := n1_; have HO227 := n2_; have HO230 := n3_; have HB := n4_; clear n0_ n1_ n2_ n3_ n4_; (try clear hb); (try clear hb2); (try clear hk); (try clear hi); (try clear ho0)))
 go_ret
 exact ⟨_, by first | rfl | (simp [errW_none, errW_some] <;> rfl) | (simp [*, errW_none, errW_some] <;> rfl), by (with_reducible repeat (first | apply Kd.R_alloc | apply Kd.R_drewN | apply Kd.R_drew)); exact Kd.R_mono HO230.out (fun _ hk => trivial), by repeat (first | (with_reducible first | exact HB.out | apply below_alloc | apply pw_below_drewN | apply below_drew1) | exact HB.out)⟩
end Go.Proofs.Ytkkkbalefnileaa.T
/- A byte as a word. -/
namespace Go.Proofs.Ytkkkbalefnileaa.Ex
theorem u8_u64 (x : Int) : IntKind.u64.wrap (IntKind.u8.wrap x) = x % 256 := by
  have h1 := Int.emod_nonneg x (show (256 : Int) ≠ 0 by decide)
  have h2 := Int.emod_lt_of_pos x (show (0 : Int) < 256 by decide)
  exact Int.emod_eq_of_lt h1 (by show x % 256 < 18446744073709551616; omega)
end Go.Proofs.Ytkkkbalefnileaa.Ex
