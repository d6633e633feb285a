/- The law NatPowers: powers of any number, or the specified error, are the ones of the reference; it holds of all inputs that fit in memory. (Part 2 of 4.) -/
import Derived.WalkMore
import Derived.Lib.RabinKarpLaws
import Derived.RegionTactic
import Derived.ChangeAlike
import Derived.BigRegion
import Derived.Laws.EntriesVeiled
import Derived.Lib.SliceRun
import Derived.Test.YtkkkbalefnileaaProg
import Derived.Below
import Derived.Deep.Draws
import Derived.Deep.AppendLies
import Derived.Maps.AppendAt
import Derived.OwnWalk
import Derived.Laws.BytesArg
import Derived.Laws.MakeOwn
import Derived.Laws.OwnMore
import Derived.Deep.OwnRows
import Derived.Tactics
import Derived.Lib.ConvBytes
import Derived.Laws.Slices
import Derived.WalkKit
import Derived.KernelRfl
import Derived.RowKit3
import Derived.Deep.LoopGhost
import Derived.Deep.QuietTactic
import Derived.BigQuiet
import Derived.WideLaws
import Derived.Deep.DeepCutAuto
import Derived.Deep.CutBlock
import Derived.Deep.RegionHeld3
import Derived.Laws.Rows
import Derived.Lib.AppendStr
import Derived.ArgAppend
import Derived.Laws.IdiomCopy
import Derived.OrdersHeld
import Derived.Laws.BitsLemmas
import Derived.RowKit
import Derived.Test.YtkkkbalefnileaaWWords
import Derived.Test.YtkkkbalefnileaaWLast
import Derived.Test.YtkkkbalefnileaaWTab
import Derived.Test.YtkkkbalefnileaaWFour
import Derived.Test.YtkkkbalefnileaaWQPut
import Derived.Test.YtkkkbalefnileaaWApart
import Derived.Test.YtkkkbalefnileaaWArr
import Derived.Test.YtkkkbalefnileaaWZeros
import Derived.Test.YtkkkbalefnileaaWFoot
import Derived.Test.YtkkkbalefnileaaWKept
import Derived.Test.YtkkkbalefnileaaWShare
import Derived.Test.YtkkkbalefnileaaWN
import Derived.Test.YtkkkbalefnileaaWFootNe
import Derived.Test.YtkkkbalefnileaaWAt
import Derived.Test.YtkkkbalefnileaaWEqStruct
import Derived.Test.YtkkkbalefnileaaWRepsOne
import Derived.Test.YtkkkbalefnileaaWInv
import Derived.Test.YtkkkbalefnileaaWInvWords
import Derived.Test.YtkkkbalefnileaaWGuard
import Derived.Test.YtkkkbalefnileaaWNEv
import Derived.Test.YtkkkbalefnileaaWMore
import Derived.Test.YtkkkbalefnileaaMNatPowers0
/- nat.Pow. -/
namespace Go.Proofs.Ytkkkbalefnileaa.Ex
open Go.RowKit Go.Proofs.YtkkkbalefnileaaW.PrintWords Go.Proofs.YtkkkbalefnileaaW.PrintLast Go.Proofs.YtkkkbalefnileaaW.PrintMore
set_option linter.unusedVariables false
set_option linter.unusedSimpArgs false

theorem W64_pow2 : W64 = 2 ^ 64 := by decide
theorem pow2_W (n : Nat) : W64 ^ n = 2 ^ (64 * n) := by rw [W64_pow2, Int.pow_mul]
theorem pow_base {a b : Int} (h0 : 0 ≤ a) (h : a ≤ b) : ∀ k : Nat, a ^ k ≤ b ^ k
  | 0 => by simp
  | k + 1 => by
    rw [Int.pow_succ, Int.pow_succ]
    exact Int.mul_le_mul (pow_base h0 h k) h h0 (Int.pow_nonneg (by omega))
theorem lenL_bounds {l : List Int} (h : canL l) (h0 : l ≠ []) : 1 ≤ lenL l ∧ 64 * (l.length : Int) - 64 < lenL l ∧ lenL l ≤ 64 * (l.length : Int) ∧ 2 ^ (lenL l - 1).toNat ≤ valB W64 l ∧ valB W64 l < 2 ^ (lenL l).toNat := by
  obtain ⟨n, hn⟩ : ∃ n, l.length = n + 1 := by cases l with | nil => exact (h0 rfl).elim | cons x l => exact ⟨l.length, rfl⟩
  have hin := canL_in h
  have hx := isW_get hin n
  have hlast : l.getD n 0 ≠ 0 := by
    have h1 := canL_low h h0
    intro e
    have h2 := valB_take_succ W64 l n (by omega)
    rw [List.take_of_length_le (by omega), e, Int.mul_zero, Int.add_zero] at h2
    have h3 := valB_lt W64_pos (inB_take hin n)
    rw [List.length_take, Nat.min_eq_left (by omega)] at h3
    rw [hn, Nat.add_sub_cancel] at h1
    omega
  have hv := valB_take_succ W64 l n (by omega)
  rw [List.take_of_length_le (by omega)] at hv
  have hlo := valB_nonneg W64_pos (inB_take hin n)
  have hhi := valB_lt W64_pos (inB_take hin n)
  rw [List.length_take, Nat.min_eq_left (by omega)] at hhi
  unfold lenL
  rw [if_neg (by omega), hn, Nat.add_sub_cancel]
  obtain ⟨X, hX⟩ := Int.eq_ofNat_of_zero_le hx.1
  have hX2 := hx.2
  rw [hX] at hX2 hv hlast ⊢
  rw [W64_eq] at hX2
  obtain ⟨b1, b2, b3⟩ := bitLen_bounds 64 X (Nat.le_refl _) (by omega)
  obtain ⟨b4, b5⟩ := b2 (by omega)
  rw [Int.toNat_natCast]
  generalize Lib.bitLen X = b at *
  have e1 : (64 * ((n + 1 : Nat) : Int) - (64 - (b : Int)) - 1).toNat = 64 * n + (b - 1) := by omega
  have e2 : (64 * ((n + 1 : Nat) : Int) - (64 - (b : Int))).toNat = 64 * n + b := by omega
  rw [e1, e2, Int.pow_add, Int.pow_add, ← pow2_W]
  have hp := pow_posB W64_pos n
  have c1 : (2 : Int) ^ (b - 1) ≤ (X : Int) := by have : ((2 ^ (b - 1) : Nat) : Int) ≤ (X : Int) := Int.ofNat_le.2 b5; simpa using this
  have c2 : (X : Int) + 1 ≤ (2 : Int) ^ b := by have : ((X + 1 : Nat) : Int) ≤ ((2 ^ b : Nat) : Int) := Int.ofNat_le.2 b1; simpa using this
  have d1 := Int.mul_le_mul_of_nonneg_left c1 (Int.le_of_lt hp)
  have d2 := Int.mul_le_mul_of_nonneg_left c2 (Int.le_of_lt hp)
  rw [Int.mul_add, Int.mul_one] at d2
  generalize W64 ^ n * (2 : Int) ^ (b - 1) = p1 at *
  generalize W64 ^ n * (2 : Int) ^ b = p2 at *
  generalize W64 ^ n * (X : Int) = p3 at *
  refine ⟨by omega, by omega, by omega, by omega, by omega⟩
/-- A power of what is long is too long. -/
theorem pow_early {v L : Int} {k : Nat} (hL : 1 ≤ L) (hv : 2 ^ (L - 1).toNat ≤ v) (h : 262144 ≤ (L - 1) * k) : W64 ^ 4096 ≤ v ^ k := by
  have h1 := pow_base (Int.pow_nonneg (by decide)) hv k
  obtain ⟨m, hm⟩ := Int.eq_ofNat_of_zero_le (show 0 ≤ L - 1 by omega)
  rw [hm, Int.toNat_natCast, ← Int.pow_mul] at h1
  rw [hm] at h
  have h2 : 64 * 4096 ≤ m * k := by
    have : ((64 * 4096 : Nat) : Int) ≤ ((m * k : Nat) : Int) := by rw [Int.natCast_mul]; exact h
    omega
  rw [pow2_W]
  exact Int.le_trans (pow_mono (B := 2) (by decide) h2) h1
theorem pow_le_exp {v : Int} (h1 : 1 ≤ v) {j k : Nat} (h : j ≤ k) : v ^ j ≤ v ^ k := pow_mono h1 h
/-- What is too long stays so. -/
theorem pow_long {v : Int} (h0 : 0 ≤ v) {j k : Nat} (h : j ≤ k) (hj : 4096 < (can (v ^ j)).length) : 4096 < (can (v ^ k)).length := by
  have hpj : 0 ≤ v ^ j := Int.pow_nonneg h0
  have hpk : 0 ≤ v ^ k := Int.pow_nonneg h0
  have h1 := canL_low (can_canL hpj) (by intro e; rw [e] at hj; simp at hj)
  rw [can_val hpj] at h1
  have h2 := pow_mono (B := W64) (by decide) (show 4096 ≤ (can (v ^ j)).length - 1 by omega)
  refine can_high hpk (Int.le_trans (Int.le_trans h2 h1) ?_)
  by_cases hv : v = 0
  · subst hv
    cases j with
    | zero => rw [Int.pow_zero] at hj; have : (can 1).length = 1 := by decide
              omega
    | succ j => rw [Int.zero_pow (by omega)] at hj; rw [can_zero] at hj; simp at hj
  · exact pow_le_exp (by omega) h
def fitV (v : Int) : List Int × Int := if (can v).length ≤ 4096 then (can v, 0) else ([], 2)
def nat_Pow.f (l0 : List Int) (a1 : Int) : Option (List Int × Int) :=
  if inW l0 then
    if l0.length ≤ 4096 then
      if a1 < 0 ∨ 1000000 < a1 then some ([], 1) else some (fitV (valB W64 l0 ^ a1.toNat))
    else some ([], 2)
  else none
theorem fit_sq {v : Int} (h0 : 0 ≤ v) (j : Nat) (h : (can (v ^ j)).length ≤ 4096) : nat_mul.f (can (v ^ j)) (can (v ^ j)) = some (can (v ^ (2 * j))) := by
  have hp : 0 ≤ v ^ j := Int.pow_nonneg h0
  unfold nat_mul.f
  rw [can_val hp, if_pos ⟨can_in hp, can_in hp, by omega, by omega, h⟩, Nat.two_mul, Int.pow_add]
theorem fit_one {v : Int} (h0 : 0 ≤ v) (j : Nat) (X : List Int) (hX : inW X) (hXv : valB W64 X = v) (hX4 : X.length ≤ 100000) (h : (can (v ^ j)).length ≤ 4096) : nat_mul.f (can (v ^ j)) X = some (can (v ^ (j + 1))) := by
  have hp : 0 ≤ v ^ j := Int.pow_nonneg h0
  unfold nat_mul.f
  rw [can_val hp, hXv, if_pos ⟨can_in hp, hX, by omega, hX4, h⟩, Int.pow_succ]
set_option maxRecDepth 100000 in
set_option maxHeartbeats 4000000 in
theorem nat_Pow.calls (A0 : Option Addr) (c0 : Nat) (l0 : List Int) (a1 : Int) (r1 : List Int) (r2 : Int) (w : World) (hr0 : Kd.C (Kd.int .u64) w A0 l0.length l0) (hc0 : l0.length ≤ c0) (h : nat_Pow.f l0 a1 = some (r1, r2)) :
  Calls Try.prog 11 #[.slice A0 l0.length c0, .int .i64 a1] w fun e w' => ∃ v0_ : Value, e = .returned (.tuple #[v0_, .int .i64 r2]) ∧ Kd.R (Kd.int .u64) 33 w' w.heap.size (fun _ => True) v0_ r1 ∧ Below w.heap.size w w' := by
 unfold nat_Pow.f at h
 by_cases hw : inW l0
 ·rw [if_pos hw] at h
  by_cases h4 : l0.length ≤ 4096
  ·rw [if_pos h4] at h
   have HL := Aside0.mk (large_one A0 c0 l0 w false hr0 hc0 (decide_eq_false (by omega)))
   by_cases hk : a1 < 0 ∨ 1000000 < a1
   ·rw [if_pos hk] at h
    cases h
    clear hr0
    by_cases hk0 : a1 < 0
    ·have b0 : decide (a1 < 0) = true := decide_eq_true hk0
     go_enter Try.func11, Try.ntmps11
     go_wp2
     go_step3
     go_wp2_with fail
     refine HL.out.mono ?_
     rintro e w1 ⟨rfl, hb1⟩
     have HB1 := Aside0.mk hb1
     clear hb1
     go_wp2
     try rw [Exit.noGoto_ret]
     go_ret2
     exact ⟨_, rfl, Kd.R_nil _ _ _ _ _, HB1.out⟩
    ·have b0 : decide (a1 < 0) = false := decide_eq_false hk0
     have b1 : decide (1000000 < a1) = true := decide_eq_true (by omega)
     go_enter Try.func11, Try.ntmps11
     go_wp2
     go_step3
     go_wp2_with fail
     refine HL.out.mono ?_
     rintro e w1 ⟨rfl, hb1⟩
     have HB1 := Aside0.mk hb1
     clear hb1
     go_wp2
     try rw [Exit.noGoto_ret]
     go_ret2
     exact ⟨_, rfl, Kd.R_nil _ _ _ _ _, HB1.out⟩
   ·rw [if_neg hk] at h
    have b0 : decide (a1 < 0) = false := decide_eq_false (by omega)
    have b1 : decide (1000000 < a1) = false := decide_eq_false (by omega)
    have hv0 := valW_nonneg hw
    have cX := can_canL hv0
    have vx := can_val hv0
    have lx := can_le hw
    have HT0 := Aside0.mk (fun w' (hb : Below w.heap.size w w') => trim1 A0 c0 l0 w' hw (Kd.C_below hr0 hb) hc0)
    have C0 := C_take hr0 _ (can_le hw)
    rw [can_take hw] at C0
    obtain ⟨v, hv⟩ : ∃ v, v = valB W64 l0 := ⟨_, rfl⟩
    rw [← hv] at h hv0 cX vx lx HT0 C0
    obtain ⟨X, hX⟩ : ∃ X, X = can v := ⟨_, rfl⟩
    rw [← hX] at cX vx lx HT0 C0
    have HC0 := Aside0.mk C0
    obtain ⟨k, rfl⟩ := Int.eq_ofNat_of_zero_le (show 0 ≤ a1 by omega)
    rw [Int.toNat_natCast] at h
    have hXc : X.length ≤ c0 := by omega
    have hX4 : X.length ≤ 4096 := by omega
    obtain ⟨L, hL⟩ : ∃ L, L = lenL X := ⟨_, rfl⟩
    have HLen := Aside0.mk (show nat_length.f X = some L by unfold nat_length.f; rw [if_pos ⟨canL_in cX, by omega⟩, hL])
    have hL0 : 0 ≤ L ∧ L ≤ 262144 ∧ (1 < L → 2 ^ (L - 1).toNat ≤ v) := by
     by_cases hn : X = []
     ·rw [hL, hn]; unfold lenL; simp
     ·obtain ⟨q1, q2, q3, q4, q5⟩ := lenL_bounds cX hn
      rw [vx] at q4
      rw [hL]
      exact ⟨by omega, by omega, fun _ => q4⟩
    obtain ⟨hL1, hL2, hL3⟩ := hL0
    have hk6 : (k : Int) ≤ 1000000 := by omega
    have hk0 : (0 : Int) ≤ (k : Int) := by omega
    clear C0 hr0 hX hL
    by_cases hearly : 0 < k ∧ 1 < L ∧ 262144 ≤ (L - 1) * (k : Int)
    ·obtain ⟨e1, e2, e3⟩ := hearly
     have hlong := can_high (Int.pow_nonneg hv0) (pow_early (by omega) (hL3 e2) e3)
     unfold fitV at h
     rw [if_neg (by omega)] at h
     cases h
     have b2 : decide (0 < k) = true := decide_eq_true (by omega)
     have b3 : decide (1 < L) = true := decide_eq_true e2
     have hm1 : (L - 1) * (k : Int) ≤ 262144 * 1000000 := Int.mul_le_mul (by omega) hk6 hk0 (by omega)
     have hwr : IntKind.i64.wrap ((L - 1) * (k : Int)) = (L - 1) * (k : Int) := IntWalk.i64_in _ (by omega)
     have b4 : decide (262144 ≤ (L - 1) * (k : Int)) = true := decide_eq_true e3
     clear hL3 hlong hk h4
     go_enter Try.func11, Try.ntmps11
     go_wp2
     go_step3
     go_wp2_with fail
     refine HL.out.mono ?_
     rintro e w1 ⟨rfl, hb1⟩
     have HB1 := Aside0.mk hb1
     clear hb1
     go_wp2_with fail
     refine (HT0.out _ HB1.out).mono ?_
     rintro e w2 ⟨rfl, rfl⟩
     go_wp2_with fail
     refine (nat_length.calls _ _ X _ _ (Kd.C_below HC0.out HB1.out) hXc HLen.out).mono ?_
     rintro e w2 ⟨rfl, hd⟩
     have HB2 := Aside0.mk (below_step HB1.out hd.below)
     clear hd HB1
     go_wp2_with fail
     refine (nat_length.calls _ _ X _ _ (Kd.C_below HC0.out HB2.out) hXc HLen.out).mono ?_
     rintro e w3 ⟨rfl, hd⟩
     have HB3 := Aside0.mk (below_step HB2.out hd.below)
     clear hd HB2
     go_wp2
     try rw [Exit.noGoto_ret]
     go_ret2
     exact ⟨_, rfl, Kd.R_nil _ _ _ _ _, HB3.out⟩
    ·have HBL := Aside0.mk (Try.bits_Len (k : Int) · hk0 (by omega))
     have HV1 := Aside0.mk (show can (v ^ 0) = [1] by rw [Int.pow_zero]; decide)
     have hb : decide (0 < k) = false ∨ (decide (0 < k) = true ∧ decide (1 < L) = false) ∨ (decide (0 < k) = true ∧ decide (1 < L) = true ∧ IntKind.i64.wrap ((L - 1) * (k : Int)) = (L - 1) * (k : Int) ∧ decide (262144 ≤ (L - 1) * (k : Int)) = false) := by
      by_cases h1 : 0 < k
      ·by_cases h2 : 1 < L
       ·have h3 : ¬ 262144 ≤ (L - 1) * (k : Int) := fun h3 => hearly ⟨h1, h2, h3⟩
        have h5 : 0 ≤ (L - 1) * (k : Int) := Int.mul_nonneg (by omega) hk0
        exact .inr (.inr ⟨decide_eq_true h1, decide_eq_true h2, IntWalk.i64_in _ (by omega), decide_eq_false h3⟩)
       ·exact .inr (.inl ⟨decide_eq_true h1, decide_eq_false h2⟩)
      ·exact .inl (decide_eq_false h1)
     have HH := Aside0.mk h
     have hbl : Lib.bitLen k ≤ 20 := (bitLen_bounds 20 k (by omega) (by omega)).2.2
     have HKZ := Aside0.mk (show k / 2 ^ Lib.bitLen k = 0 from Nat.div_eq_of_lt (bitLen_bounds 20 k (by omega) (by omega)).1)
     have HXI := Aside0.mk (canL_in cX)
     clear hearly hL3 hk hv h
     rcases hb with b2 | ⟨b2, b3⟩ | ⟨b2, b3, hwr, b4⟩
     all_goals
      go_enter Try.func11, Try.ntmps11
      go_wp2
      go_step3
      go_wp2_with fail
      refine HL.out.mono ?_
      rintro e w1 ⟨rfl, hb1⟩
      have HB1 := Aside0.mk hb1
      clear hb1
      go_wp2_with fail
      refine (HT0.out _ HB1.out).mono ?_
      rintro e w2 ⟨rfl, rfl⟩
      go_wp2_with (go_at_call 42; refine (nat_length.calls _ _ X _ _ (Kd.C_below HC0.out HB1.out) hXc HLen.out).mono ?_; rintro e w2 ⟨rfl, hd⟩; have HBn := Aside0.mk (below_step HB1.out hd.below); clear hd HB1; have HB1 := HBn; clear HBn)
      go_step3
      go_wp2_with fail
      refine (HBL.out _).mono ?_
      rintro e w3 ⟨rfl, rfl⟩
      rename World => w4
      have HO1 := Aside0.mk (show Kd.R (Kd.int .u64) 33 (w4.alloc (.cells #[.int .u64 1] 33)) w.heap.size (fun _ => True) (.slice (some ⟨w4.heap.size, 0, none⟩) 1 1) ([1] : List Int) from Kd.R_of_own (enc := Value.int .u64) (h1 := fun _ => rfl) (own_lit w4 w.heap.size 33 .u64 [1] (below_size HB1.out) (by simp)) (fun _ _ => trivial))
      have HBa := Aside0.mk (below_alloc HB1.out (.cells #[.int .u64 1] 33))
      clear HB1
      go_wp2
      go_loopw [6, 7] (fun s i wr => ∃ (j e : Nat), i = .int .i64 ((j : Int) - 1) ∧ j ≤ 20 ∧ Aside0 (k / 2 ^ j = e) ∧ Aside0 ((can (v ^ e)).length ≤ 4096) ∧ Aside0 (Kd.R (Kd.int .u64) 33 wr w.heap.size (fun _ => True) s (can (v ^ e))) ∧ Aside0 (Below w.heap.size w wr)) (fun _ i _ => (intOf i + 1).toNat)
      case atStart => exact ⟨Lib.bitLen k, 0, rfl, hbl, HKZ, ⟨by rw [HV1.out]; simp⟩, ⟨by rw [HV1.out]; exact HO1.out⟩, HBa⟩
      case round =>
       clear HO1 HBa
       obtain ⟨j, e, rfl, hj, HE, HE4, HO, HB⟩ := hrel
       by_cases hj0 : j = 0
       ·subst hj0
        have hek : e = k := by have := HE.out; rw [Nat.pow_zero, Nat.div_one] at this; exact this.symm
        subst hek
        have hhh := HH.out
        unfold fitV at hhh
        rw [if_pos HE4.out] at hhh
        cases hhh
        have hve : 0 ≤ v ^ e := Int.pow_nonneg hv0
        obtain ⟨A5, c5, hs⟩ := Kd.R_slice HO.out
        subst hs
        have HF := Aside0.mk (fit1 A5 c5 (can (v ^ e)) wr (can_in hve) (R_C HO.out) (R_cap HO.out))
        rw [can_val hve, if_pos HE4.out] at HF
        have hn : decide (((0 : Nat) : Int) - 1 < 0) = true := by decide
        clear hve
        go_wp2_with fail
        refine HF.out.mono ?_
        rintro e9 w9 ⟨rfl, rfl⟩
        go_wp2
        try rw [Exit.noGoto_ret]
        go_ret2
        exact ⟨_, rfl, HO.out, HB.out⟩
       ·have hn : decide ((j : Int) - 1 < 0) = false := decide_eq_false (by omega)
        have hj1 : (0 : Int) ≤ (j : Int) - 1 := by omega
        obtain ⟨A5, c5, hs⟩ := Kd.R_slice HO.out
        subst hs
        obtain ⟨q1, q2, q3⟩ := Kd.R_reads' HO.out
        have HM' := Aside0.mk (nat_mul.calls A5 c5 (can (v ^ e)) A5 c5 (can (v ^ e)) _ wr q3 q2 q3 q2 (fit_sq hv0 e HE4.out))
        have hbit := Go.Proofs.and_one (k / 2 ^ (j - 1)) (Nat.lt_of_le_of_lt (Nat.div_le_self _ _) (by omega))
        have hE : k / 2 ^ (j - 1) = 2 * e + k / 2 ^ (j - 1) % 2 := by
         have h1 : e = k / 2 ^ (j - 1) / 2 := by rw [← HE.out, Nat.div_div_eq_div_mul, ← Nat.pow_succ]; congr 2; omega
         omega
        have hEk : k / 2 ^ (j - 1) ≤ k := Nat.div_le_self _ _
        simp only [Int.natCast_ediv, Int.natCast_pow, Int.cast_ofNat_Int] at hbit
        obtain ⟨E, hEe⟩ : ∃ E, E = k / 2 ^ (j - 1) := ⟨_, rfl⟩
        rw [← hEe] at hE hEk hbit
        have HEe := Aside0.mk hEe.symm
        clear q1 q2 q3 HE hEe
        by_cases hodd : E % 2 = 1
        ·rw [hodd] at hbit hE
         subst hE
         simp only [Int.cast_ofNat_Int] at hbit
         by_cases hM4 : (can (v ^ (2 * e))).length ≤ 4096
         ·have HMul := Aside0.mk (fit_one hv0 (2 * e) X HXI.out vx (by omega) hM4)
          obtain ⟨M, hM⟩ : ∃ M, M = can (v ^ (2 * e)) := ⟨_, rfl⟩
          rw [← hM] at HM' hM4 HMul
          have c1 : decide ((M.length : Int) ≤ 4096) = true := decide_eq_true (by omega)
          have HMM := Aside0.mk hM
          clear hM hM4
          by_cases hN4 : (can (v ^ (2 * e + 1))).length ≤ 4096
          ·have HN4 := Aside0.mk hN4
           obtain ⟨N, hN⟩ : ∃ N, N = can (v ^ (2 * e + 1)) := ⟨_, rfl⟩
           rw [← hN] at HMul hN4
           have c2 : decide (4096 < (N.length : Int)) = false := decide_eq_false (by omega)
           have HNN := Aside0.mk hN
           clear hN hN4 hodd
           go_wp2_with fail
           refine HM'.out.mono ?_
           rintro e9 w9 ⟨v9, rfl, hR9, hb9⟩
           obtain ⟨A6, c6, rfl⟩ := Kd.R_slice hR9
           have HR9 := Aside0.mk hR9
           have HB9 := Aside0.mk (below_step HB.out hb9)
           clear hR9 hb9
           go_wp2_with fail
           refine (nat_mul.calls A6 c6 M A0 c0 X N w9 (R_C HR9.out) (R_cap HR9.out) (Kd.C_below HC0.out HB9.out) hXc HMul.out).mono ?_
           rintro e10 w10 ⟨v10, rfl, hR10, hb10⟩
           obtain ⟨A7, c7, rfl⟩ := Kd.R_slice hR10
           have HR10 := Aside0.mk (Kd.R_lower hR10 (below_size HB9.out))
           have HB10 := Aside0.mk (below_step HB9.out hb10)
           clear hR10 hb10
           go_wp2
           go_roundw
           case rel => exact ⟨j - 1, 2 * e + 1, by go_num, by omega, HEe, HN4, ⟨by rw [← HNN.out]; exact HR10.out⟩, HB10⟩
           case measure => simp [intOf]; omega
          ·have hhh := HH.out
           unfold fitV at hhh
           rw [if_neg (by have := pow_long hv0 hEk (by omega); omega)] at hhh
           cases hhh
           obtain ⟨N, hN⟩ : ∃ N, N = can (v ^ (2 * e + 1)) := ⟨_, rfl⟩
           rw [← hN] at HMul hN4
           have c2 : decide (4096 < (N.length : Int)) = true := decide_eq_true (by omega)
           clear hN hN4 hodd
           go_wp2_with fail
           refine HM'.out.mono ?_
           rintro e9 w9 ⟨v9, rfl, hR9, hb9⟩
           obtain ⟨A6, c6, rfl⟩ := Kd.R_slice hR9
           have HR9 := Aside0.mk hR9
           have HB9 := Aside0.mk (below_step HB.out hb9)
           clear hR9 hb9
           go_wp2_with fail
           refine (nat_mul.calls A6 c6 M A0 c0 X N w9 (R_C HR9.out) (R_cap HR9.out) (Kd.C_below HC0.out HB9.out) hXc HMul.out).mono ?_
           rintro e10 w10 ⟨v10, rfl, hR10, hb10⟩
           obtain ⟨A7, c7, rfl⟩ := Kd.R_slice hR10
           have HB10 := Aside0.mk (below_step HB9.out hb10)
           clear hR10 hb10
           go_wp2
           try rw [Exit.noGoto_ret]
           go_ret2
           exact ⟨_, rfl, Kd.R_nil _ _ _ _ _, HB10.out⟩
         ·have hhh := HH.out
          unfold fitV at hhh
          rw [if_neg (by have := pow_long hv0 (show 2 * e ≤ k by omega) (by omega); omega)] at hhh
          cases hhh
          obtain ⟨M, hM⟩ : ∃ M, M = can (v ^ (2 * e)) := ⟨_, rfl⟩
          rw [← hM] at HM' hM4
          have c1 : decide ((M.length : Int) ≤ 4096) = false := decide_eq_false (by omega)
          have c2 : decide (4096 < (M.length : Int)) = true := decide_eq_true (by omega)
          clear hM hM4 hodd
          go_wp2_with fail
          refine HM'.out.mono ?_
          rintro e9 w9 ⟨v9, rfl, hR9, hb9⟩
          obtain ⟨A6, c6, rfl⟩ := Kd.R_slice hR9
          have HB9 := Aside0.mk (below_step HB.out hb9)
          clear hR9 hb9
          go_wp2
          try rw [Exit.noGoto_ret]
          go_ret2
          exact ⟨_, rfl, Kd.R_nil _ _ _ _ _, HB9.out⟩
        ·rw [show E % 2 = 0 by omega] at hbit hE
         rw [Nat.add_zero] at hE
         subst hE
         simp only [Int.cast_ofNat_Int] at hbit
         by_cases hM4 : (can (v ^ (2 * e))).length ≤ 4096
         ·have HM4 := Aside0.mk hM4
          obtain ⟨M, hM⟩ : ∃ M, M = can (v ^ (2 * e)) := ⟨_, rfl⟩
          rw [← hM] at HM' hM4
          have c2 : decide (4096 < (M.length : Int)) = false := decide_eq_false (by omega)
          have HMM := Aside0.mk hM
          clear hM hM4 hodd
          go_wp2_with fail
          refine HM'.out.mono ?_
          rintro e9 w9 ⟨v9, rfl, hR9, hb9⟩
          obtain ⟨A6, c6, rfl⟩ := Kd.R_slice hR9
          have HR9 := Aside0.mk (Kd.R_lower hR9 (below_size HB.out))
          have HB9 := Aside0.mk (below_step HB.out hb9)
          clear hR9 hb9
          go_wp2
          go_roundw
          case rel => exact ⟨j - 1, 2 * e, by go_num, by omega, HEe, HM4, ⟨by rw [← HMM.out]; exact HR9.out⟩, HB9⟩
          case measure => simp [intOf]; omega
         ·have hhh := HH.out
          unfold fitV at hhh
          rw [if_neg (by have := pow_long hv0 hEk (by omega); omega)] at hhh
          cases hhh
          obtain ⟨M, hM⟩ : ∃ M, M = can (v ^ (2 * e)) := ⟨_, rfl⟩
          rw [← hM] at HM' hM4
          have c2 : decide (4096 < (M.length : Int)) = true := decide_eq_true (by omega)
          clear hM hM4 hodd
          go_wp2_with fail
          refine HM'.out.mono ?_
          rintro e9 w9 ⟨v9, rfl, hR9, hb9⟩
          obtain ⟨A6, c6, rfl⟩ := Kd.R_slice hR9
          have HB9 := Aside0.mk (below_step HB.out hb9)
          clear hR9 hb9
          go_wp2
          try rw [Exit.noGoto_ret]
          go_ret2
          exact ⟨_, rfl, Kd.R_nil _ _ _ _ _, HB9.out⟩
  ·rw [if_neg h4] at h
   cases h
   have HL := Aside0.mk (large_one A0 c0 l0 w true hr0 hc0 (decide_eq_true (by omega)))
   clear hr0
   go_enter Try.func11, Try.ntmps11
   go_wp2
   go_step3
   go_wp2_with fail
   refine HL.out.mono ?_
   rintro e w1 ⟨rfl, hb1⟩
   have HB1 := Aside0.mk hb1
   clear hb1
   go_wp2
   try rw [Exit.noGoto_ret]
   go_ret2
   exact ⟨_, rfl, Kd.R_nil _ _ _ _ _, HB1.out⟩
 ·rw [if_neg hw] at h; cases h
end Go.Proofs.Ytkkkbalefnileaa.Ex
/- The closure of nat.Square: two words added to a row from some place on. -/
namespace Go.Proofs.Ytkkkbalefnileaa.Ex
open Go.RowKit Go.Shelf Go.Proofs.YtkkkbalefnileaaW.PrintWords Go.Proofs.YtkkkbalefnileaaW.PrintLast Go.Proofs.YtkkkbalefnileaaW.PrintMore
set_option linter.unusedVariables false
set_option linter.unusedSimpArgs false

/-- One word of a row, and what is carried. -/
theorem add_step {z : List Int} {k n : Nat} {x cc T : Int} (hz : inW z) (hl : z.length = n) (hk : k < n) (hx : isW x) (hc0 : 0 ≤ cc) (hc1 : cc ≤ 1) (hT : valB W64 z + W64 ^ k * (x + cc) = T) :
    ∃ s c, addS (z.getD k 0) x cc = (s, c) ∧ inW (z.set k s) ∧ (z.set k s).length = n ∧ 0 ≤ c ∧ c ≤ 1 ∧ valB W64 (z.set k s) + W64 ^ (k + 1) * c = T := by
  have hok := addS_ok (isW_get hz k) hx ⟨hc0, hc1⟩
  obtain ⟨s, c, hsc⟩ : ∃ s c, addS (z.getD k 0) x cc = (s, c) := ⟨_, _, rfl⟩
  rw [hsc] at hok
  obtain ⟨⟨o1, o1'⟩, o2, o3⟩ := hok
  simp only at o1 o1' o2 o3
  rw [Int.one_mul, Int.one_mul] at o3
  refine ⟨s, c, hsc, inB_set hz _ o2, by simp [hl], o1, o1', ?_⟩
  rw [valB_set W64 z k s (by omega), Int.pow_succ]
  generalize z.getD k 0 = y at *
  generalize W64 ^ k = P at *
  have e1 : P * W64 * c = P * (W64 * c) := Int.mul_assoc _ _ _
  have e2 : W64 * c = y + x + cc - s := by omega
  rw [e1, e2, ← hT]
  simp only [Int.mul_sub, Int.mul_add]
  omega
/-- Nothing is carried beyond the end. -/
theorem carry_in {z : List Int} {k n : Nat} {cc T : Int} (hz : inW z) (hl : z.length = n) (hk : k ≤ n) (hc : 0 < cc) (hT : valB W64 z + W64 ^ k * cc = T) (hTn : T < W64 ^ n) : k < n := by
  rcases Nat.lt_or_ge k n with h | h
  · exact h
  · exfalso
    obtain rfl : k = n := by omega
    have h1 := valB_nonneg W64_pos hz
    have h2 : W64 ^ k * 1 ≤ W64 ^ k * cc := Int.mul_le_mul_of_nonneg_left (by omega) (Int.le_of_lt (pow_posB W64_pos k))
    rw [Int.mul_one] at h2
    omega
/-- What the closure leaves. -/
def PutPost (g bx n : Nat) (T : Int) (w : World) (e : Ending) (w' : World) : Prop :=
  (∃ v, e = .returned v) ∧ ∃ z', RowB w' g z' ∧ inW z' ∧ z'.length = n ∧ valB W64 z' = T ∧ Below g w w' ∧ w'.heap[bx]? = w.heap[bx]?
set_option maxRecDepth 100000 in
set_option maxHeartbeats 4000000 in
theorem put1 (g bx n a : Nat) (high low : Int) (z : List Int) (w : World) (hn : n ≤ 1000000) (hz : inW z) (hl : z.length = n) (ha : a + 2 ≤ n) (hh : isW high) (hlo : isW low) (hr : RowB w g z) (hb : Boxed w bx 23 (.slice (some ⟨g, 0, none⟩) n n)) (hne : bx ≠ g)
    (hT : valB W64 z + W64 ^ a * (low + W64 * high) < W64 ^ n) :
    Calls Try.prog 62 #[.int .i64 (a : Int), .int .u64 high, .int .u64 low, .pointer (some ⟨bx, 0, none⟩)] w (PutPost g bx n (valB W64 z + W64 ^ a * (low + W64 * high)) w) := by
  obtain ⟨T, hTe⟩ : ∃ T, T = valB W64 z + W64 ^ a * (low + W64 * high) := ⟨_, rfl⟩
  rw [← hTe] at hT ⊢
  obtain ⟨s, c, hsc, q1, q2, q3, q4, q5⟩ := add_step hz hl (show a < n by omega) hlo (Int.le_refl 0) (by decide : (0 : Int) ≤ 1) rfl
  have hadd := add64 (z.getD a 0) low 0 (isW_get hz a).1 hlo.1 (Int.le_refl 0) (by decide)
  rw [hsc] at hadd
  rw [Int.add_zero] at q5
  have hT2 : valB W64 (z.set a s) + W64 ^ (a + 1) * (high + c) = T := by
    rw [Int.mul_add, hTe, Int.mul_add, Int.pow_succ, ← Int.mul_assoc]
    rw [Int.pow_succ] at q5
    omega
  obtain ⟨s2, c2, hsc2, p1, p2, p3, p4, p5⟩ := add_step q1 q2 (show a + 1 < n by omega) hh q3 q4 hT2
  have hadd2 := add64 ((z.set a s).getD (a + 1) 0) high c (isW_get q1 (a + 1)).1 hh.1 q3 q4
  rw [hsc2] at hadd2
  simp only at hadd hadd2
  have gz := hb.cell
  have x1 := hr.cell a (by omega)
  have f1 := hr.frozen a
  obtain ⟨y, hy⟩ : ∃ y, y = z.getD a 0 := ⟨_, rfl⟩
  rw [← hy] at hadd x1
  obtain ⟨y2, hy2⟩ : ∃ y2, y2 = (z.set a s).getD (a + 1) 0 := ⟨_, rfl⟩
  rw [← hy2] at hadd2
  have HY2 := Aside0.mk hy2
  have HTn := Aside0.mk hT
  have HR := Aside0.mk hr
  have HBx := Aside0.mk hb
  have HBx0 := Aside0.mk hb
  have HQ1 := Aside0.mk (show inW (z.set a s) ∧ (z.set a s).length = n from ⟨q1, q2⟩)
  have HP := Aside0.mk (show inW ((z.set a s).set (a + 1) s2) ∧ ((z.set a s).set (a + 1) s2).length = n ∧ valB W64 ((z.set a s).set (a + 1) s2) + W64 ^ (a + 1 + 1) * c2 = T from ⟨p1, p2, p5⟩)
  have j0 : (0 : Int) ≤ (a : Int) := by omega
  have j1 : (a : Int) < (n : Int) := by omega
  have jt : ((a : Nat) : Int).toNat = a := rfl
  clear hTe hsc hsc2 hT2 hy hy2 q1 q2 q5 p1 p2 p5 hT hr hb hh hlo hz hl
  go_enter Try.func62, Try.ntmps62
  go_wp2
  go_region
  have r1 : RowB (w.setCell ⟨g, a, none⟩ (.int .u64 s)).drew g (z.set a s) := RowB.set HR.out a s
  have b1 : Boxed (w.setCell ⟨g, a, none⟩ (.int .u64 s)).drew bx 23 (.slice (some ⟨g, 0, none⟩) n n) := Boxed.far HBx.out (p := ⟨g, a, none⟩) (by show bx ≠ g; exact hne) _
  have K1 := Aside0.mk (show Below g w (w.setCell ⟨g, a, none⟩ (.int .u64 s)).drew from below_drew ((Below.refl g w).setCell (p := ⟨g, a, none⟩) (Nat.le_refl _) _))
  clear gz x1 f1 hadd HR HBx
  generalize (w.setCell ⟨g, a, none⟩ (.int .u64 s)).drew = W1 at *
  have gz := b1.cell
  have x1 := r1.cell (a + 1) (by rw [HQ1.out.2]; omega)
  have f1 := r1.frozen (a + 1)
  rw [← HY2.out] at x1
  have HR := Aside0.mk r1
  have HBx := Aside0.mk b1
  have j2 : (0 : Int) ≤ (a : Int) + 1 := by omega
  have j3 : (a : Int) + 1 < (n : Int) := by omega
  have j4 : ((a : Int) + 1).toNat = a + 1 := by omega
  have jw : IntKind.i64.wrap ((a : Int) + 1) = (a : Int) + 1 := IntWalk.i64_in _ (by omega)
  clear r1 b1 HY2
  go_wp2
  go_region
  have r2 : RowB (W1.setCell ⟨g, a + 1, none⟩ (.int .u64 s2)).drew g ((z.set a s).set (a + 1) s2) := RowB.set HR.out (a + 1) s2
  have b2 : Boxed (W1.setCell ⟨g, a + 1, none⟩ (.int .u64 s2)).drew bx 23 (.slice (some ⟨g, 0, none⟩) n n) := Boxed.far HBx.out (p := ⟨g, a + 1, none⟩) (by show bx ≠ g; exact hne) _
  have K2 := Aside0.mk (show Below g w (W1.setCell ⟨g, a + 1, none⟩ (.int .u64 s2)).drew from below_drew (K1.out.setCell (p := ⟨g, a + 1, none⟩) (Nat.le_refl _) _))
  clear gz x1 f1 hadd2 HR HBx K1
  generalize (W1.setCell ⟨g, a + 1, none⟩ (.int .u64 s2)).drew = W2 at *
  obtain ⟨z2, hz2⟩ : ∃ z2, z2 = (z.set a s).set (a + 1) s2 := ⟨_, rfl⟩
  rw [← hz2] at HP r2
  clear hz2 HQ1 jw j2 j3 j4 jt
  go_wp2
  go_loopw [7, 8] (fun c i wr => ∃ (k : Nat) (z' : List Int) (cc : Int), k ≤ n ∧ i = .int .i64 (k : Int) ∧ c = .int .u64 cc ∧ 0 ≤ cc ∧ cc ≤ 1 ∧ Aside0 (inW z' ∧ z'.length = n ∧ valB W64 z' + W64 ^ k * cc = T) ∧ RowB wr g z' ∧ Boxed wr bx 23 (.slice (some ⟨g, 0, none⟩) n n) ∧ Aside0 (Below g w wr)) (fun _ i _ => n - (intOf i).toNat)
  case atStart => exact ⟨a + 2, z2, c2, by omega, by go_num, rfl, p3, p4, HP, r2, b2, K2⟩
  case round =>
    clear r2 b2 K2 HP p3 p4 q3 q4
    obtain ⟨k, z', cc, hk, rfl, rfl, hc0, hc1, HZ, r0, b0, K⟩ := hrel
    by_cases h0 : 0 < cc
    · have h0b : decide (0 < cc) = true := decide_eq_true h0
      have hkn := carry_in HZ.out.1 HZ.out.2.1 hk h0 HZ.out.2.2 HTn.out
      obtain ⟨s, c, hsc, q1, q2, q3, q4, q5⟩ := add_step HZ.out.1 HZ.out.2.1 hkn (x := 0) ⟨Int.le_refl 0, W64_pos⟩ hc0 hc1 (T := T) (by rw [Int.zero_add]; exact HZ.out.2.2)
      have hadd := add64 (z'.getD k 0) 0 cc (isW_get HZ.out.1 k).1 (Int.le_refl 0) hc0 hc1
      rw [hsc] at hadd
      simp only at hadd
      have gz := b0.cell
      have x1 := r0.cell k (by rw [HZ.out.2.1]; exact hkn)
      have f1 := r0.frozen k
      obtain ⟨y, hy⟩ : ∃ y, y = z'.getD k 0 := ⟨_, rfl⟩
      rw [← hy] at hadd x1
      have HQ := Aside0.mk (show inW (z'.set k s) ∧ (z'.set k s).length = n ∧ valB W64 (z'.set k s) + W64 ^ (k + 1) * c = T from ⟨q1, q2, q5⟩)
      have j2 : (0 : Int) ≤ (k : Int) := by omega
      have j3 : (k : Int) < (n : Int) := by omega
      have j4 : ((k : Nat) : Int).toNat = k := rfl
      have HR := Aside0.mk r0
      have HBx := Aside0.mk b0
      clear hy hsc q1 q2 q5 r0 b0 HZ
      go_wp2
      go_region
      have r1 : RowB (wr.setCell ⟨g, k, none⟩ (.int .u64 s)).drew g (z'.set k s) := RowB.set HR.out k s
      have b1 : Boxed (wr.setCell ⟨g, k, none⟩ (.int .u64 s)).drew bx 23 (.slice (some ⟨g, 0, none⟩) n n) := Boxed.far HBx.out (p := ⟨g, k, none⟩) (by show bx ≠ g; exact hne) _
      have K1 := Aside0.mk (show Below g w (wr.setCell ⟨g, k, none⟩ (.int .u64 s)).drew from below_drew (K.out.setCell (p := ⟨g, k, none⟩) (Nat.le_refl _) _))
      clear gz x1 f1 hadd HR HBx K
      generalize (wr.setCell ⟨g, k, none⟩ (.int .u64 s)).drew = W3 at *
      go_wp2
      go_roundw
      case rel => exact ⟨k + 1, z'.set k s, c, by omega, by go_num, rfl, q3, q4, HQ, r1, b1, K1⟩
      case measure => simp [intOf]; omega
    · have h0b : decide (0 < cc) = false := decide_eq_false h0
      obtain rfl : cc = 0 := by omega
      have hv := HZ.out.2.2
      rw [Int.mul_zero, Int.add_zero] at hv
      have HV := Aside0.mk hv
      have HR := Aside0.mk r0
      have HBx := Aside0.mk b0
      clear hv r0 b0
      go_wp2
      go_end0
      exact ⟨⟨_, rfl⟩, z', HR.out, HZ.out.1, HZ.out.2.1, HV.out, K.out, HBx.out.trans HBx0.out.symm⟩
end Go.Proofs.Ytkkkbalefnileaa.Ex
/- The sum of products that a square is made of. No program here. -/
namespace Go.Proofs.Ytkkkbalefnileaa.Ex
set_option linter.unusedVariables false

/-- What lies from place i on. -/
def tlV (X : List Int) (i : Nat) : Int := valB W64 X - valB W64 (X.take i)
/-- The products of words at two places, the lower one below i. -/
def crV (X : List Int) : Nat → Int
  | 0 => 0
  | i + 1 => crV X i + W64 ^ i * X.getD i 0 * tlV X (i + 1)
/-- The squares of the words below i. -/
def sqV (X : List Int) : Nat → Int
  | 0 => 0
  | i + 1 => sqV X i + W64 ^ (2 * i) * (X.getD i 0 * X.getD i 0)
theorem take_step' (X : List Int) (k : Nat) : valB W64 (X.take (k + 1)) = valB W64 (X.take k) + W64 ^ k * X.getD k 0 := by
  by_cases h : k < X.length
  · exact valB_take_succ W64 X k h
  · rw [List.take_of_length_le (by omega), List.take_of_length_le (by omega), getD_beyond X k (by omega), Int.mul_zero, Int.add_zero]
theorem tlV_step (X : List Int) (i : Nat) : tlV X i = W64 ^ i * X.getD i 0 + tlV X (i + 1) := by
  unfold tlV; rw [take_step']; omega
theorem tlV_nonneg {X : List Int} (h : inW X) (i : Nat) : 0 ≤ tlV X i := by
  unfold tlV
  by_cases hi : i ≤ X.length
  · rw [valB_split W64 X i hi]
    have := Int.mul_nonneg (Int.le_of_lt (pow_posB W64_pos i)) (valB_nonneg W64_pos (inB_drop h i))
    omega
  · rw [List.take_of_length_le (by omega)]; omega
theorem tlV_end (X : List Int) : tlV X X.length = 0 := by unfold tlV; rw [List.take_length]; omega
theorem cr_sq (X : List Int) : ∀ i, 2 * crV X i + sqV X i = valB W64 X * valB W64 X - tlV X i * tlV X i
  | 0 => by simp [crV, sqV, tlV, valB]
  | i + 1 => by
    have ih := cr_sq X i
    rw [tlV_step X i] at ih
    have e : W64 ^ (2 * i) = W64 ^ i * W64 ^ i := by rw [Nat.two_mul, Int.pow_add]
    simp only [crV, sqV, e]
    generalize W64 ^ i = P at *
    generalize X.getD i 0 = x at *
    generalize tlV X (i + 1) = t at *
    generalize crV X i = c at *
    generalize sqV X i = q at *
    generalize valB W64 X = V at *
    grind
theorem sqV_nonneg {X : List Int} (h : inW X) : ∀ i, 0 ≤ sqV X i
  | 0 => Int.le_refl 0
  | i + 1 => by
    have h1 := sqV_nonneg h i
    have hx := (isW_get h i).1
    have := Int.mul_nonneg (Int.le_of_lt (pow_posB W64_pos (2 * i))) (Int.mul_nonneg hx hx)
    show 0 ≤ sqV X i + _
    omega
theorem crV_nonneg {X : List Int} (h : inW X) : ∀ i, 0 ≤ crV X i
  | 0 => Int.le_refl 0
  | i + 1 => by
    have h1 := crV_nonneg h i
    have := Int.mul_nonneg (Int.mul_nonneg (Int.le_of_lt (pow_posB W64_pos i)) (isW_get h i).1) (tlV_nonneg h (i + 1))
    show 0 ≤ crV X i + _
    omega
/-- The square is small. -/
theorem sq_lt {X : List Int} (h : inW X) : valB W64 X * valB W64 X < W64 ^ (2 * X.length) := by
  have h0 := valB_nonneg W64_pos h
  have h1 := valB_lt W64_pos h
  rw [Nat.two_mul, Int.pow_add]
  exact Int.lt_of_le_of_lt (Int.mul_le_mul_of_nonneg_left (Int.le_of_lt h1) h0) (Int.mul_lt_mul_of_pos_right h1 (pow_posB W64_pos _))
theorem cr_lt {X : List Int} (h : inW X) (i : Nat) : 2 * crV X i < W64 ^ (2 * X.length) := by
  have h1 := cr_sq X i
  have h2 := sqV_nonneg h i
  have h3 := sq_lt h
  have h4 := Int.mul_nonneg (tlV_nonneg h i) (tlV_nonneg h i)
  omega
theorem cr_sq_lt {X : List Int} (h : inW X) (i : Nat) : 2 * crV X X.length + sqV X i ≤ valB W64 X * valB W64 X ∨ X.length < i := by
  by_cases hi : X.length < i
  · exact .inr hi
  · left
    have h1 := cr_sq X X.length
    rw [tlV_end, Int.mul_zero, Int.sub_zero] at h1
    have h2 : ∀ d j, j + d = X.length → sqV X j ≤ sqV X X.length := by
      intro d
      induction d with
      | zero => intro j hj; rw [show j = X.length by omega]; exact Int.le_refl _
      | succ d ih =>
        intro j hj
        have h3 := ih (j + 1) (by omega)
        have hx := (isW_get h j).1
        have := Int.mul_nonneg (Int.le_of_lt (pow_posB W64_pos (2 * j))) (Int.mul_nonneg hx hx)
        have h4 : sqV X (j + 1) = sqV X j + W64 ^ (2 * j) * (X.getD j 0 * X.getD j 0) := rfl
        omega
    have h3 := h2 (X.length - i) i (by omega)
    omega
/-- Part of a place's products. -/
def crP (X : List Int) (i k : Nat) : Int := crV X i + W64 ^ i * X.getD i 0 * (valB W64 (X.take k) - valB W64 (X.take (i + 1)))
theorem crP_start (X : List Int) (i : Nat) : crP X i (i + 1) = crV X i := by unfold crP; rw [Int.sub_self, Int.mul_zero, Int.add_zero]
theorem crV_succ (X : List Int) (i : Nat) : crV X (i + 1) = crV X i + W64 ^ i * X.getD i 0 * (valB W64 X - valB W64 (X.take (i + 1))) := rfl
theorem crP_end (X : List Int) (i : Nat) : crP X i X.length = crV X (i + 1) := by rw [crV_succ]; unfold crP; rw [List.take_length]
theorem crP_step (X : List Int) (i k : Nat) : crP X i (k + 1) = crP X i k + W64 ^ (i + k) * (X.getD i 0 * X.getD k 0) := by
  unfold crP
  rw [take_step' X k, Int.pow_add]
  generalize W64 ^ i = P
  generalize W64 ^ k = Q
  generalize X.getD i 0 = x
  generalize X.getD k 0 = y
  generalize valB W64 (X.take k) = a
  generalize valB W64 (X.take (i + 1)) = b
  grind
theorem take_le {X : List Int} (h : inW X) (k : Nat) : valB W64 (X.take k) ≤ valB W64 X := by
  have := tlV_nonneg h k
  unfold tlV at this
  omega
theorem crP_lt {X : List Int} (h : inW X) (i k : Nat) : crP X i k < W64 ^ (2 * X.length) := by
  have h1 := cr_lt h (i + 1)
  have h2 := crV_nonneg h (i + 1)
  have h3 : crP X i k ≤ crV X (i + 1) := by
    rw [crV_succ]
    unfold crP
    have h4 := Int.mul_le_mul_of_nonneg_left (show valB W64 (X.take k) - valB W64 (X.take (i + 1)) ≤ valB W64 X - valB W64 (X.take (i + 1)) from by have := take_le h k; omega) (Int.mul_nonneg (Int.le_of_lt (pow_posB W64_pos i)) (isW_get h i).1)
    omega
  omega
end Go.Proofs.Ytkkkbalefnileaa.Ex
/- Shifts of words. -/
namespace Go.Proofs.Ytkkkbalefnileaa.Ex
open Go.RowKit Go.Proofs.YtkkkbalefnileaaW.PrintWords Go.Proofs.YtkkkbalefnileaaW.PrintLast Go.Proofs.YtkkkbalefnileaaW.PrintMore
set_option linter.unusedVariables false
set_option linter.unusedSimpArgs false

theorem shift_nat (X C n : Nat) (hn : n ≤ 63) (hX : X < 18446744073709551616) (hC : C < 2 ^ n) :
    (X * 2 ^ n % 18446744073709551616) ||| C = (X * 2 ^ n + C) % 18446744073709551616 ∧ X / 2 ^ (64 - n) = (X * 2 ^ n + C) / 18446744073709551616 ∧ X / 2 ^ (64 - n) < 2 ^ n ∧ X * 2 ^ n % 18446744073709551616 < 18446744073709551616 ∧ C < 18446744073709551616 := by
  have hB : 2 ^ n * 2 ^ (64 - n) = 18446744073709551616 := by rw [← Nat.pow_add, show n + (64 - n) = 64 by omega]
  have hp : 0 < 2 ^ n := Nat.pow_pos (by decide)
  have hp2 : 0 < 2 ^ (64 - n) := Nat.pow_pos (by decide)
  have hd := Nat.div_add_mod X (2 ^ (64 - n))
  have hr := Nat.mod_lt X hp2
  have hq : X / 2 ^ (64 - n) < 2 ^ n := by rw [Nat.div_lt_iff_lt_mul hp2, hB]; exact hX
  generalize X / 2 ^ (64 - n) = q at hd hq ⊢
  generalize X % 2 ^ (64 - n) = r at hd hr
  have hm : X * 2 ^ n = 18446744073709551616 * q + 2 ^ n * r := by
    rw [← hd, ← hB, Nat.add_mul, Nat.mul_comm (2 ^ (64 - n)) q, Nat.mul_assoc, Nat.mul_comm (2 ^ (64 - n)) (2 ^ n), hB, Nat.mul_comm r, Nat.mul_comm q]
  have hs : 2 ^ n * r + C < 18446744073709551616 := by
    have h1 : 2 ^ n * (r + 1) ≤ 2 ^ n * 2 ^ (64 - n) := Nat.mul_le_mul_left _ hr
    rw [hB, Nat.mul_add, Nat.mul_one] at h1
    omega
  have e1 : X * 2 ^ n % 18446744073709551616 = 2 ^ n * r := by rw [hm]; omega
  refine ⟨?_, ?_, hq, by omega, by omega⟩
  · rw [e1, ← Nat.two_pow_add_eq_or_of_lt hC, hm]; omega
  · rw [hm]; omega
theorem left_eq (x c m : Int) (hx : isW x) (hm0 : 0 ≤ m) (hm1 : m ≤ 63) (hc0 : 0 ≤ c) (hc1 : c < 2 ^ m.toNat) :
    bits .or .u64 (IntKind.u64.wrap (x * 2 ^ min m.toNat 64)) c = (moreS x (2 ^ m.toNat) c 0).1 ∧ x / 2 ^ min (64 - m).toNat 64 = (moreS x (2 ^ m.toNat) c 0).2 ∧ 0 ≤ (moreS x (2 ^ m.toNat) c 0).2 ∧ (moreS x (2 ^ m.toNat) c 0).2 < 2 ^ m.toNat := by
  obtain ⟨n, rfl⟩ := Int.eq_ofNat_of_zero_le hm0
  obtain ⟨X, rfl⟩ := Int.eq_ofNat_of_zero_le hx.1
  obtain ⟨C, rfl⟩ := Int.eq_ofNat_of_zero_le hc0
  have hX := hx.2
  rw [W64_eq] at hX
  have hC : C < 2 ^ n := by
    have h1 : ((C : Nat) : Int) < ((2 ^ n : Nat) : Int) := by simpa using hc1
    omega
  obtain ⟨h1, h2, h3, h4, h5⟩ := shift_nat X C n (by omega) (by omega) hC
  have e1 : min ((n : Int).toNat) 64 = n := by simp; omega
  have e2 : min ((64 - (n : Int)).toNat) 64 = 64 - n := by omega
  have e3 : (n : Int).toNat = n := rfl
  rw [e1, e2, e3]
  have ep : (2 : Int) ^ n = ((2 ^ n : Nat) : Int) := by simp
  have ep2 : (2 : Int) ^ (64 - n) = ((2 ^ (64 - n) : Nat) : Int) := by simp
  have ew : IntKind.u64.wrap ((X : Int) * 2 ^ n) = ((X * 2 ^ n % 18446744073709551616 : Nat) : Int) := by
    rw [ep, ← Int.natCast_mul]
    rfl
  rw [ew, bits_or_u64_nat _ _ h4 h5, h1, ep2, ep]
  unfold moreS
  simp only [W64_eq, Int.add_zero]
  refine ⟨?_, ?_, ?_, ?_⟩
  · rw [← Int.natCast_mul]; rfl
  · rw [← Int.natCast_mul]
    have : ((X / 2 ^ (64 - n) : Nat) : Int) = (((X * 2 ^ n + C) / 18446744073709551616 : Nat) : Int) := by rw [h2]
    exact this
  · rw [← Int.natCast_mul]; omega
  · rw [← Int.natCast_mul]
    have : (((X * 2 ^ n + C) / 18446744073709551616 : Nat) : Int) < ((2 ^ n : Nat) : Int) := by rw [← h2]; exact Int.ofNat_lt.2 h3
    exact this
end Go.Proofs.Ytkkkbalefnileaa.Ex
/- nat.Square. -/
namespace Go.Proofs.Ytkkkbalefnileaa.Ex
open Go.RowKit Go.Shelf Go.Proofs.YtkkkbalefnileaaW.PrintWords Go.Proofs.YtkkkbalefnileaaW.PrintLast Go.Proofs.YtkkkbalefnileaaW.PrintMore
set_option linter.unusedVariables false
set_option linter.unusedSimpArgs false

theorem wide1 (x y : Int) (hx : isW x) (hy : isW y) (w : World) :
    Calls Try.prog 64 #[.int .u64 x, .int .u64 y] w fun e w' => e = .returned (.tuple #[.int .u64 (x * y / W64), .int .u64 (x * y % W64)]) ∧ w = w' := by
  have HM := Aside0.mk (mul64 x y hx hy)
  clear hx hy
  go_enter Try.func64, Try.ntmps64
  go_wp2_with (go_at_call 90; refine (HM.out _).mono ?_; rintro e w' ⟨rfl, rfl⟩)
  go_ret2
  exact ⟨rfl, rfl⟩
def nat_Square.f (l0 : List Int) : Option (List Int × Int) :=
  if inW l0 then
    if l0.length ≤ 4096 then some (fitV (valB W64 l0 * valB W64 l0)) else some ([], 2)
  else none
/-- A square that is told to be too long is so. -/
theorem sq_long {X : List Int} (h : canL X) (h1 : 0 < lenL X) (h2 : 262144 < lenL X + lenL X - 1) : 4096 < (can (valB W64 X * valB W64 X)).length := by
  have hn : X ≠ [] := by rintro rfl; simp [lenL] at h1
  obtain ⟨q1, q2, q3, q4, q5⟩ := lenL_bounds h hn
  have h3 := pow_early (k := 2) q1 q4 (by omega)
  rw [show valB W64 X ^ 2 = valB W64 X * valB W64 X by rw [Int.pow_succ, Int.pow_succ, Int.pow_zero, Int.one_mul]] at h3
  exact can_high (Int.mul_nonneg (valW_nonneg (canL_in h)) (valW_nonneg (canL_in h))) h3
/-- A row that is doubled up to some place. -/
def DblI (z z' : List Int) (n k : Nat) (cc : Int) : Prop := inW z' ∧ z'.length = n ∧ z'.drop k = z.drop k ∧ valB W64 (z'.take k) + W64 ^ k * cc = 2 * valB W64 (z.take k)
theorem dbl_start {z : List Int} {n : Nat} (h1 : inW z) (h2 : z.length = n) : DblI z z n 0 0 := ⟨h1, h2, rfl, by simp [valB]⟩
theorem take_set_step {l : List Int} {k : Nat} (h : k < l.length) (x : Int) : (l.set k x).take (k + 1) = l.take k ++ [x] := by
  rw [List.take_succ_eq_append_getElem (by simpa using h), List.take_set, List.set_eq_of_length_le (by simp; omega)]
  simp
theorem dbl_step {z z' : List Int} {n k : Nat} {cc : Int} (h : DblI z z' n k cc) (hk : k < n) (h0 : 0 ≤ cc) (h1 : cc ≤ 1) :
    ∃ s c, bits BinOp.or IntKind.u64 (IntKind.u64.wrap (z'.getD k 0 * 2)) cc = s ∧ z'.getD k 0 / 9223372036854775808 = c ∧ 0 ≤ c ∧ c ≤ 1 ∧ DblI z (z'.set k s) n (k + 1) c := by
  obtain ⟨d1, d2, d3, d4⟩ := h
  have hx := isW_get d1 k
  obtain ⟨e1, e2, e3, e4⟩ := left_eq (z'.getD k 0) cc 1 hx (by decide) (by decide) h0 (by have : (2 : Int) ^ (1 : Int).toNat = 2 := by decide
                                                                                          omega)
  rw [show (2 : Int) ^ min (1 : Int).toNat 64 = 2 by decide] at e1
  rw [show (2 : Int) ^ min ((64 : Int) - 1).toNat 64 = 9223372036854775808 by decide] at e2
  obtain ⟨_, m2, m3⟩ := moreS_ok (a := z'.getD k 0) (b := 2 ^ (1 : Int).toNat) (c := cc) (d := 0) hx (by decide) ⟨h0, Int.lt_of_le_of_lt h1 (by decide)⟩ ⟨Int.le_refl 0, W64_pos⟩
  have hz : z.getD k 0 = z'.getD k 0 := by
    have hz1 : (z'.drop k).getD 0 0 = (z.drop k).getD 0 0 := by rw [d3]
    simpa [List.getD_eq_getElem?_getD] using hz1.symm
  have two : (2 : Int) ^ (1 : Int).toNat = 2 := by decide
  rw [two] at e1 e2 e3 e4 m2 m3
  refine ⟨_, _, e1, e2, e3, by omega, inB_set d1 _ m2, by simp [d2], ?_, ?_⟩
  · have h2 : z'.drop (k + 1) = z.drop (k + 1) := by
      have h3 := congrArg (List.drop 1) d3
      simpa [List.drop_drop, Nat.add_comm] using h3
    rw [← h2]
    simp [List.drop_set]
  · rw [take_set_step (by omega), valB_append, List.length_take, Nat.min_eq_left (by omega), take_step' z k, Int.mul_add, ← d4, hz, Int.pow_succ]
    simp only [valB, Int.mul_zero, Int.add_zero]
    rw [Int.add_zero] at m3
    generalize (moreS (z'.getD k 0) 2 cc 0).1 = s at *
    generalize (moreS (z'.getD k 0) 2 cc 0).2 = c at *
    generalize z'.getD k 0 = y at *
    generalize W64 ^ k = P at *
    generalize valB W64 (z'.take k) = V at *
    have e9 : P * W64 * c = P * (W64 * c) := Int.mul_assoc _ _ _
    have e10 : W64 * c = y * 2 + cc - s := by omega
    rw [e9, e10]
    simp only [Int.mul_add, Int.mul_sub]
    have e11 : P * (y * 2) = 2 * (P * y) := by grind
    omega
/-- A row of n words with a value. -/
def SqI (z : List Int) (n : Nat) (T : Int) : Prop := inW z ∧ z.length = n ∧ valB W64 z = T
theorem dbl_end {X z z' : List Int} {cc : Int} (hX : inW X) (hz : SqI z (2 * X.length + 1) (crV X X.length)) (h : DblI z z' (2 * X.length + 1) (2 * X.length + 1) cc) (h0 : 0 ≤ cc) : SqI z' (2 * X.length + 1) (2 * crV X X.length + sqV X 0) := by
  obtain ⟨d1, d2, d3, d4⟩ := h
  obtain ⟨z1, z2, z3⟩ := hz
  rw [List.take_of_length_le (by omega), List.take_of_length_le (by omega), z3] at d4
  have h1 := cr_lt hX X.length
  have h2 := pow_mono (B := W64) (by decide) (show 2 * X.length ≤ 2 * X.length + 1 by omega)
  have h3 := valB_nonneg W64_pos d1
  have hc : cc = 0 := by
    by_cases hc : cc ≤ 0
    · omega
    · have h4 : W64 ^ (2 * X.length + 1) * 1 ≤ W64 ^ (2 * X.length + 1) * cc := Int.mul_le_mul_of_nonneg_left (by omega) (Int.le_of_lt (pow_posB W64_pos _))
      rw [Int.mul_one] at h4
      omega
  rw [hc, Int.mul_zero, Int.add_zero] at d4
  exact ⟨d1, d2, by rw [d4]; show _ = _ + (0 : Int); omega⟩
theorem put_sq (g bx : Nat) (X : List Int) (k m : Nat) (z : List Int) (V : World) (hX : inW X) (h4 : X.length ≤ 4096) (hk : k < X.length) (hm : m < X.length) (hz : SqI z (2 * X.length + 1) (crP X k m)) (hr : RowB V g z) (hb : Boxed V bx 23 (.slice (some ⟨g, 0, none⟩) (2 * X.length + 1) (2 * X.length + 1))) (hne : bx ≠ g) :
    Calls Try.prog 62 #[.int .i64 ((k : Int) + (m : Int)), .int .u64 (X.getD k 0 * X.getD m 0 / W64), .int .u64 (X.getD k 0 * X.getD m 0 % W64), .pointer (some ⟨bx, 0, none⟩)] V (PutPost g bx (2 * X.length + 1) (crP X k (m + 1)) V) := by
  obtain ⟨hz1, hz2, hz3⟩ := hz
  have hxk := isW_get hX k
  have hxm := isW_get hX m
  obtain ⟨h1, h2, h3, h4', h5⟩ := mulHi (X.getD k 0) (X.getD m 0) hxk hxm
  have e : valB W64 z + W64 ^ (k + m) * (X.getD k 0 * X.getD m 0 % W64 + W64 * (X.getD k 0 * X.getD m 0 / W64)) = crP X k (m + 1) := by
    rw [show X.getD k 0 * X.getD m 0 % W64 + W64 * (X.getD k 0 * X.getD m 0 / W64) = X.getD k 0 * X.getD m 0 by omega, hz3, crP_step]
  have hb1 := crP_lt hX k (m + 1)
  have hb2 := pow_mono (B := W64) (by decide) (show 2 * X.length ≤ 2 * X.length + 1 by omega)
  have h := put1 g bx (2 * X.length + 1) (k + m) (X.getD k 0 * X.getD m 0 / W64) (X.getD k 0 * X.getD m 0 % W64) z V (by omega) hz1 hz2 (by omega) h1 h2 hr hb hne (by rw [e]; omega)
  rw [e, Int.natCast_add] at h
  exact h
theorem put_sq2 (g bx : Nat) (X : List Int) (k : Nat) (z : List Int) (V : World) (hX : inW X) (h4 : X.length ≤ 4096) (hk : k < X.length) (hz : SqI z (2 * X.length + 1) (2 * crV X X.length + sqV X k)) (hr : RowB V g z) (hb : Boxed V bx 23 (.slice (some ⟨g, 0, none⟩) (2 * X.length + 1) (2 * X.length + 1))) (hne : bx ≠ g) :
    Calls Try.prog 62 #[.int .i64 (2 * (k : Int)), .int .u64 (X.getD k 0 * X.getD k 0 / W64), .int .u64 (X.getD k 0 * X.getD k 0 % W64), .pointer (some ⟨bx, 0, none⟩)] V (PutPost g bx (2 * X.length + 1) (2 * crV X X.length + sqV X (k + 1)) V) := by
  obtain ⟨hz1, hz2, hz3⟩ := hz
  have hxk := isW_get hX k
  obtain ⟨h1, h2, h3, h4', h5⟩ := mulHi (X.getD k 0) (X.getD k 0) hxk hxk
  have e : valB W64 z + W64 ^ (2 * k) * (X.getD k 0 * X.getD k 0 % W64 + W64 * (X.getD k 0 * X.getD k 0 / W64)) = 2 * crV X X.length + sqV X (k + 1) := by
    rw [show X.getD k 0 * X.getD k 0 % W64 + W64 * (X.getD k 0 * X.getD k 0 / W64) = X.getD k 0 * X.getD k 0 by omega, hz3]
    show _ = 2 * crV X X.length + (sqV X k + W64 ^ (2 * k) * (X.getD k 0 * X.getD k 0))
    omega
  have hb1 := sq_lt hX
  have hb3 : 2 * crV X X.length + sqV X (k + 1) ≤ valB W64 X * valB W64 X := by rcases cr_sq_lt hX (k + 1) with h | h; exact h; omega
  have hb2 := pow_mono (B := W64) (by decide) (show 2 * X.length ≤ 2 * X.length + 1 by omega)
  have h := put1 g bx (2 * X.length + 1) (2 * k) (X.getD k 0 * X.getD k 0 / W64) (X.getD k 0 * X.getD k 0 % W64) z V (by omega) hz1 hz2 (by omega) h1 h2 hr hb hne (by rw [e]; omega)
  rw [e, Int.natCast_mul] at h
  exact h
set_option maxRecDepth 100000 in
set_option maxHeartbeats 4000000 in
theorem nat_Square.calls (A0 : Option Addr) (c0 : Nat) (l0 : List Int) (r1 : List Int) (r2 : Int) (w : World) (hr0 : Kd.C (Kd.int .u64) w A0 l0.length l0) (hc0 : l0.length ≤ c0) (h : nat_Square.f l0 = some (r1, r2)) :
  Calls Try.prog 22 #[.slice A0 l0.length c0] w fun e w' => ∃ v0_ : Value, e = .returned (.tuple #[v0_, .int .i64 r2]) ∧ Kd.R (Kd.int .u64) 33 w' w.heap.size (fun _ => True) v0_ r1 ∧ Below w.heap.size w w' := by
 unfold nat_Square.f at h
 by_cases hw : inW l0
 ·rw [if_pos hw] at h
  by_cases h4 : l0.length ≤ 4096
  ·rw [if_pos h4] at h
   have HL := Aside0.mk (large_one A0 c0 l0 w false hr0 hc0 (decide_eq_false (by omega)))
   have hv0 := valW_nonneg hw
   have cX := can_canL hv0
   have vx := can_val hv0
   have lx := can_le hw
   have hC0 := hr0
   have HLen := Aside0.mk (show nat_Len.f l0 = some (lenL (can (valB W64 l0))) by unfold nat_Len.f; rw [if_pos ⟨hw, by omega⟩])
   have HT0 := Aside0.mk (fun w' (hb : Below w.heap.size w w') => trim1 A0 c0 l0 w' hw (Kd.C_below hr0 hb) hc0)
   have C0 := C_take hr0 _ (can_le hw)
   rw [can_take hw] at C0
   have HR0 := Aside0.mk hr0
   obtain ⟨X, hX⟩ : ∃ X, X = can (valB W64 l0) := ⟨_, rfl⟩
   rw [← hX] at cX vx lx HT0 C0 HLen
   rw [← vx] at h
   have HC0 := Aside0.mk C0
   have hXc : X.length ≤ c0 := by omega
   have hX4 : X.length ≤ 4096 := by omega
   obtain ⟨L, hL⟩ : ∃ L, L = lenL X := ⟨_, rfl⟩
   rw [← hL] at HLen
   have hL0 : 0 ≤ L ∧ L ≤ 262144 := by
    by_cases hn : X = []
    ·rw [hL, hn]; unfold lenL; simp
    ·obtain ⟨q1, q2, q3, q4, q5⟩ := lenL_bounds cX hn
     rw [hL]
     exact ⟨by omega, by omega⟩
   obtain ⟨hL1, hL2⟩ := hL0
   clear C0 hr0 hX vx hC0
   by_cases hearly : 0 < L ∧ 0 < L ∧ 262144 < L + L - 1
   ·unfold fitV at h
    rw [if_neg (by have := sq_long cX (by omega) (by omega); omega)] at h
    cases h
    have HTL := Aside0.mk (show nat_tooLong.f L L = some true by unfold nat_tooLong.f; rw [if_pos ⟨by omega, by omega, by omega, by omega⟩, decide_eq_true hearly])
    clear hearly hL
    go_enter Try.func22, Try.ntmps22
    go_wp2_with fail
    refine HL.out.mono ?_
    rintro e w1 ⟨rfl, hb1⟩
    have HB1 := Aside0.mk hb1
    clear hb1
    go_wp2_with fail
    refine (nat_Len.calls A0 c0 l0 _ _ (Kd.C_below HR0.out HB1.out) hc0 HLen.out).mono ?_
    rintro e w2 ⟨rfl, hd⟩
    have HB2 := Aside0.mk (below_step HB1.out hd.below)
    clear hd HB1
    go_wp2_with fail
    refine (nat_Len.calls A0 c0 l0 _ _ (Kd.C_below HR0.out HB2.out) hc0 HLen.out).mono ?_
    rintro e w3 ⟨rfl, hd⟩
    have HB3 := Aside0.mk (below_step HB2.out hd.below)
    clear hd HB2
    go_wp2_with fail
    refine (nat_tooLong.calls L L _ _ HTL.out).mono ?_
    rintro e w4 ⟨rfl, hd⟩
    have HB4 := Aside0.mk (below_step HB3.out hd.below)
    clear hd HB3
    go_wp2
    go_ret2
    exact ⟨_, rfl, Kd.R_nil _ _ _ _ _, HB4.out⟩
   ·have HTL := Aside0.mk (show nat_tooLong.f L L = some false by unfold nat_tooLong.f; rw [if_pos ⟨by omega, by omega, by omega, by omega⟩, decide_eq_false hearly])
    have HH := Aside0.mk h
    have HX := Aside0.mk (canL_in cX)
    have hmk := print_make2 (2 * X.length + 1) (2 * X.length + 1) (Nat.le_refl _) (by omega)
    simp only [Int.natCast_add, Int.natCast_mul, Int.natCast_one, Int.cast_ofNat_Int] at hmk
    clear hearly hL h cX
    go_enter Try.func22, Try.ntmps22
    go_wp2_with fail
    refine HL.out.mono ?_
    rintro e w1 ⟨rfl, hb1⟩
    have HB1 := Aside0.mk hb1
    clear hb1
    go_wp2_with fail
    refine (nat_Len.calls A0 c0 l0 _ _ (Kd.C_below HR0.out HB1.out) hc0 HLen.out).mono ?_
    rintro e w2 ⟨rfl, hd⟩
    have HB2 := Aside0.mk (below_step HB1.out hd.below)
    clear hd HB1
    go_wp2_with fail
    refine (nat_Len.calls A0 c0 l0 _ _ (Kd.C_below HR0.out HB2.out) hc0 HLen.out).mono ?_
    rintro e w3 ⟨rfl, hd⟩
    have HB3 := Aside0.mk (below_step HB2.out hd.below)
    clear hd HB2
    go_wp2_with fail
    refine (nat_tooLong.calls L L _ _ HTL.out).mono ?_
    rintro e w4 ⟨rfl, hd⟩
    have HB4 := Aside0.mk (below_step HB3.out hd.below)
    clear hd HB3
    go_wp2_with fail
    refine (HT0.out _ HB4.out).mono ?_
    rintro e w5 ⟨rfl, rfl⟩
    go_wp2
    have r0 : RowB ((w4.alloc (.cells (madeCells #[.int .u64 0] (2 * X.length + 1)) 33)).alloc (.cells #[.slice (some ⟨w4.heap.size, 0, none⟩) (2 * X.length + 1) (2 * X.length + 1)] 23)) w4.heap.size (List.replicate (2 * X.length + 1) 0) := (RowB.made w4 (2 * X.length + 1)).alloc _
    have b0 := Boxed.new (w4.alloc (.cells (madeCells #[.int .u64 0] (2 * X.length + 1)) 33)) 23 (.slice (some ⟨w4.heap.size, 0, none⟩) (2 * X.length + 1) (2 * X.length + 1))
    rw [World.size_alloc] at b0
    have HBW := Aside0.mk (below_alloc (below_alloc HB4.out (.cells (madeCells #[.int .u64 0] (2 * X.length + 1)) 33)) (.cells #[.slice (some ⟨w4.heap.size, 0, none⟩) (2 * X.length + 1) (2 * X.length + 1)] 23))
    have hgs := below_size HB4.out
    obtain ⟨g, hg⟩ : ∃ g, g = w4.heap.size := ⟨_, rfl⟩
    rw [← hg] at r0 b0 HBW hgs ⊢
    have HG := Aside0.mk hg
    clear hg hmk HB4
    generalize ((w4.alloc (.cells (madeCells #[.int .u64 0] (2 * X.length + 1)) 33)).alloc (.cells #[.slice (some ⟨g, 0, none⟩) (2 * X.length + 1) (2 * X.length + 1)] 23)) = W at *
    go_loopw [37] (fun i wr => ∃ (k : Nat) (z : List Int), k ≤ X.length ∧ i = .int .i64 (k : Int) ∧ Aside0 (SqI z (2 * X.length + 1) (crV X k)) ∧ RowB wr g z ∧ Boxed wr (g + 1) 23 (.slice (some ⟨g, 0, none⟩) (2 * X.length + 1) (2 * X.length + 1)) ∧ Aside0 (Below w.heap.size w wr)) (fun i _ => X.length - (intOf i).toNat)
    case atStart => exact ⟨0, _, Nat.zero_le _, rfl, ⟨inB_zeros W64_pos _, by simp, by rw [valB_zeros]; rfl⟩, r0, b0, HBW⟩
    case round =>
     clear r0 b0 HBW
     obtain ⟨k, z, hk, rfl, HZ, r0, b0, HB⟩ := hrel
     obtain ⟨wo, rfl⟩ : ∃ wo : World, wo = wr := ⟨_, rfl⟩
     by_cases hlt : k < X.length
     ·have hlti : (k : Int) < (X.length : Int) := by omega
      go_wp2
      go_loopw [7] (fun i wr => ∃ (m : Nat) (z : List Int), k + 1 ≤ m ∧ m ≤ X.length ∧ i = .int .i64 (m : Int) ∧ Aside0 (SqI z (2 * X.length + 1) (crP X k m)) ∧ RowB wr g z ∧ Boxed wr (g + 1) 23 (.slice (some ⟨g, 0, none⟩) (2 * X.length + 1) (2 * X.length + 1)) ∧ Aside0 (Below w.heap.size w wr)) (fun i _ => X.length - (intOf i).toNat)
      case atStart => exact ⟨k + 1, z, Nat.le_refl _, by omega, by go_num, ⟨by rw [crP_start]; exact HZ.out⟩, r0, b0, HB⟩
      case round =>
       clear r0 b0 HB HZ
       obtain ⟨m, z', hm1, hm2, rfl, HZ, r0, b0, HB⟩ := hrel
       by_cases hmt : m < X.length
       ·have hmti : (m : Int) < (X.length : Int) := by omega
        have hmb : decide (m < X.length) = true := decide_eq_true hmt
        have hC := Kd.C_below HC0.out HB.out
        obtain ⟨ad, rfl, hx0⟩ := Kd.at_int hC (k : Int) (by omega) (by omega)
        obtain ⟨ad', had', hx1⟩ := Kd.at_int hC (m : Int) (by omega) (by omega)
        cases had'
        rw [show rd X (k : Int) = X.getD k 0 by simp [rd]] at hx0
        rw [show rd X (m : Int) = X.getD m 0 by simp [rd]] at hx1
        have hxk := isW_get HX.out k
        have hxm := isW_get HX.out m
        have HPut := Aside0.mk (fun (V : World) (hr : RowB V g z') (hb : Boxed V (g + 1) 23 (.slice (some ⟨g, 0, none⟩) (2 * X.length + 1) (2 * X.length + 1))) => put_sq g (g + 1) X k m z' V HX.out (by omega) hlt hmt HZ.out hr hb (by omega))
        have hwide := wide1 (X.getD k 0) (X.getD m 0) hxk hxm
        obtain ⟨x, hx⟩ : ∃ x, x = X.getD k 0 := ⟨_, rfl⟩
        obtain ⟨y, hy⟩ : ∃ y, y = X.getD m 0 := ⟨_, rfl⟩
        rw [← hx] at hx0 hwide HPut
        rw [← hy] at hx1 hwide HPut
        obtain ⟨hi, hhi⟩ : ∃ hi, hi = x * y / W64 := ⟨_, rfl⟩
        obtain ⟨lo, hlo⟩ : ∃ lo, lo = x * y % W64 := ⟨_, rfl⟩
        rw [← hhi, ← hlo] at hwide HPut
        have HWide := Aside0.mk hwide
        have i0 : (0 : Int) ≤ (k : Int) := by omega
        have i1 : (0 : Int) ≤ (m : Int) := by omega
        have t0 : ((k : Nat) : Int).toNat = k := rfl
        have t1 : ((m : Nat) : Int).toNat = m := rfl
        rw [t0] at hx0
        rw [t1] at hx1
        have HR := Aside0.mk r0
        have HBx := Aside0.mk b0
        clear hx hy hhi hlo hxk hxm hwide hC r0 b0 HZ
        go_wp2
        go_quiet ((go_at_call 64; exact Calls.quiet_of_same ((HWide.out _).mono (fun e w' h => ⟨h.1, h.2.symm⟩))))
        go_wp2_with fail
        refine (HPut.out (wr.drewN nq) HR.out HBx.out).mono ?_
        rintro e w9 ⟨⟨v9, rfl⟩, z9, r9, q1, q2, q3, q4, q5⟩
        have b9 : Boxed w9 (g + 1) 23 (.slice (some ⟨g, 0, none⟩) (2 * X.length + 1) (2 * X.length + 1)) := q5.trans HBx.out
        have HB9 := Aside0.mk (below_weaken (pw_below_drewN HB.out _) hgs q4)
        have HZ9 := Aside0.mk (show SqI z9 (2 * X.length + 1) (crP X k (m + 1)) from ⟨q1, q2, q3⟩)
        clear q1 q2 q3 q4 q5 HR HBx HB HPut
        go_wp2
        go_roundw
        case rel => exact ⟨m + 1, z9, by omega, by omega, by go_num, HZ9, r9, b9, HB9⟩
        case measure => simp [intOf]; omega
       ·obtain rfl : m = X.length := by omega
        have hmb : decide (X.length < X.length) = false := decide_eq_false (by omega)
        go_wp2
        go_roundw
        case rel => exact ⟨k + 1, z', by omega, by go_num, ⟨by rw [← crP_end]; exact HZ.out⟩, r0, b0, HB⟩
        case measure => simp [intOf]; omega
     ·obtain rfl : k = X.length := by omega
      have gz := b0.cell
      go_wp2
      clear gz
      go_loopw [10, 70] (fun c i wr => ∃ (k : Nat) (z' : List Int) (cc : Int), k ≤ 2 * X.length + 1 ∧ i = .int .i64 (k : Int) ∧ c = .int .u64 cc ∧ 0 ≤ cc ∧ cc ≤ 1 ∧ Aside0 (DblI z z' (2 * X.length + 1) k cc) ∧ RowB wr g z' ∧ Boxed wr (g + 1) 23 (.slice (some ⟨g, 0, none⟩) (2 * X.length + 1) (2 * X.length + 1)) ∧ Aside0 (Below w.heap.size w wr)) (fun _ i _ => 2 * X.length + 1 - (intOf i).toNat)
      case atStart => exact ⟨0, z, 0, Nat.zero_le _, rfl, rfl, Int.le_refl 0, by decide, ⟨dbl_start HZ.out.1 HZ.out.2.1⟩, r0, b0, HB⟩
      case round =>
       clear r0 b0 HB
       obtain ⟨k, z', cc, hk', rfl, rfl, hc0', hc1', HD, r0, b0, HB⟩ := hrel
       by_cases hlk : k < 2 * X.length + 1
       ·have hlki : (k : Int) < 2 * (X.length : Int) + 1 := by omega
        have hlkb : decide ((k : Int) < 2 * (X.length : Int) + 1) = true := decide_eq_true hlki
        have gz := b0.cell
        have x1 := r0.cell k (by rw [HD.out.2.1]; exact hlk)
        have f1 := r0.frozen k
        have i0 : (0 : Int) ≤ (k : Int) := by omega
        have t0 : ((k : Nat) : Int).toNat = k := rfl
        obtain ⟨s, c, hor, hsh, hc2, hc3, hD2⟩ := dbl_step HD.out hlk hc0' hc1'
        have HD2 := Aside0.mk hD2
        obtain ⟨y, hy⟩ : ∃ y, y = z'.getD k 0 := ⟨_, rfl⟩
        rw [← hy] at x1 hor hsh
        have r2 : RowB (wr.setCell ⟨g, k, none⟩ (.int .u64 s)) g (z'.set k s) := RowB.set r0 k s
        have b2 : Boxed (wr.setCell ⟨g, k, none⟩ (.int .u64 s)) (g + 1) 23 (.slice (some ⟨g, 0, none⟩) (2 * X.length + 1) (2 * X.length + 1)) := Boxed.far b0 (p := ⟨g, k, none⟩) (by show g + 1 ≠ g; omega) _
        have HR2 := Aside0.mk r2
        have HBx2 := Aside0.mk b2
        have HB2 := Aside0.mk (HB.out.setCell (p := ⟨g, k, none⟩) hgs (.int .u64 s))
        clear hy hD2 r2 b2 r0 b0
        go_wp2
        refine ⟨⟨k + 1, z'.set k s, c, by omega, by go_num, rfl, hc2, hc3, HD2, HR2.out, HBx2.out, HB2⟩, ?_⟩
        simp [intOf]; omega
       ·obtain rfl : k = 2 * X.length + 1 := by omega
        have hlkb : decide (((2 * X.length + 1 : Nat) : Int) < 2 * (X.length : Int) + 1) = false := decide_eq_false (by omega)
        have HZ2 := Aside0.mk (dbl_end HX.out HZ.out HD.out hc0')
        clear HD HZ
        go_wp2
        go_loopw [87] (fun i wr => ∃ (k : Nat) (z : List Int), k ≤ X.length ∧ i = .int .i64 (k : Int) ∧ Aside0 (SqI z (2 * X.length + 1) (2 * crV X X.length + sqV X k)) ∧ RowB wr g z ∧ Boxed wr (g + 1) 23 (.slice (some ⟨g, 0, none⟩) (2 * X.length + 1) (2 * X.length + 1)) ∧ Aside0 (Below w.heap.size w wr)) (fun i _ => X.length - (intOf i).toNat)
        case atStart => exact ⟨0, z', Nat.zero_le _, rfl, HZ2, r0, b0, HB⟩
        case round =>
         clear r0 b0 HB HZ2
         obtain ⟨k, z9, hk9, rfl, HZ, r0, b0, HB⟩ := hrel
         by_cases hlt9 : k < X.length
         ·have hlti : (k : Int) < (X.length : Int) := by omega
          have hC := Kd.C_below HC0.out HB.out
          obtain ⟨ad, rfl, hx0⟩ := Kd.at_int hC (k : Int) (by omega) (by omega)
          rw [show rd X (k : Int) = X.getD k 0 by simp [rd]] at hx0
          have t0 : ((k : Nat) : Int).toNat = k := rfl
          rw [t0] at hx0
          have hxk := isW_get HX.out k
          have HPut := Aside0.mk (fun (V : World) (hr : RowB V g z9) (hb : Boxed V (g + 1) 23 (.slice (some ⟨g, 0, none⟩) (2 * X.length + 1) (2 * X.length + 1))) => put_sq2 g (g + 1) X k z9 V HX.out (by omega) hlt9 HZ.out hr hb (by omega))
          have hwide := wide1 (X.getD k 0) (X.getD k 0) hxk hxk
          obtain ⟨x, hx⟩ : ∃ x, x = X.getD k 0 := ⟨_, rfl⟩
          rw [← hx] at hx0 hwide HPut
          obtain ⟨hi, hhi⟩ : ∃ hi, hi = x * x / W64 := ⟨_, rfl⟩
          obtain ⟨lo, hlo⟩ : ∃ lo, lo = x * x % W64 := ⟨_, rfl⟩
          rw [← hhi, ← hlo] at hwide HPut
          have HWide := Aside0.mk hwide
          have i0 : (0 : Int) ≤ (k : Int) := by omega
          have HR := Aside0.mk r0
          have HBx := Aside0.mk b0
          clear hx hhi hlo hxk hwide hC r0 b0 HZ
          go_wp2_with (go_at_call 64; refine (HWide.out _).mono ?_; rintro e w' ⟨rfl, rfl⟩)
          refine (HPut.out _ HR.out HBx.out).mono ?_
          rintro e w9 ⟨⟨v9, rfl⟩, z10, r9, q1, q2, q3, q4, q5⟩
          have b9 : Boxed w9 (g + 1) 23 (.slice (some ⟨g, 0, none⟩) (2 * X.length + 1) (2 * X.length + 1)) := q5.trans HBx.out
          have HB9 := Aside0.mk (below_weaken HB.out hgs q4)
          have HZ9 := Aside0.mk (show SqI z10 (2 * X.length + 1) (2 * crV X X.length + sqV X (k + 1)) from ⟨q1, q2, q3⟩)
          clear q1 q2 q3 q4 q5 HR HBx HB HPut
          go_wp2
          go_roundw
          case rel => ((repeat apply Exists.intro); exact ⟨⟨k + 1, z10, by omega, by go_num, HZ9, r9, b9, HB9⟩, rfl⟩)
          case measure => simp [intOf]; omega
         ·obtain rfl : k = X.length := by omega
          have gz := b0.cell
          have hval : valB W64 z9 = valB W64 X * valB W64 X := by
           have h1 := cr_sq X X.length
           rw [tlV_end, Int.mul_zero, Int.sub_zero] at h1
           rw [HZ.out.2.2, h1]
          have hR0 := r0.own' w.heap.size hgs (by rw [HZ.out.2.1]; omega)
          have hF := fit1 (some ⟨g, 0, none⟩) z9.length z9 wr HZ.out.1 (R_C hR0) (Nat.le_refl _)
          have hR1 := R_can hR0 HZ.out.1
          rw [HZ.out.2.1] at hF hR1
          rw [hval] at hF hR1
          have hhh := HH.out
          have HB9 := HB
          clear r0 b0 hval hR0 HZ
          unfold fitV at hhh
          by_cases h9 : (can (valB W64 X * valB W64 X)).length ≤ 4096
          ·rw [if_pos h9] at hF hhh
           cases hhh
           have HF := Aside0.mk hF
           have HR1 := Aside0.mk hR1
           clear hF hR1
           go_wp2_with fail
           refine HF.out.mono ?_
           rintro e w9 ⟨rfl, rfl⟩
           go_wp2
           go_ret2
           exact ⟨_, rfl, HR1.out, HB9.out⟩
          ·rw [if_neg h9] at hF hhh
           cases hhh
           have HF := Aside0.mk hF
           clear hF hR1
           go_wp2_with fail
           refine HF.out.mono ?_
           rintro e w9 ⟨rfl, rfl⟩
           go_wp2
           go_ret2
           exact ⟨_, rfl, Kd.R_nil _ _ _ _ _, HB9.out⟩
  ·rw [if_neg h4] at h
   cases h
   have HL := Aside0.mk (large_one A0 c0 l0 w true hr0 hc0 (decide_eq_true (by omega)))
   clear hr0
   go_enter Try.func22, Try.ntmps22
   go_wp2_with fail
   refine HL.out.mono ?_
   rintro e w1 ⟨rfl, hb1⟩
   have HB1 := Aside0.mk hb1
   clear hb1
   go_wp2
   go_ret2
   exact ⟨_, rfl, Kd.R_nil _ _ _ _ _, HB1.out⟩
 ·rw [if_neg hw] at h; cases h
end Go.Proofs.Ytkkkbalefnileaa.Ex
/- nat.guessed: closures that call a closure. -/
namespace Go.Proofs.Ytkkkbalefnileaa.Ex
open Go.RowKit Go.Shelf Go.Proofs.YtkkkbalefnileaaW.PrintWords Go.Proofs.YtkkkbalefnileaaW.PrintLast Go.Proofs.YtkkkbalefnileaaW.PrintMore
set_option linter.unusedVariables false
set_option linter.unusedSimpArgs false

/-- A word at a place; 0 where there is none. -/
def atL (x : List Int) (i : Int) : Int := if i < 0 then 0 else if (x.length : Int) ≤ i then 0 else x.getD i.toNat 0
theorem atL_w {x : List Int} (h : inW x) (i : Int) : isW (atL x i) := by
  unfold atL
  split
  · exact ⟨Int.le_refl 0, W64_pos⟩
  · split
    · exact ⟨Int.le_refl 0, W64_pos⟩
    · exact isW_get h _
/-- 64 bits from a place on. -/
def topL (x : List Int) (i s : Int) : Int := bits .or .u64 (IntKind.u64.wrap (atL x i * 2 ^ s.toNat)) (atL x (i - 1) / 2 ^ (64 - s).toNat)
theorem topL_w {x : List Int} (h : inW x) (i s : Int) : isW (topL x i s) := by
  unfold topL
  obtain ⟨a0, a1⟩ := atL_w h (i - 1)
  have hw : ∃ a : Nat, IntKind.u64.wrap (atL x i * 2 ^ s.toNat) = (a : Int) ∧ a < 18446744073709551616 := by
    refine ⟨((atL x i * 2 ^ s.toNat) % 18446744073709551616).toNat, ?_, ?_⟩
    · have h1 := Int.emod_nonneg (atL x i * 2 ^ s.toNat) (show (18446744073709551616 : Int) ≠ 0 by decide)
      rw [Int.toNat_of_nonneg h1]; rfl
    · have h1 := Int.emod_nonneg (atL x i * 2 ^ s.toNat) (show (18446744073709551616 : Int) ≠ 0 by decide)
      have h2 := Int.emod_lt_of_pos (atL x i * 2 ^ s.toNat) (show (0 : Int) < 18446744073709551616 by decide)
      omega
  have hb : ∃ b : Nat, atL x (i - 1) / 2 ^ (64 - s).toNat = (b : Int) ∧ b < 18446744073709551616 := by
    have hp : (0 : Int) < 2 ^ (64 - s).toNat := Int.pow_pos (by decide)
    have h1 : 0 ≤ atL x (i - 1) / 2 ^ (64 - s).toNat := Int.ediv_nonneg a0 (Int.le_of_lt hp)
    have h2 : atL x (i - 1) / 2 ^ (64 - s).toNat ≤ atL x (i - 1) := Int.ediv_le_self _ a0
    rw [W64_eq] at a1
    exact ⟨(atL x (i - 1) / 2 ^ (64 - s).toNat).toNat, (Int.toNat_of_nonneg h1).symm, by omega⟩
  obtain ⟨a, ha, ha2⟩ := hw
  obtain ⟨b, hb, hb2⟩ := hb
  rw [ha, hb, bits_or_u64_nat a b ha2 hb2]
  have h3 : a ||| b < 2 ^ 64 := Nat.or_lt_two_pow (by omega) (by omega)
  exact ⟨by omega, by rw [W64_eq]; omega⟩
set_option maxHeartbeats 1000000 in
theorem at1 (A0 : Option Addr) (c0 : Nat) (l0 : List Int) (i : Int) (w : World) (hr0 : Kd.C (Kd.int .u64) w A0 l0.length l0) (hc0 : l0.length ≤ c0) :
    Calls Try.prog 98 #[.slice A0 l0.length c0, .int .i64 i] w fun e w' => e = .returned (.int .u64 (atL l0 i)) ∧ w = w' := by
  unfold atL
  by_cases h0 : i < 0
  · have b0 : decide (i < 0) = true := decide_eq_true h0
    rw [if_pos h0]
    clear hr0
    go_enter Try.func98, Try.ntmps98
    go_wp2
    go_ret
    exact ⟨rfl, rfl⟩
  · have b0 : decide (i < 0) = false := decide_eq_false h0
    rw [if_neg h0]
    by_cases h1 : (l0.length : Int) ≤ i
    · have b1 : decide ((l0.length : Int) ≤ i) = true := decide_eq_true h1
      rw [if_pos h1]
      clear hr0
      go_enter Try.func98, Try.ntmps98
      go_wp2
      go_ret
      exact ⟨rfl, rfl⟩
    · have b1 : decide ((l0.length : Int) ≤ i) = false := decide_eq_false h1
      rw [if_neg h1]
      obtain ⟨ad, rfl, hx0⟩ := Kd.at_int hr0 i (by omega) (by omega)
      have e0 : rd l0 i = l0.getD i.toNat 0 := rfl
      rw [e0] at hx0
      obtain ⟨x, hx⟩ : ∃ x, x = l0.getD i.toNat 0 := ⟨_, rfl⟩
      rw [← hx] at hx0 ⊢
      have i0 : 0 ≤ i := by omega
      have i1 : i < (l0.length : Int) := by omega
      clear hx hr0 e0
      go_enter Try.func98, Try.ntmps98
      go_wp2
      go_ret
      exact ⟨rfl, rfl⟩
set_option maxHeartbeats 2000000 in
theorem top1 (ba bs : Nat) (A0 : Option Addr) (c0 : Nat) (l0 : List Int) (i s : Int) (w : World) (hr0 : Kd.C (Kd.int .u64) w A0 l0.length l0) (hc0 : l0.length ≤ c0) (hi0 : 0 ≤ i) (hi1 : i ≤ 1000000) (hs0 : 0 ≤ s) (hs1 : s ≤ 63)
    (hba : w.cell? ⟨ba, 0, none⟩ = some (.func (.func 98) #[] #[])) (hbs : w.cell? ⟨bs, 0, none⟩ = some (.int .u64 s)) :
    Calls Try.prog 99 #[.slice A0 l0.length c0, .int .i64 i, .pointer (some ⟨ba, 0, none⟩), .pointer (some ⟨bs, 0, none⟩)] w fun e w' => e = .returned (.int .u64 (topL l0 i s)) ∧ Drawn0 w w' := by
  have HR := Aside0.mk hr0
  have HA := Aside0.mk (fun (V : World) (hV : Below w.heap.size w V) (j : Int) => at1 A0 c0 l0 j V (Kd.C_below hr0 hV) hc0)
  have hw1 : IntKind.i64.wrap (i - 1) = i - 1 := IntWalk.i64_in _ (by omega)
  have hw2 : IntKind.u64.wrap (64 - s) = 64 - s := IntWalk.u64_in _ (by omega)
  unfold topL
  obtain ⟨x, hx⟩ : ∃ x, x = atL l0 i := ⟨_, rfl⟩
  obtain ⟨y, hy⟩ : ∃ y, y = atL l0 (i - 1) := ⟨_, rfl⟩
  rw [← hx, ← hy]
  have HX := Aside0.mk hx
  have HY := Aside0.mk hy
  clear hx hy hr0
  go_enter Try.func99, Try.ntmps99
  go_wp2
  go_quiet ((first | (go_at_call 98; exact Calls.quiet_of_same ((HA.out _ (by first | exact Below.refl _ _ | exact pw_below_drewN (Below.refl _ _) _) _).mono (fun e w' h => ⟨h.1, h.2.symm⟩)))))
  go_wp2
  go_ret
  exact ⟨by rw [← HX.out, ← HY.out]; rfl, ⟨nq, rfl⟩⟩
theorem boxes2 (w : World) (x y : Value) (t u : TypeId) : let W := (w.alloc (.cells #[x] t)).alloc (.cells #[y] u); W.cell? ⟨w.heap.size, 0, none⟩ = some x ∧ W.cell? ⟨w.heap.size + 1, 0, none⟩ = some y ∧ Below w.heap.size w W := by
  have h1 : (w.alloc (.cells #[x] t)).cell? ⟨w.heap.size, 0, none⟩ = some x := by unfold World.cell?; rw [heap_alloc_new]; rfl
  have e1 : (w.alloc (.cells #[x] t)).heap.size = w.heap.size + 1 := by simp
  have h2 : ((w.alloc (.cells #[x] t)).alloc (.cells #[y] u)).cell? ⟨w.heap.size + 1, 0, none⟩ = some y := by unfold World.cell?; rw [← e1, heap_alloc_new]; rfl
  exact ⟨pw_cell_below (below_alloc (Below.refl _ _) _) h1, h2, below_alloc (below_alloc (Below.refl _ _) _) _⟩
def nat_guessed.f (l0 l1 : List Int) : Option Int :=
  if inW l0 ∧ inW l1 ∧ 0 < l1.length ∧ l0.length ≤ 10000 ∧ l1.length ≤ 10000 ∧ l1.getD (l1.length - 1) 0 ≠ 0 then
    if topL l1 ((l1.length : Int) - 1) (64 - (Lib.bitLen (l1.getD (l1.length - 1) 0).toNat : Int)) ≤ topL l0 (l1.length : Int) (64 - (Lib.bitLen (l1.getD (l1.length - 1) 0).toNat : Int)) then some 18446744073709551615
    else some ((topL l0 (l1.length : Int) (64 - (Lib.bitLen (l1.getD (l1.length - 1) 0).toNat : Int)) * W64 + topL l0 ((l1.length : Int) - 1) (64 - (Lib.bitLen (l1.getD (l1.length - 1) 0).toNat : Int))) / topL l1 ((l1.length : Int) - 1) (64 - (Lib.bitLen (l1.getD (l1.length - 1) 0).toNat : Int)))
  else none
set_option maxRecDepth 100000 in
set_option maxHeartbeats 2000000 in
theorem nat_guessed.calls (A0 : Option Addr) (c0 : Nat) (l0 : List Int) (A1 : Option Addr) (c1 : Nat) (l1 : List Int) (r : Int) (w : World) (hr0 : Kd.C (Kd.int .u64) w A0 l0.length l0) (hc0 : l0.length ≤ c0) (hr1 : Kd.C (Kd.int .u64) w A1 l1.length l1) (hc1 : l1.length ≤ c1) (h : nat_guessed.f l0 l1 = some r) :
  Calls Try.prog 82 #[.slice A0 l0.length c0, .slice A1 l1.length c1] w fun e w' => e = .returned (.int .u64 r) ∧ Below w.heap.size w w' := by
 unfold nat_guessed.f at h
 by_cases hw : inW l0 ∧ inW l1 ∧ 0 < l1.length ∧ l0.length ≤ 10000 ∧ l1.length ≤ 10000 ∧ l1.getD (l1.length - 1) 0 ≠ 0
 ·rw [if_pos hw] at h
  obtain ⟨hw0, hw1, hp, hm0, hm1, hnz⟩ := hw
  obtain ⟨ad, rfl, hx0⟩ := Kd.at_int hr1 ((l1.length : Int) - 1) (by omega) (by omega)
  have e0 : rd l1 ((l1.length : Int) - 1) = l1.getD (l1.length - 1) 0 := by unfold rd; congr 1; omega
  have e1 : ((l1.length : Int) - 1).toNat = l1.length - 1 := by omega
  rw [e0, e1] at hx0
  have hx := isW_get hw1 (l1.length - 1)
  obtain ⟨x, hxx⟩ : ∃ x, x = l1.getD (l1.length - 1) 0 := ⟨_, rfl⟩
  rw [← hxx] at hx0 hx hnz h
  have i1 : (0 : Int) ≤ (l1.length : Int) - 1 := by omega
  have i2 : (l1.length : Int) - 1 < (l1.length : Int) := by omega
  have hz : bits_LeadingZeros64.f x = some (64 - (Lib.bitLen x.toNat : Int)) := by
   unfold bits_LeadingZeros64.f
   rw [if_pos ⟨hx.1, by have := hx.2; rw [W64_eq] at this; omega⟩]
  have hbl := (bitLen_bounds 64 x.toNat (Nat.le_refl _) (by have := hx.2; rw [W64_eq] at this; omega))
  have hbl1 := (hbl.2.1 (by have := hx.1; omega)).1
  have hbl2 := hbl.2.2
  obtain ⟨s, hs⟩ : ∃ s, s = 64 - (Lib.bitLen x.toNat : Int) := ⟨_, rfl⟩
  rw [← hs] at h hz
  have hs0 : 0 ≤ s := by omega
  have hs1 : s ≤ 63 := by omega
  have HZ := Aside0.mk hz
  have HR0 := Aside0.mk hr0
  have HR1 := Aside0.mk hr1
  have HW0 := Aside0.mk hw0
  have HW1 := Aside0.mk hw1
  have HH := Aside0.mk h
  clear hr0 hr1 hw0 hw1 h hz hbl hs hxx hnz e0 hbl1 hbl2
  go_enter Try.func82, Try.ntmps82
  go_wp2_with (go_at_call 77; refine (bits_LeadingZeros64.calls x _ _ HZ.out).mono ?_; rintro e w' ⟨rfl, hd⟩; have HB := Aside0.mk hd.below; clear hd)
  have n0 : (0 : Int) ≤ (l1.length : Int) := by omega
  have n1 : (l1.length : Int) ≤ 1000000 := by omega
  have n2 : (l1.length : Int) - 1 ≤ 1000000 := by omega
  refine (top1 (w'.heap.size + 1) w'.heap.size A0 c0 l0 _ s _ (Kd.C_below HR0.out (below_alloc (below_alloc HB.out _) _)) hc0 n0 n1 hs0 hs1 (boxes2 _ _ _ _ _).2.1 (boxes2 _ _ _ _ _).1).mono ?_
  rintro e w2 ⟨rfl, hd⟩
  have a2 := pw_cell_below hd.below (boxes2 _ _ _ _ _).2.1
  have s2 := pw_cell_below hd.below (boxes2 _ _ _ _ _).1
  have HB2 := Aside0.mk (below_step (below_step HB.out (boxes2 _ _ _ _ _).2.2) hd.below)
  clear hd HB
  obtain ⟨ba, hba⟩ : ∃ ba, ba = w'.heap.size + 1 := ⟨_, rfl⟩
  obtain ⟨bs, hbs⟩ : ∃ bs, bs = w'.heap.size := ⟨_, rfl⟩
  rw [← hba] at a2 ⊢
  rw [← hbs] at s2 ⊢
  clear hba hbs
  go_wp2_with fail
  refine (top1 ba bs A0 c0 l0 _ s _ (Kd.C_below HR0.out HB2.out) hc0 i1 n2 hs0 hs1 a2 s2).mono ?_
  rintro e w3 ⟨rfl, hd⟩
  have a3 := pw_cell_below hd.below a2
  have s3 := pw_cell_below hd.below s2
  have HB3 := Aside0.mk (below_step HB2.out hd.below)
  clear hd HB2 a2 s2
  go_wp2_with fail
  refine (top1 ba bs (some ad) c1 l1 _ s _ (Kd.C_below HR1.out (below_alloc HB3.out _)) hc1 i1 n2 hs0 hs1 (pw_cell_below (below_alloc (Below.refl _ _) _) a3) (pw_cell_below (below_alloc (Below.refl _ _) _) s3)).mono ?_
  rintro e w4 ⟨rfl, hd⟩
  have q4 := pw_cell_below hd.below (two_cell0 _ _ _ _)
  have r4 := pw_cell_below hd.below (two_cell1 _ _ _ _)
  have HB4 := Aside0.mk (below_step (below_alloc HB3.out _) hd.below)
  clear hd HB3 a3 s3
  have hq := topL_w HW0.out (l1.length : Int) s
  have hr := topL_w HW0.out ((l1.length : Int) - 1) s
  have hd := topL_w HW1.out ((l1.length : Int) - 1) s
  obtain ⟨Q, hQ⟩ : ∃ Q, Q = topL l0 (l1.length : Int) s := ⟨_, rfl⟩
  obtain ⟨R, hR⟩ : ∃ R, R = topL l0 ((l1.length : Int) - 1) s := ⟨_, rfl⟩
  obtain ⟨D, hD⟩ : ∃ D, D = topL l1 ((l1.length : Int) - 1) s := ⟨_, rfl⟩
  rw [← hQ] at hq q4 HH
  rw [← hR] at hr r4 HH
  rw [← hD] at hd HH ⊢
  try rw [← hQ]
  try rw [← hR]
  clear hQ hR hD
  have hh := HH.out
  by_cases hc : D ≤ Q
  ·rw [if_pos hc] at hh
   cases hh
   have hcb : decide (D ≤ Q) = true := decide_eq_true hc
   go_wp2
   go_ret
   exact ⟨rfl, HB4.out⟩
  ·rw [if_neg hc] at hh
   cases hh
   have hcb : decide (D ≤ Q) = false := decide_eq_false hc
   have hdv := bits_Div64.calls Q R D ((Q * W64 + R) / D) ((Q * W64 + R) % D) w4 (by unfold bits_Div64.f; rw [if_pos ⟨⟨hq.1, by omega⟩, hr, hd.2⟩])
   have HDV := Aside0.mk hdv
   obtain ⟨V, hV⟩ : ∃ V, V = (Q * W64 + R) / D := ⟨_, rfl⟩
   rw [← hV] at HDV
   have HV := Aside0.mk hV
   obtain ⟨U, hU⟩ : ∃ U, U = (Q * W64 + R) % D := ⟨_, rfl⟩
   rw [← hU] at HDV
   clear hV hU hdv hq hr hd HH hc
   go_wp2_with fail
   refine HDV.out.mono ?_
   rintro e w5 ⟨rfl, hd⟩
   have HB5 := Aside0.mk (below_step HB4.out hd.below)
   clear hd
   go_wp2
   go_ret
   refine ⟨?_, HB5.out⟩
   rw [← HV.out]
   rfl
 ·rw [if_neg hw] at h; cases h
end Go.Proofs.Ytkkkbalefnileaa.Ex
/- slices.Clone of a number. -/
namespace Go.Proofs.Ytkkkbalefnileaa.Ex
open Go.RowKit Go.Proofs.YtkkkbalefnileaaW.PrintWords Go.Proofs.YtkkkbalefnileaaW.PrintLast Go.Proofs.YtkkkbalefnileaaW.PrintMore
set_option linter.unusedVariables false
set_option linter.unusedSimpArgs false

def api_Nat_uint64.f (l0 : List Int) : Option (List Int) := if l0.length ≤ 17592186044415 then some l0 else none
set_option maxHeartbeats 2000000 in
set_option maxRecDepth 100000 in
theorem api_Nat_uint64.calls (A0 : Option Addr) (c0 : Nat) (l0 : List Int) (r : List Int) (w : World) (hr0 : Kd.C (Kd.int .u64) w A0 l0.length l0) (hc0 : l0.length ≤ c0) (h : api_Nat_uint64.f l0 = some r) :
    Calls Try.prog 54 #[.slice A0 l0.length c0] w fun e w' => ∃ v0_ : Value, e = .returned (v0_) ∧ Kd.R (Kd.int .u64) 33 w' w.heap.size (fun _ => True) v0_ r ∧ Below w.heap.size w w' := by
  unfold api_Nat_uint64.f at h
  by_cases hw : l0.length ≤ 17592186044415
  · rw [if_pos hw] at h
    cases h
    cases A0 with
    | none =>
      have hn : l0 = [] := by
        have h1 := hr0
        cases l0 with
        | nil => rfl
        | cons x l =>
          obtain ⟨ad, ha, _⟩ := Kd.at_int hr0 0 (by omega) (by simp)
          cases ha
      subst hn
      clear hr0
      have q22 : ∀ (w : World) (a : Option Addr) (n c : Nat), (binOp .eql 23 (.slice a n c) (.slice none 0 0)).run Try.prog w = .ok (.bool a.isNone) w := fun w a n c => Lib.run_eql_slice_nil w _ _ a n c 0 0 Try.underlying23
      go_enter Try.func54, Try.ntmps54
      go_wp2
      go_ret
      exact ⟨_, rfl, Kd.R_nil _ _ _ _ _, Below.refl _ _⟩
    | some ad =>
      have HB := Aside0.mk (below_alloc (Below.refl w.heap.size w) (.cells #[] 33))
      have HC := Aside0.mk (Kd.C_below hr0 HB.out)
      have HL := Aside0.mk hw
      have HO := Aside0.mk (show Kd.R (Kd.int .u64) 33 (w.alloc (.cells #[] 33)) w.heap.size (fun _ => True) (.slice (some ⟨w.heap.size, 0, none⟩) 0 0) ([] : List Int) from Kd.R_of_own (enc := Value.int .u64) (h1 := fun _ => rfl) (own_lit w w.heap.size 33 .u64 [] (Nat.le_refl _) (by simp)) (fun _ _ => trivial))
      clear hr0
      have q22 : ∀ (w : World) (a : Option Addr) (n c : Nat), (binOp .eql 23 (.slice a n c) (.slice none 0 0)).run Try.prog w = .ok (.bool a.isNone) w := fun w a n c => Lib.run_eql_slice_nil w _ _ a n c 0 0 Try.underlying23
      go_enter Try.func54, Try.ntmps54
      go_wp2_with ((with_reducible refine gate_builtin (b := .append) (xs := #[.tmp 5, .tmp 6]) rfl ?_); at_builtin; refine halt1 ?_)
      unfold Halt1
      refine Kd.R_append_rows (Kd.int .u64) (w0 := w) w.heap.size rfl (.tmp 5) (.tmp 6) 23 33 (.int .u64 0) 8 rfl Try.underlying23 iW rfl (by decide) (by omega) (.slice (some ⟨w.heap.size, 0, none⟩) 0 0) ([] : List Int) l0 _ _ _ (fun _ => True) (fun _ => False) rfl rfl ?aO ?aR (fun _ _ h => h) (fun _ h => h.elim) ?aF ?aB ?aS ?aL ?_
      case aR => exact HC.out
      case aB => exact HB.out
      case aF => exact (fun _ _ => trivial)
      case aO => exact HO.out
      case aS => exact below_size HB.out
      case aL => have := HL.out; first | (simp at this ⊢; omega) | (simp; omega)
      intro v1 w1 ho hb hg hat
      have HO2 := Aside0.mk ho
      have HB1 := Aside0.mk hb
      clear ho hb hg hat HO HB HC
      go_wp2
      go_ret
      exact ⟨_, rfl, by have := HO2.out; rw [List.nil_append] at this; exact this, HB1.out⟩
  · rw [if_neg hw] at h; cases h
end Go.Proofs.Ytkkkbalefnileaa.Ex
/- Values: a row divided by a word; a guess of a digit. No program here. -/
namespace Go.Proofs.Ytkkkbalefnileaa.Ex
set_option linter.unusedVariables false

/-- A row divided by a word: the quotient's row and the rest. -/
theorem div_val (w : Int) (l : List Int) (hl : inW l) (hw0 : 0 < w) (hw : isW w) : ∀ n c, n ≤ l.length → 0 ≤ c → c < w →
    inW (downL (divS w l) n c).1 ∧ (0 ≤ (downL (divS w l) n c).2 ∧ (downL (divS w l) n c).2 < w) ∧ valB W64 (downL (divS w l) n c).1 * w + (downL (divS w l) n c).2 = valB W64 (l.take n) + W64 ^ n * c
  | 0, c, _, h0, h1 => ⟨inW_nil, ⟨h0, h1⟩, by simp [downL, valB]⟩
  | n + 1, c, hn, h0, h1 => by
    have hx := isW_get hl n
    have hx0 := hx.1
    have hx1 := hx.2
    have hd := Int.emod_add_mul_ediv (c * W64 + l.getD n 0) w
    have hr0 := Int.emod_nonneg (c * W64 + l.getD n 0) (by omega : w ≠ 0)
    have hr1 := Int.emod_lt_of_pos (c * W64 + l.getD n 0) hw0
    have hn0 : 0 ≤ c * W64 + l.getD n 0 := Int.add_nonneg (Int.mul_nonneg h0 (by decide)) hx0
    have hq0 := Int.ediv_nonneg hn0 (by omega : 0 ≤ w)
    have hq1 : (c * W64 + l.getD n 0) / w < W64 := by
      rw [Int.ediv_lt_iff_lt_mul hw0]
      have h2 : (c + 1) * W64 ≤ w * W64 := Int.mul_le_mul_of_nonneg_right (by omega) (by decide)
      rw [Int.add_mul, Int.one_mul] at h2
      rw [Int.mul_comm W64]
      omega
    obtain ⟨k1, k2, k3⟩ := div_val w l hl hw0 hw n ((c * W64 + l.getD n 0) % w) (by omega) hr0 hr1
    have hlen := downL_length (divS w l) n ((c * W64 + l.getD n 0) % w)
    refine ⟨inW_append.2 ⟨k1, inW_cons.2 ⟨⟨hq0, hq1⟩, inW_nil⟩⟩, k2, ?_⟩
    show valB W64 ((downL (divS w l) n ((c * W64 + l.getD n 0) % w)).1 ++ [(c * W64 + l.getD n 0) / w]) * w + (downL (divS w l) n ((c * W64 + l.getD n 0) % w)).2 = _
    rw [valB_append, hlen, valB_take_succ W64 l n (by omega), Int.pow_succ]
    simp only [valB, Int.mul_zero, Int.add_zero]
    generalize (c * W64 + l.getD n 0) / w = q at *
    generalize (c * W64 + l.getD n 0) % w = r at *
    generalize valB W64 (downL (divS w l) n r).1 = V at *
    generalize (downL (divS w l) n r).2 = S at *
    generalize valB W64 (l.take n) = L at *
    generalize l.getD n 0 = x at *
    generalize W64 ^ n = P at *
    clear hl hq0 hq1 hr0 hr1 hn0 k1 k2 hlen hx hx0 hx1 h0 h1 hn hw hw0
    have e : P * (r + w * q) = P * (c * W64 + x) := by rw [hd]
    grind
end Go.Proofs.Ytkkkbalefnileaa.Ex
/- nat.FromWord, DivWord, Add, Mul, Cmp, Trim. -/
namespace Go.Proofs.Ytkkkbalefnileaa.Ex
open Go.RowKit Go.Shelf Go.Proofs.YtkkkbalefnileaaW.PrintWords Go.Proofs.YtkkkbalefnileaaW.PrintLast Go.Proofs.YtkkkbalefnileaaW.PrintMore
set_option linter.unusedVariables false
set_option linter.unusedSimpArgs false

theorem can_word {a : Int} (h : isW a) : can a = if a = 0 then [] else [a] := by
  by_cases h0 : a = 0
  · rw [if_pos h0, h0]; rfl
  · rw [if_neg h0]
    exact (can_eq (l := [a]) ⟨h, trivial, fun _ => h0⟩ (by simp [valB])).symm
def nat_FromWord.f (a0 : Int) : Option (List Int) := if isW a0 then some (can a0) else none
set_option maxHeartbeats 1000000 in
theorem nat_FromWord.calls (a0 : Int) (r : List Int) (w : World)  (h : nat_FromWord.f a0 = some r) :
    Calls Try.prog 52 #[.int .u64 a0] w fun e w' => ∃ v0_ : Value, e = .returned (v0_) ∧ Kd.R (Kd.int .u64) 33 w' w.heap.size (fun _ => True) v0_ r ∧ Below w.heap.size w w' := by
  unfold nat_FromWord.f at h
  by_cases hw : isW a0
  · rw [if_pos hw] at h
    cases h
    rw [can_word hw]
    by_cases h0 : a0 = 0
    · rw [if_pos h0]
      have hb : (a0 == 0) = true := beq_iff_eq.2 h0
      subst h0
      go_enter Try.func52, Try.ntmps52
      go_wp2
      go_ret
      exact ⟨_, rfl, Kd.R_nil _ _ _ _ _, Below.refl _ _⟩
    · rw [if_neg h0]
      have hb : (a0 == 0) = false := beq_eq_false_iff_ne.2 h0
      have HO1 := Aside0.mk (show Kd.R (Kd.int .u64) 33 (w.alloc (.cells #[.int .u64 a0] 33)) w.heap.size (fun _ => True) (.slice (some ⟨w.heap.size, 0, none⟩) 1 1) ([a0] : List Int) from Kd.R_of_own (enc := Value.int .u64) (h1 := fun _ => rfl) (own_lit w w.heap.size 33 .u64 [a0] (Nat.le_refl _) (by simp)) (fun _ _ => trivial))
      go_enter Try.func52, Try.ntmps52
      go_wp2
      go_ret
      exact ⟨_, rfl, HO1.out, below_alloc (Below.refl _ _) _⟩
  · rw [if_neg hw] at h; cases h
def nat_DivWord.f (l0 : List Int) (a1 : Int) : Option (List Int × Int × Int) :=
  if inW l0 ∧ isW a1 then
    if l0.length ≤ 4096 then
      if a1 = 0 then some ([], 0, 5) else some (can (valB W64 l0 / a1), valB W64 l0 % a1, 0)
    else some ([], 0, 2)
  else none
theorem div_word {X : List Int} {a : Int} (hX : inW X) (h4 : X.length ≤ 4096) (ha : isW a) (h0 : a ≠ 0) : ∃ q, words_DivWord.f X a 0 = some (q, valB W64 X % a, 0) ∧ inW q ∧ valB W64 q = valB W64 X / a := by
  have hpos : 0 < a := by have := ha.1; omega
  obtain ⟨d1, d2, d3⟩ := div_val a X hX hpos ha X.length 0 (Nat.le_refl _) (Int.le_refl 0) hpos
  rw [List.take_length, Int.mul_zero, Int.add_zero] at d3
  have hf : words_DivWord.f X a 0 = some ((downL (divS a X) X.length 0).1, (downL (divS a X) X.length 0).2, 0) := by
    unfold words_DivWord.f
    rw [if_pos ⟨hX, ha, ⟨Int.le_refl 0, W64_pos⟩⟩, if_pos h4, if_neg h0, if_neg (by omega)]
  generalize downL (divS a X) X.length 0 = R at *
  have e : R.2 = valB W64 X % a ∧ valB W64 R.1 = valB W64 X / a := by
    have h1 := Int.emod_add_mul_ediv (valB W64 X) a
    have h2 := Int.emod_nonneg (valB W64 X) h0
    have h3 := Int.emod_lt_of_pos (valB W64 X) hpos
    have h4 : R.2 + a * valB W64 R.1 = valB W64 X % a + a * (valB W64 X / a) := by rw [h1, Int.mul_comm a]; omega
    exact div_unique d2.1 d2.2 h2 h3 h4
  rw [e.1] at hf
  exact ⟨R.1, hf, d1, e.2⟩
set_option maxRecDepth 100000 in
set_option maxHeartbeats 2000000 in
theorem nat_DivWord.calls (A0 : Option Addr) (c0 : Nat) (l0 : List Int) (a1 : Int) (r1 : List Int) (r2 : Int) (r3 : Int) (w : World) (hr0 : Kd.C (Kd.int .u64) w A0 l0.length l0) (hc0 : l0.length ≤ c0) (h : nat_DivWord.f l0 a1 = some (r1, r2, r3)) :
  Calls Try.prog 17 #[.slice A0 l0.length c0, .int .u64 a1] w fun e w' => ∃ v0_ : Value, e = .returned (.tuple #[v0_, .int .u64 r2, .int .i64 r3]) ∧ Kd.R (Kd.int .u64) 33 w' w.heap.size (fun _ => True) v0_ r1 ∧ Below w.heap.size w w' := by
 unfold nat_DivWord.f at h
 by_cases hw : inW l0 ∧ isW a1
 ·rw [if_pos hw] at h
  obtain ⟨hw0, hw1⟩ := hw
  by_cases h4 : l0.length ≤ 4096
  ·rw [if_pos h4] at h
   have HL := Aside0.mk (large_one A0 c0 l0 w false hr0 hc0 (decide_eq_false (by omega)))
   by_cases h0 : a1 = 0
   ·rw [if_pos h0] at h
    cases h
    have hb : (a1 == 0) = true := beq_iff_eq.2 h0
    subst h0
    clear hr0
    go_enter Try.func17, Try.ntmps17
    go_wp2_with fail
    refine HL.out.mono ?_
    rintro e w1 ⟨rfl, hb1⟩
    have HB1 := Aside0.mk hb1
    clear hb1
    go_wp2
    go_ret3
    exact ⟨_, rfl, Kd.R_nil _ _ _ _ _, HB1.out⟩
   ·rw [if_neg h0] at h
    cases h
    have hb : (a1 == 0) = false := beq_eq_false_iff_ne.2 h0
    have HT0 := Aside0.mk (fun w' (hb : Below w.heap.size w w') => trim1 A0 c0 l0 w' hw0 (Kd.C_below hr0 hb) hc0)
    have C0 := C_take hr0 _ (can_le hw0)
    rw [can_take hw0] at C0
    have cX := can_in (valW_nonneg hw0)
    have vx := can_val (valW_nonneg hw0)
    have lx := can_le hw0
    obtain ⟨q, hf, hq1, hq2⟩ := div_word cX (by omega) hw1 h0
    rw [vx] at hf hq2
    obtain ⟨X, hX⟩ : ∃ X, X = can (valB W64 l0) := ⟨_, rfl⟩
    rw [← hX] at HT0 C0 lx hf
    have HC0 := Aside0.mk C0
    have HF := Aside0.mk hf
    have HQ1 := Aside0.mk hq1
    have HQ2 := Aside0.mk hq2
    have hXc : X.length ≤ c0 := by omega
    clear C0 hf hq1 hq2 hX vx cX hr0
    obtain ⟨rm, hrm⟩ : ∃ rm, rm = valB W64 l0 % a1 := ⟨_, rfl⟩
    rw [← hrm] at HF ⊢
    clear hrm
    go_enter Try.func17, Try.ntmps17
    go_wp2_with fail
    refine HL.out.mono ?_
    rintro e w1 ⟨rfl, hb1⟩
    have HB1 := Aside0.mk hb1
    clear hb1
    go_wp2_with fail
    refine (HT0.out _ HB1.out).mono ?_
    rintro e w2 ⟨rfl, rfl⟩
    go_wp2_with fail
    refine (words_DivWord.calls A0 c0 X a1 0 q rm 0 _ (Kd.C_below HC0.out HB1.out) hXc HF.out).mono ?_
    rintro e w2 ⟨v2, rfl, hR2, hb2⟩
    obtain ⟨A2, c2, rfl⟩ := Kd.R_slice hR2
    have HR2 := Aside0.mk (Kd.R_lower hR2 (below_size HB1.out))
    have HB2 := Aside0.mk (below_step HB1.out hb2)
    clear hR2 hb2 HB1
    go_wp2_with fail
    refine (trim1 A2 c2 q _ HQ1.out (R_C HR2.out) (R_cap HR2.out)).mono ?_
    rintro e w3 ⟨rfl, rfl⟩
    go_wp2
    go_ret3
    refine ⟨_, rfl, ?_, HB2.out⟩
    have h5 := R_can HR2.out HQ1.out
    rw [HQ2.out] at h5
    rw [HQ2.out]
    exact h5
  ·rw [if_neg h4] at h
   cases h
   have HL := Aside0.mk (large_one A0 c0 l0 w true hr0 hc0 (decide_eq_true (by omega)))
   clear hr0
   go_enter Try.func17, Try.ntmps17
   go_wp2_with fail
   refine HL.out.mono ?_
   rintro e w1 ⟨rfl, hb1⟩
   have HB1 := Aside0.mk hb1
   clear hb1
   go_wp2
   go_ret3
   exact ⟨_, rfl, Kd.R_nil _ _ _ _ _, HB1.out⟩
 ·rw [if_neg hw] at h; cases h
end Go.Proofs.Ytkkkbalefnileaa.Ex
/- nat.divide, DivMod. -/
namespace Go.Proofs.Ytkkkbalefnileaa.Ex
open Go.RowKit Go.Shelf Go.Proofs.YtkkkbalefnileaaW.PrintWords Go.Proofs.YtkkkbalefnileaaW.PrintLast Go.Proofs.YtkkkbalefnileaaW.PrintMore
set_option linter.unusedVariables false
set_option linter.unusedSimpArgs false

/-- What has been divided from place j on. -/
def DivI (X : List Int) (y : Int) (z : List Int) (j : Nat) (R : Int) : Prop := inW z ∧ z.length = X.length ∧ z.take j = List.replicate j 0 ∧ 0 ≤ R ∧ R < y ∧ valB W64 (X.drop j) = R + y * valB W64 (z.drop j)
theorem val_drop {l : List Int} {j : Nat} (h : j < l.length) : valB W64 (l.drop j) = l.getD j 0 + W64 * valB W64 (l.drop (j + 1)) := by
  rw [List.drop_eq_getElem_cons h]
  show _ = _
  simp [valB, List.getD_eq_getElem?_getD, List.getElem?_eq_getElem h]
theorem div_start (X : List Int) {y : Int} (h : 0 < y) : DivI X y (List.replicate X.length 0) X.length 0 :=
  ⟨inB_zeros W64_pos _, by simp, by simp, Int.le_refl 0, h, by simp [valB]⟩
theorem div_lt {X z : List Int} {y R : Int} {j : Nat} (hX : inW X) (hj : j < X.length) (h : DivI X y z (j + 1) R) (hl : X.getD j 0 + W64 * R < y) : DivI X y z j (X.getD j 0 + W64 * R) := by
  obtain ⟨h1, h2, h3, h4, h5, h6⟩ := h
  have hz : z.take j = List.replicate j 0 ∧ z.getD j 0 = 0 := by
    have e := List.take_succ_eq_append_getElem (l := z) (i := j) (by omega)
    rw [h3, List.replicate_succ'] at e
    have e2 := List.append_inj e (by simp; omega)
    refine ⟨e2.1.symm, ?_⟩
    have e3 : (0 : Int) = z[j] := by simpa using e2.2
    rw [List.getD_eq_getElem?_getD, List.getElem?_eq_getElem (by omega)]
    exact e3.symm
  have hx := (isW_get hX j).1
  refine ⟨h1, h2, hz.1, by have := Int.mul_nonneg (Int.le_of_lt W64_pos) h4; omega, hl, ?_⟩
  rw [val_drop hj, val_drop (by omega : j < z.length), h6, hz.2]
  generalize valB W64 (z.drop (j + 1)) = Q
  generalize X.getD j 0 = x
  grind
theorem div_top {X z : List Int} {y R : Int} {j : Nat} (hX : inW X) (hj : j < X.length) (h : DivI X y z (j + 1) R) (hy : 0 < y) : 0 ≤ X.getD j 0 + W64 * R ∧ X.getD j 0 + W64 * R < W64 * y ∧ (can (X.getD j 0 + W64 * R)).length ≤ X.length := by
  obtain ⟨h1, h2, h3, h4, h5, h6⟩ := h
  obtain ⟨hx0, hx1⟩ := isW_get hX j
  have hq := Int.mul_nonneg (Int.le_of_lt hy) (valB_nonneg W64_pos (inB_drop h1 (j + 1)))
  have h0 : 0 ≤ X.getD j 0 + W64 * R := by have := Int.mul_nonneg (Int.le_of_lt W64_pos) h4; omega
  have e : valB W64 (X.drop j) = X.getD j 0 + W64 * R + W64 * (y * valB W64 (z.drop (j + 1))) := by rw [val_drop hj, h6, Int.mul_add]; omega
  refine ⟨h0, ?_, ?_⟩
  · have h7 : W64 * (R + 1) ≤ W64 * y := Int.mul_le_mul_of_nonneg_left (by omega) (Int.le_of_lt W64_pos)
    rw [Int.mul_add, Int.mul_one] at h7
    omega
  · refine can_short h0 ?_
    have h8 := valB_lt W64_pos (inB_drop hX j)
    have h9 := Int.mul_nonneg (Int.le_of_lt W64_pos) hq
    have h10 := pow_mono (B := W64) (by decide) (show (X.drop j).length ≤ X.length by simp)
    omega
theorem div_set {X z : List Int} {y R R2 γ : Int} {j : Nat} (hX : inW X) (hj : j < X.length) (h : DivI X y z (j + 1) R) (hγ : isW γ) (h0 : 0 ≤ R2) (h1 : R2 < y) (he : X.getD j 0 + W64 * R = R2 + y * γ) : DivI X y (z.set j γ) j R2 := by
  obtain ⟨g1, g2, g3, g4, g5, g6⟩ := h
  refine ⟨inB_set g1 _ hγ, by simp [g2], ?_, h0, h1, ?_⟩
  · rw [List.take_set, List.set_eq_of_length_le (by simp; omega)]
    have := congrArg (List.take j) g3
    rw [List.take_take, Nat.min_eq_left (by omega)] at this
    rw [this]; simp
  · have hs : j < (z.set j γ).length := by simp; omega
    rw [val_drop hj, val_drop hs, g6]
    have e1 : (z.set j γ).getD j 0 = γ := by simp [List.getD_eq_getElem?_getD, List.getElem?_set, show j < z.length by omega]
    have e2 : (z.set j γ).drop (j + 1) = z.drop (j + 1) := by simp [List.drop_set]
    rw [e1, e2]
    generalize valB W64 (z.drop (j + 1)) = Q at *
    generalize X.getD j 0 = x at *
    have : x = R2 + y * γ - W64 * R := by omega
    subst this
    grind
theorem div_end {X z : List Int} {y R : Int} (h : DivI X y z 0 R) (hy : 0 < y) : inW z ∧ z.length = X.length ∧ valB W64 z = valB W64 X / y ∧ R = valB W64 X % y := by
  obtain ⟨h1, h2, h3, h4, h5, h6⟩ := h
  rw [List.drop_zero, List.drop_zero] at h6
  have e1 := Int.emod_add_mul_ediv (valB W64 X) y
  have e2 := Int.emod_nonneg (valB W64 X) (by omega : y ≠ 0)
  have e3 := Int.emod_lt_of_pos (valB W64 X) hy
  obtain ⟨a, b⟩ := div_unique (M := y) h4 h5 e2 e3 (show R + y * valB W64 z = valB W64 X % y + y * (valB W64 X / y) by rw [e1]; omega)
  exact ⟨h1, h2, b, a⟩
theorem guessed_w {X Y : List Int} (hX : canL X) (hY : canL Y) (h0 : Y ≠ []) (hx : X.length ≤ 10000) (hy : Y.length ≤ 10000) : ∃ γ, nat_guessed.f X Y = some γ ∧ isW γ := by
  have hl : Y.getD (Y.length - 1) 0 ≠ 0 := by
    intro e
    have h1 := canL_low hY h0
    have hp : 0 < Y.length := List.length_pos_iff.2 h0
    have h2 := valB_take_succ W64 Y (Y.length - 1) (by omega)
    rw [List.take_of_length_le (by omega), e, Int.mul_zero, Int.add_zero] at h2
    have h3 := valB_lt W64_pos (inB_take (canL_in hY) (Y.length - 1))
    rw [List.length_take, Nat.min_eq_left (by omega)] at h3
    omega
  unfold nat_guessed.f
  rw [if_pos ⟨canL_in hX, canL_in hY, List.length_pos_iff.2 h0, hx, hy, hl⟩]
  generalize 64 - (Lib.bitLen (Y.getD (Y.length - 1) 0).toNat : Int) = s
  have hq := topL_w (canL_in hX) (Y.length : Int) s
  have hr := topL_w (canL_in hX) ((Y.length : Int) - 1) s
  have hd := topL_w (canL_in hY) ((Y.length : Int) - 1) s
  by_cases hc : topL Y ((Y.length : Int) - 1) s ≤ topL X (Y.length : Int) s
  · rw [if_pos hc]; exact ⟨_, rfl, by decide⟩
  · rw [if_neg hc]
    refine ⟨_, rfl, ?_, ?_⟩
    · exact Int.ediv_nonneg (Int.add_nonneg (Int.mul_nonneg hq.1 (by decide)) hr.1) hd.1
    · have hq0 := hq.1
      rw [Int.ediv_lt_iff_lt_mul (by omega)]
      have h1 : (topL X (Y.length : Int) s + 1) * W64 ≤ topL Y ((Y.length : Int) - 1) s * W64 := Int.mul_le_mul_of_nonneg_right (by omega) (by decide)
      rw [Int.add_mul, Int.one_mul] at h1
      have h2 := hr.2
      rw [Int.mul_comm W64]
      omega
theorem div_guess {Y N : List Int} {y R1 γ : Int} (hY : canL Y) (hN : canL N) (hy : valB W64 Y = y) (hR : valB W64 N = R1) (hY4 : Y.length ≤ 4096) (hN4 : N.length ≤ 4096) (hγ : isW γ) :
    nat_mul.f Y (can γ) = some (can (y * γ)) ∧ nat_compare.f (can (y * γ)) N = some (cmpI (y * γ) R1) ∧ (y * γ ≤ R1 → nat_Sub.f N (can (y * γ)) = some (can (R1 - y * γ), 0)) ∧ (can (y * γ)).length ≤ 5000 := by
  have hy0 : 0 ≤ y := by rw [← hy]; exact valW_nonneg (canL_in hY)
  have hp : 0 ≤ y * γ := Int.mul_nonneg hy0 hγ.1
  have hγl : (can γ).length ≤ 1 := can_short hγ.1 (by rw [Int.pow_succ, Int.pow_zero, Int.one_mul]; exact hγ.2)
  have hlen : (can (y * γ)).length ≤ Y.length + 1 := can_short hp (by
    have h1 := valB_lt W64_pos (canL_in hY)
    rw [hy] at h1
    rw [Int.pow_succ]
    exact Int.lt_of_le_of_lt (Int.mul_le_mul_of_nonneg_right (Int.le_of_lt h1) hγ.1) (Int.mul_lt_mul_of_pos_left hγ.2 (pow_posB W64_pos _)))
  refine ⟨?_, ?_, ?_, by omega⟩
  · unfold nat_mul.f
    rw [if_pos ⟨canL_in hY, can_in hγ.1, by omega, by omega, by rw [can_can hY]; omega⟩, can_val hγ.1, hy]
  · unfold nat_compare.f
    rw [if_pos ⟨can_canL hp, hN, by omega, by omega⟩, can_val hp, hR]
  · intro hle
    have hl2 : (can (y * γ)).length ≤ N.length := can_short hp (by
      have h1 := valB_lt W64_pos (canL_in hN)
      rw [hR] at h1; omega)
    unfold nat_Sub.f
    rw [if_pos ⟨canL_in hN, can_in hp⟩, if_pos ⟨by omega, by omega⟩, can_val hp, hR, if_neg (by omega)]
theorem RowB.belowB {W W' : World} {g B : Nat} {l : List Int} (h : RowB W g l) (hb : Below B W W') (hlt : g < B) : RowB W' g l := (hb.block g hlt).trans h
theorem R_far {W : World} {g : Nat} {v : Value} {l : List Int} (h : Kd.R (Kd.int .u64) 33 W (g + 1) (fun _ => True) v l) (i : Nat) (u : Value) : Kd.R (Kd.int .u64) 33 (W.setCell ⟨g, i, none⟩ u) (g + 1) (fun _ => True) v l := by
  have h1 := Kd.own_of_R (enc := Value.int .u64) (h1 := fun _ => rfl) h
  exact Kd.R_of_own (enc := Value.int .u64) (h1 := fun _ => rfl) (own_setCell h1 (by intro e; have := own_base h1 g e.symm; omega) u) (fun _ _ => trivial)
def nat_divide.f (l0 l1 : List Int) : Option (List Int × List Int) :=
  if canL l0 ∧ canL l1 ∧ l1 ≠ [] ∧ l0.length ≤ 4096 ∧ l1.length ≤ 4096 then some (can (valB W64 l0 / valB W64 l1), can (valB W64 l0 % valB W64 l1)) else none
set_option maxRecDepth 100000 in
set_option maxHeartbeats 8000000 in
theorem nat_divide.calls (A0 : Option Addr) (c0 : Nat) (l0 : List Int) (A1 : Option Addr) (c1 : Nat) (l1 : List Int) (r1 : List Int) (r2 : List Int) (w : World) (hr0 : Kd.C (Kd.int .u64) w A0 l0.length l0) (hc0 : l0.length ≤ c0) (hr1 : Kd.C (Kd.int .u64) w A1 l1.length l1) (hc1 : l1.length ≤ c1) (h : nat_divide.f l0 l1 = some (r1, r2)) :
  Calls Try.prog 53 #[.slice A0 l0.length c0, .slice A1 l1.length c1] w fun e w' => ∃ v0_ v1_ : Value, e = .returned (.tuple #[v0_, v1_]) ∧ Kd.R (Kd.int .u64) 33 w' w.heap.size (fun _ => True) v0_ r1 ∧ Kd.R (Kd.int .u64) 33 w' w.heap.size (fun _ => True) v1_ r2 ∧ Below w.heap.size w w' := by
 unfold nat_divide.f at h
 by_cases hw : canL l0 ∧ canL l1 ∧ l1 ≠ [] ∧ l0.length ≤ 4096 ∧ l1.length ≤ 4096
 ·rw [if_pos hw] at h
  cases h
  obtain ⟨hX, hY, hne, hx4, hy4⟩ := hw
  have hy0 : 0 < valB W64 l1 := by cases l1 with | nil => exact (hne rfl).elim | cons x l => exact canL_pos hY
  obtain ⟨y, hye⟩ : ∃ y, y = valB W64 l1 := ⟨_, rfl⟩
  rw [← hye] at hy0 ⊢
  have HYE := Aside0.mk hye
  have HX := Aside0.mk (canL_in hX)
  have HYc := Aside0.mk hY
  have HR0 := Aside0.mk hr0
  have HR1 := Aside0.mk hr1
  have HNE := Aside0.mk hne
  have hmk := print_make (P := Try.prog) 23 33 .u64 8 Try.underlying23 iW (by decide) l0.length (by omega)
  clear hr0 hr1 hye hX hY hne
  go_enter Try.func53, Try.ntmps53
  go_wp2
  have r0 := RowB.made w l0.length
  have HB0 := Aside0.mk (below_alloc (Below.refl w.heap.size w) (.cells (madeCells #[.int .u64 0] l0.length) 33))
  have hsz : w.heap.size + 1 ≤ (w.alloc (.cells (madeCells #[.int .u64 0] l0.length) 33)).heap.size := by simp
  have HS0 := Aside0.mk hsz
  clear hmk hsz
  obtain ⟨g, hg⟩ : ∃ g, g = w.heap.size := ⟨_, rfl⟩
  rw [← hg] at r0 HS0 ⊢
  have hgs : w.heap.size ≤ g := by omega
  have HG := Aside0.mk hg
  clear hg
  go_loopw [5, 6] (fun v i wr => ∃ (j : Nat) (z : List Int) (R : Int), j ≤ l0.length ∧ i = .int .i64 ((j : Int) - 1) ∧ Aside0 (DivI l0 y z j R) ∧ RowB wr g z ∧ Aside0 (Kd.R (Kd.int .u64) 33 wr (g + 1) (fun _ => True) v (can R)) ∧ Aside0 (Below w.heap.size w wr) ∧ Aside0 (g + 1 ≤ wr.heap.size)) (fun _ i _ => (intOf i + 1).toNat)
  case atStart => exact ⟨l0.length, _, 0, Nat.le_refl _, rfl, ⟨div_start l0 hy0⟩, r0, ⟨Kd.R_nil _ _ _ _ _⟩, HB0, HS0⟩
  case round =>
   clear r0 HB0 HS0
   obtain ⟨j, z, R, hj, rfl, HD, r0, HO, HB, HS⟩ := hrel
   by_cases hj0 : j = 0
   ·subst hj0
    have hn : decide ((0 : Int) ≤ ((0 : Nat) : Int) - 1) = false := by decide
    obtain ⟨e1, e2, e3, e4⟩ := div_end HD.out hy0
    have hR0 := r0.own' w.heap.size hgs (by omega)
    have T := trim1 (some ⟨g, 0, none⟩) z.length z wr e1 (R_C hR0) (Nat.le_refl _)
    have hR1 := R_can hR0 e1
    rw [e2] at T hR1
    rw [e3] at T hR1
    have HT := Aside0.mk T
    have HR1' := Aside0.mk hR1
    have HRe := Aside0.mk e4
    obtain ⟨A5, c5, hs⟩ := Kd.R_slice HO.out
    subst hs
    clear e1 e2 e3 e4 T hR0 hR1
    go_wp2_with fail
    refine HT.out.mono ?_
    rintro e w9 ⟨rfl, rfl⟩
    go_wp2
    go_ret2
    refine ⟨_, _, rfl, HR1'.out, ?_, HB.out⟩
    rw [← HRe.out]
    exact Kd.R_lower HO.out (show w.heap.size ≤ g + 1 by omega)
   ·obtain ⟨i, rfl⟩ : ∃ i, j = i + 1 := ⟨j - 1, by omega⟩
    have ei : (((i + 1 : Nat)) : Int) - 1 = (i : Int) := by omega
    rw [ei]
    have hn : decide ((0 : Int) ≤ (i : Int)) = true := decide_eq_true (by omega)
    have hil : i < l0.length := by omega
    have hili : (i : Int) < (l0.length : Int) := by omega
    have i0 : (0 : Int) ≤ (i : Int) := by omega
    have hC := Kd.C_below HR0.out HB.out
    obtain ⟨ad, hA0, hx0⟩ := Kd.at_int hC (i : Int) (by omega) (by omega)
    subst hA0
    rw [show rd l0 (i : Int) = l0.getD i 0 by simp [rd], show ((i : Nat) : Int).toNat = i from rfl] at hx0
    obtain ⟨t1, t2, t3⟩ := div_top HX.out hil HD.out hy0
    have HX0 := Aside0.mk (isW_get HX.out i)
    have HLt := Aside0.mk (fun hl => div_lt HX.out hil HD.out hl)
    have HSet := Aside0.mk (fun γ R2 (a : isW γ) (b : 0 ≤ R2) (c : R2 < y) d => div_set HX.out hil HD.out a b c d)
    have hRn : 0 ≤ R := HD.out.2.2.2.1
    have hRl : (can R).length ≤ 4096 := by
     have h1 := HD.out.2.2.2.2.1
     have h2 : (can R).length ≤ l1.length := can_short hRn (by
      have h3 := valB_lt W64_pos (canL_in HYc.out)
      rw [← HYE.out] at h3; omega)
     omega
    have hzl : z.length = l0.length := HD.out.2.1
    obtain ⟨x, hx⟩ : ∃ x, x = l0.getD i 0 := ⟨_, rfl⟩
    rw [← hx] at hx0 t1 t2 t3 HX0 HLt HSet
    obtain ⟨R1, hR1⟩ : ∃ R1, R1 = x + W64 * R := ⟨_, rfl⟩
    rw [← hR1] at t1 t2 t3 HLt HSet
    obtain ⟨A5, c5, hs⟩ := Kd.R_slice HO.out
    subst hs
    have HRL := Aside0.mk (show (1 + (can R).length) * 8 ≤ 140737488355328 by omega)
    have HNew := Aside0.mk (own_lit wr (g + 1) 33 .u64 [x] HS.out (by simp))
    have HRC := Aside0.mk (R_C HO.out)
    have HV1 := Aside0.mk (show inW ([x] ++ can R) ∧ valB W64 ([x] ++ can R) = R1 from ⟨inB_append.2 ⟨inB_cons.2 ⟨HX0.out, inB_nil⟩, can_in hRn⟩, by rw [valB_append, can_val hRn, hR1]; simp only [valB, List.length_singleton, Int.mul_zero, Int.add_zero, Int.pow_succ, Int.pow_zero, Int.one_mul]⟩)
    have HBg := Aside0.mk (show Below (g + 1) wr (wr.alloc (.cells #[.int .u64 x] 33)) from ((Below.refl (g + 1) wr).alloc HS.out _))
    obtain ⟨LR, hLR⟩ : ∃ LR, LR = can R := ⟨_, rfl⟩
    rw [← hLR] at HRL HRC HV1 HO ⊢
    obtain ⟨Z1, hZ1⟩ : ∃ Z1, Z1 = [x] ++ LR := ⟨_, rfl⟩
    rw [← hZ1] at HV1
    have HZ1 := Aside0.mk hZ1
    clear hC hx hR1 hLR hZ1 HX0 HD hRn hRl
    go_wp2_with ((with_reducible refine gate_builtin (b := .append) (xs := #[.tmp 23, .tmp 24]) rfl ?_); at_builtin; refine halt1 ?_)
    unfold Halt1
    refine Kd.R_append_rows (Kd.int .u64) (w0 := wr) (g + 1) rfl (.tmp 23) (.tmp 24) 23 33 (.int .u64 0) 8 rfl Try.underlying23 iW rfl (by decide) (by omega) (.slice (some ⟨wr.heap.size, 0, none⟩) 1 1) ([x] : List Int) LR _ _ _ (fun _ => True) (fun _ => False) rfl rfl ?aO ?aR (fun _ _ h => h) (fun _ h => h.elim) ?aF ?aB ?aS ?aL ?_
    case aR => exact Kd.C_below HRC.out (below_alloc (Below.refl _ _) _)
    case aB => exact HBg.out
    case aF => exact (fun _ _ => trivial)
    case aO => exact Kd.R_of_own (enc := Value.int .u64) (h1 := fun _ => rfl) HNew.out (fun _ _ => trivial)
    case aS => exact Nat.le_trans HS.out HBg.out.size
    case aL => exact HRL.out
    intro v1 w1 ho hb hg hat
    rw [← HZ1.out] at ho
    obtain ⟨A6, c6, rfl⟩ := Kd.R_slice ho
    have r1 := r0.belowB hb (by omega)
    have HB1 := Aside0.mk (below_weaken HB.out (by omega) hb)
    have HS1 := Aside0.mk (Nat.le_trans HS.out hb.size)
    have T := trim1 A6 c6 Z1 w1 HV1.out.1 (R_C ho) (R_cap ho)
    have hRr := R_can ho HV1.out.1
    rw [HV1.out.2] at T hRr
    have hcan := can_canL t1
    have hcv := can_val t1
    obtain ⟨N1, hN1⟩ : ∃ N1, N1 = can R1 := ⟨_, rfl⟩
    rw [← hN1] at T hRr hcan hcv t3
    have HN1 := Aside0.mk hN1
    have HT := Aside0.mk T
    have HO1 := Aside0.mk hRr
    have HCan := Aside0.mk hcan
    have HCv := Aside0.mk hcv
    have hN4 : N1.length ≤ 4096 := by omega
    clear ho hb hg hat T hRr hN1 hcan hcv r0 HB HO HRC HNew HBg HV1 HZ1 HRL HS
    go_wp2_with fail
    refine HT.out.mono ?_
    rintro e w2 ⟨rfl, rfl⟩
    by_cases hlt : R1 < y
    ·have HCm := Aside0.mk (nat_compare.calls A6 c6 N1 A1 c1 l1 (-1) w1 (R_C HO1.out) (R_cap HO1.out) (Kd.C_below HR1.out HB1.out) hc1 (by unfold nat_compare.f; rw [if_pos ⟨HCan.out, HYc.out, by omega, by omega⟩, HCv.out, ← HYE.out, cmpI_lt hlt]))
     have HD2 := Aside0.mk (HLt.out hlt)
     clear HT HLt HSet hlt
     go_wp2_with fail
     refine HCm.out.mono ?_
     rintro e w3 ⟨rfl, hd⟩
     have r3 := r1.below hd.below
     have HO3 := Aside0.mk (Kd.R_below HO1.out hd.below)
     have HB3 := Aside0.mk (below_step HB1.out hd.below)
     have HS3 := Aside0.mk (Nat.le_trans HS1.out (below_size hd.below))
     clear hd r1 HO1 HB1 HS1
     go_wp2
     go_roundw
     case rel => exact ⟨i, z, R1, by omega, by go_num, HD2, r3, ⟨by rw [← HN1.out]; exact HO3.out⟩, HB3, HS3⟩
     case measure => (simp [intOf]; try omega)
    ·obtain ⟨q, hq0, hq⟩ : ∃ q : Int, 0 ≤ q ∧ nat_compare.f N1 l1 = some q := by
      refine ⟨cmpI R1 y, by unfold cmpI; rw [if_neg hlt]; split <;> decide, ?_⟩
      unfold nat_compare.f; rw [if_pos ⟨HCan.out, HYc.out, by omega, by omega⟩, HCv.out, ← HYE.out]
     have hqb : decide (q < 0) = false := decide_eq_false (by omega)
     have HCm := Aside0.mk (nat_compare.calls A6 c6 N1 A1 c1 l1 q w1 (R_C HO1.out) (R_cap HO1.out) (Kd.C_below HR1.out HB1.out) hc1 hq)
     clear HT HLt hq
     go_wp2_with fail
     refine HCm.out.mono ?_
     rintro e w3 ⟨rfl, hd⟩
     have r3 := r1.below hd.below
     have HO3 := Aside0.mk (Kd.R_below HO1.out hd.below)
     have HB3 := Aside0.mk (below_step HB1.out hd.below)
     have HS3 := Aside0.mk (Nat.le_trans HS1.out (below_size hd.below))
     clear hd r1 HO1 HB1 HS1 HCm
     obtain ⟨γ0, hγ, hγw⟩ := guessed_w HCan.out HYc.out HNE.out (by omega) (by omega)
     have HGs := Aside0.mk (nat_guessed.calls A6 c6 N1 A1 c1 l1 γ0 w3 (R_C HO3.out) (R_cap HO3.out) (Kd.C_below HR1.out HB3.out) hc1 hγ)
     have HGw := Aside0.mk hγw
     clear hγ hγw
     go_wp2_with fail
     refine HGs.out.mono ?_
     rintro e w4 ⟨rfl, hb4⟩
     have r4 := r3.below hb4
     have HO4 := Aside0.mk (Kd.R_below HO3.out hb4)
     have HB4 := Aside0.mk (below_step HB3.out hb4)
     have HS4 := Aside0.mk (Nat.le_trans HS3.out (below_size hb4))
     clear hb4 r3 HO3 HB3 HS3 HGs
     go_wp2
     go_loopw [5, 7] (fun v γv wr => ∃ (γ : Int), γv = .int .u64 γ ∧ isW γ ∧ v = .slice A6 N1.length c6 ∧ RowB wr g z ∧ Aside0 (Kd.R (Kd.int .u64) 33 wr (g + 1) (fun _ => True) (.slice A6 N1.length c6) N1) ∧ Aside0 (Below w.heap.size w wr) ∧ Aside0 (g + 1 ≤ wr.heap.size)) (fun _ γv _ => (intOf γv).toNat)
     case atStart => exact ⟨γ0, rfl, HGw.out, rfl, r4, HO4, HB4, HS4⟩
     case round =>
      clear r4 HO4 HB4 HS4 HGw
      obtain ⟨γ, rfl, hγw, rfl, r4, HO4, HB4, HS4⟩ := hrel
      have hg0 := hγw.1
      have hg1 : γ < 18446744073709551616 := by have := hγw.2; rw [W64_eq] at this; exact this
      obtain ⟨d1, d2, d3, d4⟩ := div_guess HYc.out HCan.out (by rw [← HYE.out]) HCv.out (by omega) (by omega) hγw
      have HFw := Aside0.mk (nat_FromWord.calls γ (can γ) wr (by unfold nat_FromWord.f; rw [if_pos hγw]))
      obtain ⟨G1, hG1⟩ : ∃ G1, G1 = can γ := ⟨_, rfl⟩
      rw [← hG1] at HFw d1
      obtain ⟨P1, hP1⟩ : ∃ P1, P1 = can (y * γ) := ⟨_, rfl⟩
      rw [← hP1] at d1 d2 d3 d4
      have HMu := Aside0.mk d1
      have HCm := Aside0.mk d2
      have HSu := Aside0.mk d3
      have HPl := Aside0.mk d4
      clear hG1 d1 d2 d3 d4 hP1
      by_cases hle : y * γ ≤ R1
      ·have HSu' := Aside0.mk (HSu.out hle)
       obtain ⟨q', hq'⟩ : ∃ q', q' = cmpI (y * γ) R1 := ⟨_, rfl⟩
       rw [← hq'] at HCm
       have hq0' : q' ≤ 0 := by rw [hq']; unfold cmpI; split; decide; rw [if_neg (by omega)]; decide
       have hqb' : decide (q' ≤ 0) = true := decide_eq_true hq0'
       have HR2 := Aside0.mk (show (can (R1 - y * γ)).length ≤ 4096 ∧ 0 ≤ R1 - y * γ ∧ R1 = (R1 - y * γ) + y * γ from ⟨by
        have h1 : (can (R1 - y * γ)).length ≤ N1.length := can_short (by omega) (by
         have h2 := valB_lt W64_pos (canL_in HCan.out)
         rw [HCv.out] at h2
         have h3 : 0 ≤ y * γ := Int.mul_nonneg (by omega) hg0
         omega)
        omega, by omega, by omega⟩)
       obtain ⟨R20, hR20⟩ : ∃ R20, R20 = R1 - y * γ := ⟨_, rfl⟩
       rw [← hR20] at HR2 HSu'
       clear hq' hle HSu hR20
       go_wp2_with fail
       refine HFw.out.mono ?_
       rintro e w5 ⟨v5, rfl, hR5, hb5⟩
       obtain ⟨A7, c7, rfl⟩ := Kd.R_slice hR5
       have r5 := r4.below hb5
       have HO5 := Aside0.mk (Kd.R_below HO4.out hb5)
       have HB5 := Aside0.mk (below_step HB4.out hb5)
       have HS5 := Aside0.mk (Nat.le_trans HS4.out (below_size hb5))
       have HG5 := Aside0.mk hR5
       clear hR5 hb5 r4 HO4 HB4 HS4 HFw
       go_wp2_with fail
       refine (nat_mul.calls A1 c1 l1 A7 c7 G1 P1 w5 (Kd.C_below HR1.out HB5.out) hc1 (R_C HG5.out) (R_cap HG5.out) HMu.out).mono ?_
       rintro e w6 ⟨v6, rfl, hR6, hb6⟩
       obtain ⟨A8, c8, rfl⟩ := Kd.R_slice hR6
       have r6 := r5.below hb6
       have HO6 := Aside0.mk (Kd.R_below HO5.out hb6)
       have HB6 := Aside0.mk (below_step HB5.out hb6)
       have HS6 := Aside0.mk (Nat.le_trans HS5.out (below_size hb6))
       have HP6 := Aside0.mk hR6
       clear hR6 hb6 r5 HO5 HB5 HS5 HG5 HMu
       go_wp2_with fail
       refine (nat_compare.calls A8 c8 P1 A6 c6 N1 q' w6 (R_C HP6.out) (R_cap HP6.out) (R_C HO6.out) (R_cap HO6.out) HCm.out).mono ?_
       rintro e w7 ⟨rfl, hd⟩
       have r7 := r6.below hd.below
       have HO7 := Aside0.mk (Kd.R_below HO6.out hd.below)
       have HP7 := Aside0.mk (Kd.R_below HP6.out hd.below)
       have HB7 := Aside0.mk (below_step HB6.out hd.below)
       have HS7 := Aside0.mk (Nat.le_trans HS6.out (below_size hd.below))
       clear hd r6 HO6 HB6 HS6 HP6 HCm
       go_wp2_with fail
       refine (nat_Sub.calls A6 c6 N1 A8 c8 P1 (can R20) 0 w7 (R_C HO7.out) (R_cap HO7.out) (R_C HP7.out) (R_cap HP7.out) HSu'.out).mono ?_
       rintro e w8 ⟨v8, rfl, hR8, hb8⟩
       obtain ⟨A9, c9, rfl⟩ := Kd.R_slice hR8
       have r8 := r7.below hb8
       have HO8 := Aside0.mk (Kd.R_lower hR8 HS7.out)
       have HB8 := Aside0.mk (below_step HB7.out hb8)
       have HS8 := Aside0.mk (Nat.le_trans HS7.out (below_size hb8))
       clear hb8 hR8 r7 HO7 HP7 HB7 HS7 HSu'
       go_wp2
       go_loopw [5, 7] (fun v γv wr => ∃ (γ R2 : Int) (A : Option Addr) (c : Nat), γv = .int .u64 γ ∧ isW γ ∧ v = .slice A (can R2).length c ∧ Aside0 ((can R2).length ≤ 4096 ∧ 0 ≤ R2 ∧ R1 = R2 + y * γ) ∧ RowB wr g z ∧ Aside0 (Kd.R (Kd.int .u64) 33 wr (g + 1) (fun _ => True) (.slice A (can R2).length c) (can R2)) ∧ Aside0 (Below w.heap.size w wr) ∧ Aside0 (g + 1 ≤ wr.heap.size)) (fun _ γv _ => (W64 - intOf γv).toNat)
       case atStart => exact ⟨γ, R20, A9, c9, rfl, hγw, rfl, HR2, r8, HO8, HB8, HS8⟩
       case round =>
        clear r8 HO8 HB8 HS8 HR2 hγw hg0 hg1 HPl hq0' hqb'
        obtain ⟨γ, R2, A9, c9, rfl, hγw, rfl, HR2, r8, HO8, HB8, HS8⟩ := hrel
        obtain ⟨k1, k2, k3⟩ := HR2.out
        have hcan2 := can_canL k2
        have hval2 := can_val k2
        obtain ⟨N2, hN2⟩ : ∃ N2, N2 = can R2 := ⟨_, rfl⟩
        rw [← hN2] at k1 hcan2 hval2 HO8 ⊢
        have HN2 := Aside0.mk hN2
        have HCan2 := Aside0.mk hcan2
        have HVal2 := Aside0.mk hval2
        clear hN2 hcan2 hval2
        by_cases hlt2 : R2 < y
        ·have HCm := Aside0.mk (nat_compare.calls A9 c9 N2 A1 c1 l1 (-1) wr (R_C HO8.out) (R_cap HO8.out) (Kd.C_below HR1.out HB8.out) hc1 (by unfold nat_compare.f; rw [if_pos ⟨HCan2.out, HYc.out, by omega, by omega⟩, HVal2.out, ← HYE.out, cmpI_lt hlt2]))
         have HD2 := Aside0.mk (HSet.out γ R2 hγw k2 hlt2 k3)
         clear HSet k3 hlt hlt2 hγw
         go_wp2_with fail
         refine HCm.out.mono ?_
         rintro e w9 ⟨rfl, hd⟩
         have r9 := r8.below hd.below
         have HO9 := Aside0.mk (Kd.R_below HO8.out hd.below)
         have HB9 := Aside0.mk (below_step HB8.out hd.below)
         have HS9 := Aside0.mk (Nat.le_trans HS8.out (below_size hd.below))
         clear hd r8 HO8 HB8 HS8 HCm
         have x1 := r9.cell i (by omega)
         have f1 := r9.frozen i
         have t0 : ((i : Nat) : Int).toNat = i := rfl
         have R9 := Aside0.mk r9
         clear r9
         go_wp2
         go_roundw
         case rel => exact ⟨i, z.set i γ, R2, by omega, by go_num, HD2, RowB.set R9.out i γ, ⟨by rw [← HN2.out]; exact R_far HO9.out i _⟩, ⟨HB9.out.setCell (p := ⟨g, i, none⟩) hgs _⟩, ⟨by have := HS9.out; simpa using this⟩⟩
         case measure => (simp [intOf]; try omega)
        ·obtain ⟨q2, hq2, hq2'⟩ : ∃ q2 : Int, 0 ≤ q2 ∧ nat_compare.f N2 l1 = some q2 := by
          refine ⟨cmpI R2 y, by unfold cmpI; rw [if_neg hlt2]; split <;> decide, ?_⟩
          unfold nat_compare.f; rw [if_pos ⟨HCan2.out, HYc.out, by omega, by omega⟩, HVal2.out, ← HYE.out]
         have hq2b : decide (0 ≤ q2) = true := decide_eq_true hq2
         have HCm := Aside0.mk (nat_compare.calls A9 c9 N2 A1 c1 l1 q2 wr (R_C HO8.out) (R_cap HO8.out) (Kd.C_below HR1.out HB8.out) hc1 hq2')
         have HSu := Aside0.mk (show nat_Sub.f N2 l1 = some (can (R2 - y), 0) by unfold nat_Sub.f; rw [if_pos ⟨canL_in HCan2.out, canL_in HYc.out⟩, if_pos ⟨k1, hy4⟩, HVal2.out, ← HYE.out, if_neg hlt2])
         have hg2 : γ + 1 < 18446744073709551616 := by
          have h1 : y * (γ + 1) < y * W64 := by rw [Int.mul_add, Int.mul_one, Int.mul_comm y W64]; omega
          have h2 := Int.lt_of_mul_lt_mul_left h1 (by omega)
          rw [W64_eq] at h2; exact h2
         have HR3 := Aside0.mk (show (can (R2 - y)).length ≤ 4096 ∧ 0 ≤ R2 - y ∧ R1 = (R2 - y) + y * (γ + 1) from ⟨by
          have h1 : (can (R2 - y)).length ≤ N2.length := can_short (by omega) (by
           have h2 := valB_lt W64_pos (canL_in HCan2.out)
           rw [HVal2.out] at h2
           omega)
          omega, by omega, by rw [Int.mul_add, Int.mul_one]; omega⟩)
         obtain ⟨R3, hR3⟩ : ∃ R3, R3 = R2 - y := ⟨_, rfl⟩
         rw [← hR3] at HSu HR3
         have hg0 := hγw.1
         have hWg := hγw.2
         clear hR3 hq2' k3
         go_wp2_with fail
         refine HCm.out.mono ?_
         rintro e w9 ⟨rfl, hd⟩
         have r9 := r8.below hd.below
         have HO9 := Aside0.mk (Kd.R_below HO8.out hd.below)
         have HB9 := Aside0.mk (below_step HB8.out hd.below)
         have HS9 := Aside0.mk (Nat.le_trans HS8.out (below_size hd.below))
         clear hd r8 HO8 HB8 HS8 HCm
         go_wp2_with fail
         refine (nat_Sub.calls A9 c9 N2 A1 c1 l1 (can R3) 0 w9 (R_C HO9.out) (R_cap HO9.out) (Kd.C_below HR1.out HB9.out) hc1 HSu.out).mono ?_
         rintro e w10 ⟨v10, rfl, hR10, hb10⟩
         obtain ⟨A10, c10, rfl⟩ := Kd.R_slice hR10
         have r10 := r9.below hb10
         have HO10 := Aside0.mk (Kd.R_lower hR10 HS9.out)
         have HB10 := Aside0.mk (below_step HB9.out hb10)
         have HS10 := Aside0.mk (Nat.le_trans HS9.out (below_size hb10))
         clear hb10 hR10 r9 HO9 HB9 HS9 HSu
         go_wp2
         go_roundw
         case rel => exact ⟨γ + 1, R3, A10, c10, by go_num, ⟨by omega, by rw [W64_eq]; exact hg2⟩, rfl, HR3, r10, HO10, HB10, HS10⟩
         case measure => (simp only [intOf]; omega)
      ·obtain ⟨q', hq'⟩ : ∃ q', q' = cmpI (y * γ) R1 := ⟨_, rfl⟩
       rw [← hq'] at HCm
       have hq0' : 0 < q' := by rw [hq', cmpI_gt (by omega)]; decide
       have hqb' : decide (q' ≤ 0) = false := decide_eq_false (by omega)
       have hg2 : 1 ≤ γ := by
        by_cases h0 : γ = 0
        ·subst h0; rw [Int.mul_zero] at hle; omega
        ·omega
       clear hq' HSu hle
       go_wp2_with fail
       refine HFw.out.mono ?_
       rintro e w5 ⟨v5, rfl, hR5, hb5⟩
       obtain ⟨A7, c7, rfl⟩ := Kd.R_slice hR5
       have r5 := r4.below hb5
       have HO5 := Aside0.mk (Kd.R_below HO4.out hb5)
       have HB5 := Aside0.mk (below_step HB4.out hb5)
       have HS5 := Aside0.mk (Nat.le_trans HS4.out (below_size hb5))
       have HG5 := Aside0.mk hR5
       clear hR5 hb5 r4 HO4 HB4 HS4 HFw
       go_wp2_with fail
       refine (nat_mul.calls A1 c1 l1 A7 c7 G1 P1 w5 (Kd.C_below HR1.out HB5.out) hc1 (R_C HG5.out) (R_cap HG5.out) HMu.out).mono ?_
       rintro e w6 ⟨v6, rfl, hR6, hb6⟩
       obtain ⟨A8, c8, rfl⟩ := Kd.R_slice hR6
       have r6 := r5.below hb6
       have HO6 := Aside0.mk (Kd.R_below HO5.out hb6)
       have HB6 := Aside0.mk (below_step HB5.out hb6)
       have HS6 := Aside0.mk (Nat.le_trans HS5.out (below_size hb6))
       have HP6 := Aside0.mk hR6
       clear hR6 hb6 r5 HO5 HB5 HS5 HG5 HMu
       go_wp2_with fail
       refine (nat_compare.calls A8 c8 P1 A6 c6 N1 q' w6 (R_C HP6.out) (R_cap HP6.out) (R_C HO6.out) (R_cap HO6.out) HCm.out).mono ?_
       rintro e w7 ⟨rfl, hd⟩
       have r7 := r6.below hd.below
       have HO7 := Aside0.mk (Kd.R_below HO6.out hd.below)
       have HB7 := Aside0.mk (below_step HB6.out hd.below)
       have HS7 := Aside0.mk (Nat.le_trans HS6.out (below_size hd.below))
       clear hd r6 HO6 HB6 HS6 HP6 HCm
       go_wp2
       go_roundw
       case rel => exact ⟨γ - 1, by go_num, ⟨by omega, by have := hγw.2; omega⟩, rfl, r7, HO7, HB7, HS7⟩
       case measure => (simp only [intOf]; omega)
 ·rw [if_neg hw] at h; cases h
def nat_DivMod.f (l0 l1 : List Int) : Option (List Int × List Int × Int) :=
  if inW l0 ∧ inW l1 then
    if l0.length ≤ 4096 ∧ l1.length ≤ 4096 then
      if valB W64 l1 = 0 then some ([], [], 5) else some (can (valB W64 l0 / valB W64 l1), can (valB W64 l0 % valB W64 l1), 0)
    else some ([], [], 2)
  else none
set_option maxRecDepth 100000 in
set_option maxHeartbeats 4000000 in
theorem nat_DivMod.calls (A0 : Option Addr) (c0 : Nat) (l0 : List Int) (A1 : Option Addr) (c1 : Nat) (l1 : List Int) (r1 : List Int) (r2 : List Int) (r3 : Int) (w : World) (hr0 : Kd.C (Kd.int .u64) w A0 l0.length l0) (hc0 : l0.length ≤ c0) (hr1 : Kd.C (Kd.int .u64) w A1 l1.length l1) (hc1 : l1.length ≤ c1) (h : nat_DivMod.f l0 l1 = some (r1, r2, r3)) :
  Calls Try.prog 16 #[.slice A0 l0.length c0, .slice A1 l1.length c1] w fun e w' => ∃ v0_ v1_ : Value, e = .returned (.tuple #[v0_, v1_, .int .i64 r3]) ∧ Kd.R (Kd.int .u64) 33 w' w.heap.size (fun _ => True) v0_ r1 ∧ Kd.R (Kd.int .u64) 33 w' w.heap.size (fun _ => True) v1_ r2 ∧ Below w.heap.size w w' := by
 unfold nat_DivMod.f at h
 by_cases hw : inW l0 ∧ inW l1
 ·rw [if_pos hw] at h
  obtain ⟨hw0, hw1⟩ := hw
  by_cases h4 : l0.length ≤ 4096 ∧ l1.length ≤ 4096
  ·rw [if_pos h4] at h
   have HL := Aside0.mk (large_two A0 A1 c0 c1 l0 l1 w false hr0 hc0 hr1 hc1 (decide_eq_false (by omega)))
   have cX := can_canL (valW_nonneg hw0)
   have cY := can_canL (valW_nonneg hw1)
   have vx := can_val (valW_nonneg hw0)
   have vy := can_val (valW_nonneg hw1)
   have lx := can_le hw0
   have ly := can_le hw1
   have T0 := fun w' (hb : Below w.heap.size w w') => trim1 A0 c0 l0 w' hw0 (Kd.C_below hr0 hb) hc0
   have T1 := fun w' (hb : Below w.heap.size w w') => trim1 A1 c1 l1 w' hw1 (Kd.C_below hr1 hb) hc1
   have C0 := C_take hr0 _ (can_le hw0)
   have C1 := C_take hr1 _ (can_le hw1)
   rw [can_take hw0] at C0
   rw [can_take hw1] at C1
   obtain ⟨X, hX⟩ : ∃ X, X = can (valB W64 l0) := ⟨_, rfl⟩
   obtain ⟨Y, hY⟩ : ∃ Y, Y = can (valB W64 l1) := ⟨_, rfl⟩
   rw [← hX] at T0 C0 cX vx lx
   rw [← hY] at T1 C1 cY vy ly
   rw [← vx, ← vy] at h
   have HT0 := Aside0.mk T0
   have HT1 := Aside0.mk T1
   have HC0 := Aside0.mk C0
   have HC1 := Aside0.mk C1
   have hXc : X.length ≤ c0 := by omega
   have hYc : Y.length ≤ c1 := by omega
   have hX4 : X.length ≤ 4096 := by omega
   have hY4 : Y.length ≤ 4096 := by omega
   have HcX := Aside0.mk cX
   have HcY := Aside0.mk cY
   clear T0 T1 C0 C1 hr0 hr1 hX hY vx vy cX cY
   by_cases hn0 : Y.length = 0
   ·have hz : valB W64 Y = 0 := by rw [List.eq_nil_of_length_eq_zero hn0]; rfl
    rw [if_pos hz] at h
    cases h
    have b0 : ((Y.length : Int) == 0) = true := beq_iff_eq.2 (by omega)
    have b1 : (Y.length == 0) = true := beq_iff_eq.2 hn0
    have HN := Aside0.mk hn0
    clear hn0 hz
    go_enter Try.func16, Try.ntmps16
    go_wp2_with fail
    refine HL.out.mono ?_
    rintro e w1 ⟨rfl, hb1⟩
    have HB1 := Aside0.mk hb1
    clear hb1
    go_wp2_with fail
    refine (HT0.out _ HB1.out).mono ?_
    rintro e w2 ⟨rfl, rfl⟩
    go_wp2_with fail
    refine (HT1.out _ HB1.out).mono ?_
    rintro e w2 ⟨rfl, rfl⟩
    go_wp2
    go_ret3
    exact ⟨_, _, rfl, Kd.R_nil _ _ _ _ _, Kd.R_nil _ _ _ _ _, HB1.out⟩
   ·have hy0 : 0 < valB W64 Y := by cases hYY : Y with | nil => rw [hYY] at hn0; simp at hn0 | cons a l => have := HcY.out; rw [hYY] at this; exact canL_pos this
    rw [if_neg (by omega)] at h
    cases h
    have b0 : ((Y.length : Int) == 0) = false := beq_eq_false_iff_ne.2 (by omega)
    have b1 : (Y.length == 0) = false := beq_eq_false_iff_ne.2 hn0
    by_cases hn1 : Y.length = 1
    ·obtain ⟨b, hYb⟩ : ∃ b, Y = [b] := by
      match Y, hn1 with
      | [b], _ => exact ⟨b, rfl⟩
     have b2 : ((Y.length : Int) == 1) = true := beq_iff_eq.2 (by omega)
     have b3 : (Y.length == 1) = true := beq_iff_eq.2 hn1
     have hbw : isW b := by have := canL_in HcY.out; rw [hYb] at this; exact (inB_cons.1 this).1
     have hbv : valB W64 Y = b := by rw [hYb]; simp [valB]
     rw [hbv] at hy0 ⊢
     obtain ⟨ad, hA1, hx0⟩ := Kd.at_int HC1.out (0 : Int) (Int.le_refl 0) (by omega)
     have e0 : rd Y (0 : Int) = b := by rw [hYb]; rfl
     rw [e0] at hx0
     have HX0 := Aside0.mk hx0
     have HDW := Aside0.mk (show nat_DivWord.f X b = some (can (valB W64 X / b), valB W64 X % b, 0) by unfold nat_DivWord.f; rw [if_pos ⟨canL_in HcX.out, hbw⟩, if_pos hX4, if_neg (by omega)])
     have HFW := Aside0.mk (show nat_FromWord.f (valB W64 X % b) = some (can (valB W64 X % b)) by unfold nat_FromWord.f; rw [if_pos ⟨Int.emod_nonneg _ (by omega), Int.lt_trans (Int.emod_lt_of_pos _ hy0) hbw.2⟩])
     obtain ⟨Q, hQ⟩ : ∃ Q, Q = can (valB W64 X / b) := ⟨_, rfl⟩
     obtain ⟨rm, hrm⟩ : ∃ rm, rm = valB W64 X % b := ⟨_, rfl⟩
     rw [← hQ] at HDW ⊢
     rw [← hrm] at HDW HFW ⊢
     have p0 : (0 : Int) < (Y.length : Int) := by omega
     have p1 : 0 < Y.length := by omega
     have HN := Aside0.mk hn1
     have HYb := Aside0.mk hYb
     clear hn0 hn1 hYb hbv e0 hx0 hQ hrm hy0 hbw
     subst hA1
     go_enter Try.func16, Try.ntmps16
     go_wp2_with fail
     refine HL.out.mono ?_
     rintro e w1 ⟨rfl, hb1⟩
     have HB1 := Aside0.mk hb1
     clear hb1
     go_wp2_with fail
     refine (HT0.out _ HB1.out).mono ?_
     rintro e w2 ⟨rfl, rfl⟩
     go_wp2_with fail
     refine (HT1.out _ HB1.out).mono ?_
     rintro e w2 ⟨rfl, rfl⟩
     have hx0 := pw_cell_below HB1.out HX0.out
     rw [show ad.add (0 : Int).toNat = ad by simp [Addr.add]] at hx0
     go_wp2_with fail
     refine (nat_DivWord.calls A0 c0 X b Q rm 0 w1 (Kd.C_below HC0.out HB1.out) hXc HDW.out).mono ?_
     rintro e w2 ⟨v2, rfl, hR2, hb2⟩
     obtain ⟨A2, c2, rfl⟩ := Kd.R_slice hR2
     have HR2 := Aside0.mk (Kd.R_lower hR2 (below_size HB1.out))
     have HB2 := Aside0.mk (below_step HB1.out hb2)
     clear hR2 hb2 HB1 hx0
     go_wp2_with fail
     refine (nat_FromWord.calls rm _ w2 HFW.out).mono ?_
     rintro e w3 ⟨v3, rfl, hR3, hb3⟩
     have HR3 := Aside0.mk (Kd.R_lower hR3 (below_size HB2.out))
     have HR2' := Aside0.mk (Kd.R_below HR2.out hb3)
     have HB3 := Aside0.mk (below_step HB2.out hb3)
     clear hR3 hb3 HB2 HR2
     go_wp2
     go_ret3
     exact ⟨_, _, rfl, HR2'.out, HR3.out, HB3.out⟩
    ·have b2 : ((Y.length : Int) == 1) = false := beq_eq_false_iff_ne.2 (by omega)
     have b3 : (Y.length == 1) = false := beq_eq_false_iff_ne.2 hn1
     have HDv := Aside0.mk (show nat_divide.f X Y = some (can (valB W64 X / valB W64 Y), can (valB W64 X % valB W64 Y)) by unfold nat_divide.f; rw [if_pos ⟨HcX.out, HcY.out, by rintro e; rw [e] at hn0; simp at hn0, hX4, hY4⟩])
     have hrl : (can (valB W64 X % valB W64 Y)).length ≤ 4096 := by
      have h1 := Int.emod_lt_of_pos (valB W64 X) hy0
      have h2 := Int.emod_nonneg (valB W64 X) (show valB W64 Y ≠ 0 by omega)
      have h3 := valB_lt W64_pos (canL_in HcY.out)
      have h5 : (can (valB W64 X % valB W64 Y)).length ≤ Y.length := can_short h2 (by omega)
      omega
     obtain ⟨Q, hQ⟩ : ∃ Q, Q = can (valB W64 X / valB W64 Y) := ⟨_, rfl⟩
     obtain ⟨R, hR⟩ : ∃ R, R = can (valB W64 X % valB W64 Y) := ⟨_, rfl⟩
     rw [← hQ] at HDv ⊢
     rw [← hR] at HDv hrl ⊢
     clear hn0 hn1 hQ hR hy0
     go_enter Try.func16, Try.ntmps16
     go_wp2_with fail
     refine HL.out.mono ?_
     rintro e w1 ⟨rfl, hb1⟩
     have HB1 := Aside0.mk hb1
     clear hb1
     go_wp2_with fail
     refine (HT0.out _ HB1.out).mono ?_
     rintro e w2 ⟨rfl, rfl⟩
     go_wp2_with fail
     refine (HT1.out _ HB1.out).mono ?_
     rintro e w2 ⟨rfl, rfl⟩
     go_wp2_with fail
     refine (nat_divide.calls A0 c0 X A1 c1 Y Q R w1 (Kd.C_below HC0.out HB1.out) hXc (Kd.C_below HC1.out HB1.out) hYc HDv.out).mono ?_
     rintro e w2 ⟨v2, v3, rfl, hR2, hR3, hb2⟩
     obtain ⟨A3, c3, rfl⟩ := Kd.R_slice hR3
     have HR2 := Aside0.mk (Kd.R_lower hR2 (below_size HB1.out))
     have HR3 := Aside0.mk hR3
     have HB2 := Aside0.mk (below_step HB1.out hb2)
     clear hR2 hR3 hb2 HB1
     go_wp2_with fail
     refine (api_Nat_uint64.calls A3 c3 R R w2 (R_C HR3.out) (R_cap HR3.out) (by unfold api_Nat_uint64.f; rw [if_pos (by omega)])).mono ?_
     rintro e w4 ⟨v4, rfl, hR4, hb4⟩
     have HR4 := Aside0.mk (Kd.R_lower hR4 (below_size HB2.out))
     have HR2' := Aside0.mk (Kd.R_below HR2.out hb4)
     have HB4 := Aside0.mk (below_step HB2.out hb4)
     clear hR4 hb4 HB2 HR2
     go_wp2
     go_ret3
     exact ⟨_, _, rfl, HR2'.out, HR4.out, HB4.out⟩
  ·rw [if_neg h4] at h
   cases h
   have HL := Aside0.mk (large_two A0 A1 c0 c1 l0 l1 w true hr0 hc0 hr1 hc1 (decide_eq_true (by omega)))
   clear hr0 hr1
   go_enter Try.func16, Try.ntmps16
   go_wp2_with fail
   refine HL.out.mono ?_
   rintro e w1 ⟨rfl, hb1⟩
   have HB1 := Aside0.mk hb1
   clear hb1
   go_wp2
   go_ret3
   exact ⟨_, _, rfl, Kd.R_nil _ _ _ _ _, Kd.R_nil _ _ _ _ _, HB1.out⟩
 ·rw [if_neg hw] at h; cases h
end Go.Proofs.Ytkkkbalefnileaa.Ex
-- PRINTED by print.py (a twelfth state) out of the translation. Not trusted: Lean checks it.
namespace Go.Proofs.Ytkkkbalefnileaa.T
open Go.RowKit Go.Proofs.YtkkkbalefnileaaW.PrintWords Go.Proofs.YtkkkbalefnileaaW.PrintLast Go.Proofs.YtkkkbalefnileaaW.PrintMore
attribute [local go_sem] max2_int min2_int max_two min_two max_three min_three max_four min_four   -- for this text's walks alone
open Ytkkkbalefnileaa.Ex
set_option linter.unusedVariables false
set_option linter.unusedSimpArgs false



def errW : Option Int → Value
  | none => .nilIface
  | some c => .iface 0 (.int .i64 c)
theorem errW_none : errW none = .nilIface := rfl
theorem errW_some (c : Int) : errW (some c) = .iface 0 (.int .i64 c) := rfl
theorem info33 : (Try.prog.info? 33).map (fun i => (i.zero, i.size, i.bytes)) = some (some (.int .u64 0), 1, 8) := by kernel_rfl
-- the values' own types
end Go.Proofs.Ytkkkbalefnileaa.T
-- PRINTED by print.py (a twelfth state) out of the translation. Not trusted: Lean checks it.
namespace Go.Proofs.Ytkkkbalefnileaa.T
open Go.RowKit Go.Proofs.YtkkkbalefnileaaW.PrintWords Go.Proofs.YtkkkbalefnileaaW.PrintLast Go.Proofs.YtkkkbalefnileaaW.PrintMore
attribute [local go_sem] max2_int min2_int max_two min_two max_three min_three max_four min_four   -- for this text's walks alone
open Ytkkkbalefnileaa.Ex
set_option linter.unusedVariables false
set_option linter.unusedSimpArgs false

-- OURS: function 10 (reckonerlaw02_few)

-- OURS: function 11 (nat_Pow)

/-! ### reckonerref01_Count: function 46 -/
def reckonerref01_Count.l0 : Nat → Int → Int → Int → Int → Int → Option (Int × Int × Int)
  | 0, _, _, _, _, _ => none
  | k + 1, x0, x5, x6, x7, x8 => if x8 < 64 then (if 0 ≤ x8 then (if (Int.tmod (shr .u64 x0 x8) 2) = 1 then (reckonerref01_Count.l0 k x0 (wrap64 (63 - x8)) (mn x6 x8) (wrap64 (x7 + 1)) (wrap64 (x8 + 1))) else (reckonerref01_Count.l0 k x0 x5 x6 x7 (wrap64 (x8 + 1)))) else (none)) else (some (x5, x6, x7))
def reckonerref01_Count.f (k : Nat) (a0 : Int) : Option (Int × Int × Int) := reckonerref01_Count.l0 k a0 64 64 0 0
set_option maxHeartbeats 8000000 in
set_option maxRecDepth 100000 in
theorem reckonerref01_Count.calls (k : Nat) (a0 : Int) (r1 : Int) (r2 : Int) (r3 : Int) (w : World) (h : reckonerref01_Count.f k a0 = some (r1, r2, r3)) :
  Calls Try.prog 46 #[.int .u64 a0] w fun e w' => e = .returned (.tuple #[.int .i64 r1, .int .i64 r2, .int .i64 r3]) ∧ Below w.heap.size w w' := by
 have HB := Aside0.mk (Below.refl w.heap.size w)
 have H : (reckonerref01_Count.l0 k a0 64 64 0 0) = some (r1, r2, r3) := h
 clear h
 have H' := Aside0.mk H
 clear H
 go_enter Try.func46, Try.ntmps46
 go_wp2
 go_loopg [5, 6, 7, 8] k (fun kq v5 v6 v7 v8 w' => ∃ (x5_1 : Int) (x6_1 : Int) (x7_1 : Int) (x8_1 : Int), v5 = .int .i64 x5_1 ∧ v6 = .int .i64 x6_1 ∧ v7 = .int .i64 x7_1 ∧ v8 = .int .i64 x8_1 ∧ Aside0 (reckonerref01_Count.l0 kq a0 x5_1 x6_1 x7_1 x8_1 = some (r1, r2, r3)) ∧ Aside0 (kq ≤ k) ∧ Aside0 (Below w.heap.size w w'))
 case atStart => exact ⟨(64), (64), (0), (0), (by first | rfl | (simp; done) | (simp [*]; done)), (by first | rfl | (simp; done) | (simp [*]; done)), (by first | rfl | (simp; done) | (simp [*]; done)), (by first | rfl | (simp; done) | (simp [*]; done)), H', ⟨Nat.le_refl _⟩, ⟨by repeat (first | (with_reducible first | exact HB.out | apply below_alloc | apply pw_below_drewN | apply below_drew1) | exact HB.out)⟩⟩
 case round =>
  clear H'
  obtain ⟨x5_1, x6_1, x7_1, x8_1, rfl, rfl, rfl, rfl, HA, HK1, HB⟩ := hrel
  cases gk with
  | zero => exact absurd HA.out (by simp [reckonerref01_Count.l0])
  | succ k1 =>
   have H := HA.out
   clear HA
   simp only [reckonerref01_Count.l0] at H
   by_cases c2 : x8_1 < 64
   ·rw [if_pos c2] at H
    have c2b0 : decide (x8_1 < 64) = true := decide_eq_true c2
    clear c2
    by_cases c3 : 0 ≤ x8_1
    ·rw [if_pos c3] at H
     have c3b0 := eq_true c3
     have c3b1 : decide (0 ≤ x8_1) = true := decide_eq_true c3
     clear c3
     obtain ⟨ji4, hji4⟩ : ∃ j_ : Int, (shr .u64 a0 x8_1) = j_ := ⟨_, rfl⟩
     replace H : (if (Int.tmod (ji4) 2) = 1 then (reckonerref01_Count.l0 k1 a0 (wrap64 (63 - x8_1)) (mn x6_1 x8_1) (wrap64 (x7_1 + 1)) (wrap64 (x8_1 + 1))) else (reckonerref01_Count.l0 k1 a0 x5_1 x6_1 x7_1 (wrap64 (x8_1 + 1)))) = some (r1, r2, r3) := by first | (rw [hji4] at H; exact H) | (simp only [hji4] at H ⊢; exact H)
     have hji4_ : (a0 / 2 ^ min x8_1.toNat 64) = ji4 := hji4
     have hji4z : x8_1 ≤ 64 → (a0 / 2 ^ x8_1.toNat) = ji4 := shr_small hji4
     have hji4y := hji4z (by have := of_decide_eq_true c2b0; omega)
     by_cases c5 : (Int.tmod (ji4) 2) = 1
     ·rw [if_pos c5] at H
      have c5b0 : ((Int.tmod (ji4) 2) == 1) = true := beq_iff_eq.mpr c5
      have c5b1 : ((Int.tmod (ji4) 2) != 1) = false := bne_eq_false_iff_eq.mpr c5
      clear c5
      obtain ⟨ji6, hji6⟩ : ∃ j_ : Int, (mn x6_1 x8_1) = j_ := ⟨_, rfl⟩
      replace H : (reckonerref01_Count.l0 k1 a0 (wrap64 (63 - x8_1)) ji6 (wrap64 (x7_1 + 1)) (wrap64 (x8_1 + 1))) = some (r1, r2, r3) := by first | (rw [hji6] at H; exact H) | (simp only [hji6] at H ⊢; exact H)
      have hji6_ : (if x8_1 < x6_1 then x8_1 else x6_1) = ji6 := hji6
      have H' := Aside0.mk H
      clear H
      go_wp2
      go_roundg k1
      case measure => have := HK1.out; omega
      case rel => exact ⟨(wrap64 (63 - x8_1)), (ji6), (wrap64 (x7_1 + 1)), (wrap64 (x8_1 + 1)), (by first | rfl | (simp; done) | (simp [*]; done)), (by first | rfl | (simp; done) | (simp only [← hji6] <;> (first | rfl | simp)) | (simp [*]; done)), (by first | rfl | (simp; done) | (simp [*]; done)), (by first | rfl | (simp; done) | (simp [*]; done)), H', ⟨by have := HK1.out; omega⟩, ⟨by repeat (first | (with_reducible first | exact HB.out | apply below_alloc | apply pw_below_drewN | apply below_drew1) | exact HB.out)⟩⟩
     ·rw [if_neg c5] at H
      have c5b0 : ((Int.tmod (ji4) 2) == 1) = false := beq_eq_false_iff_ne.mpr c5
      have c5b1 : ((Int.tmod (ji4) 2) != 1) = true := bne_iff_ne.mpr c5
      have H' := Aside0.mk H
      clear H
      go_wp2
      go_roundg k1
      case measure => have := HK1.out; omega
      case rel => exact ⟨(x5_1), (x6_1), (x7_1), (wrap64 (x8_1 + 1)), (by first | rfl | (simp; done) | (simp [*]; done)), (by first | rfl | (simp; done) | (simp [*]; done)), (by first | rfl | (simp; done) | (simp [*]; done)), (by first | rfl | (simp; done) | (simp [*]; done)), H', ⟨by have := HK1.out; omega⟩, ⟨by repeat (first | (with_reducible first | exact HB.out | apply below_alloc | apply pw_below_drewN | apply below_drew1) | exact HB.out)⟩⟩
    ·rw [if_neg c3] at H
     exact absurd H (by simp)
   ·rw [if_neg c2] at H
    have c2b0 : decide (x8_1 < 64) = false := decide_eq_false c2
    clear c2
    simp only [Option.some.injEq, Prod.mk.injEq] at H
    obtain ⟨rfl, rfl, rfl⟩ := H
    go_wp2
    go_ret3
    exact ⟨by first | rfl | (simp [errW_none, errW_some] <;> rfl) | (simp [*, errW_none, errW_some] <;> rfl), by repeat (first | (with_reducible first | exact HB.out | apply below_alloc | apply pw_below_drewN | apply below_drew1) | exact HB.out)⟩
/-! ### reckonerref02_Len: function 12 -/
def reckonerref02_Len.l0 : Nat → List Int → Int → Option (Int)
  | 0, _, _ => none
  | k + 1, x0, x3 => if x3 ≥ 0 then (if 0 ≤ x3 then (if x3 < (x0.length : Int) then (if (rd x0 x3) = 0 then (reckonerref02_Len.l0 k x0 (wrap64 (x3 - 1))) else ((reckonerref01_Count.f k (rd x0 x3)).bind fun bt103 => (some (wrap64 ((wrap64 ((wrap64 (64 * x3)) + 64)) - bt103.1))))) else (none)) else (none)) else (some 0)
def reckonerref02_Len.f (k : Nat) (l0 : List Int) : Option (Int) := reckonerref02_Len.l0 k l0 (wrap64 ((l0.length : Int) - 1))
set_option maxHeartbeats 8000000 in
set_option maxRecDepth 100000 in
theorem reckonerref02_Len.calls (k : Nat) (A0 : Option Addr) (c0 : Nat) (l0 : List Int) (r : Int) (w : World) (hr0 : Kd.C (Kd.int .u64) w A0 l0.length l0) (hc0 : l0.length ≤ c0) (h : reckonerref02_Len.f k l0 = some r) :
  Calls Try.prog 12 #[.slice A0 l0.length c0] w fun e w' => e = .returned (.int .i64 r) ∧ Below w.heap.size w w' := by
 have HR0 := Aside0.mk hr0
 have HC0 := Aside0.mk hc0
 clear hr0 hc0
 have HB := Aside0.mk (Below.refl w.heap.size w)
 have H : (reckonerref02_Len.l0 k l0 (wrap64 ((l0.length : Int) - 1))) = some r := h
 clear h
 have H' := Aside0.mk H
 clear H
 go_enter Try.func12, Try.ntmps12
 go_wp2
 go_loopg [3] k (fun kq v3 w' => ∃ (x3_1 : Int), v3 = .int .i64 x3_1 ∧ Aside0 (reckonerref02_Len.l0 kq l0 x3_1 = some r) ∧ Aside0 (kq ≤ k) ∧ Aside0 (Below w.heap.size w w'))
 case atStart => exact ⟨(wrap64 ((l0.length : Int) - 1)), (by first | rfl | (simp; done) | (simp [*]; done)), H', ⟨Nat.le_refl _⟩, ⟨by repeat (first | (with_reducible first | exact HB.out | apply below_alloc | apply pw_below_drewN | apply below_drew1) | exact HB.out)⟩⟩
 case round =>
  clear H'
  try clear c1
  obtain ⟨x3_1, rfl, HA, HK1, HB⟩ := hrel
  cases gk with
  | zero => exact absurd HA.out (by simp [reckonerref02_Len.l0])
  | succ k1 =>
   have H := HA.out
   clear HA
   simp only [reckonerref02_Len.l0] at H
   by_cases c2 : x3_1 ≥ 0
   ·rw [if_pos c2] at H
    have c2b0 : decide (0 ≤ x3_1) = true := decide_eq_true c2
    clear c2
    by_cases c3 : 0 ≤ x3_1
    ·rw [if_pos c3] at H
     have c3b0 : decide (0 ≤ x3_1) = true := decide_eq_true c3
     clear c3
     by_cases c4 : x3_1 < (l0.length : Int)
     ·rw [if_pos c4] at H
      have c4b0 : decide (x3_1 < (l0.length : Int)) = true := decide_eq_true c4
      clear c4
      by_cases c5 : (rd l0 x3_1) = 0
      ·rw [if_pos c5] at H
       have c5b0 : ((rd l0 x3_1) == 0) = true := beq_iff_eq.mpr c5
       have c5b1 : ((rd l0 x3_1) != 0) = false := bne_eq_false_iff_eq.mpr c5
       clear c5
       have H' := Aside0.mk H
       clear H
       have p101 : 0 ≤ (x3_1 : Int) := of_decide_eq_true (by first | (with_reducible assumption) | assumption)
       have q101 : x3_1 < (l0.length : Int) := of_decide_eq_true (by first | (with_reducible assumption) | assumption)
       obtain ⟨ad101, e101, hx101_0⟩ := Kd.at_int HR0.out x3_1 p101 q101
       cases e101
       replace hx101_0 := (HB.out.cell (World.block_lt_of_cell? w _ hx101_0)).trans hx101_0
       replace p101 := eq_true p101
       replace q101 := eq_true q101
       go_wp2
       go_roundg k1
       case measure => have := HK1.out; omega
       case rel => exact ⟨(wrap64 (x3_1 - 1)), (by first | rfl | (simp; done) | (simp [*]; done)), H', ⟨by have := HK1.out; omega⟩, ⟨by repeat (first | (with_reducible first | exact HB.out | apply below_alloc | apply pw_below_drewN | apply below_drew1) | exact HB.out)⟩⟩
      ·rw [if_neg c5] at H
       have c5b0 : ((rd l0 x3_1) == 0) = false := beq_eq_false_iff_ne.mpr c5
       have c5b1 : ((rd l0 x3_1) != 0) = true := bne_iff_ne.mpr c5
       replace H := Option.bind_eq_some_iff.mp H
       obtain ⟨⟨t103, t104, t105⟩, A60, H⟩ := H
       replace H : (some (wrap64 ((wrap64 ((wrap64 (64 * x3_1)) + 64)) - t103))) = some r := H
       have A6 := Aside0.mk A60
       clear A60
       obtain rfl := Option.some.inj H
       have p101 : 0 ≤ (x3_1 : Int) := of_decide_eq_true (by first | (with_reducible assumption) | assumption)
       have q101 : x3_1 < (l0.length : Int) := of_decide_eq_true (by first | (with_reducible assumption) | assumption)
       obtain ⟨ad101, e101, hx101_0⟩ := Kd.at_int HR0.out x3_1 p101 q101
       cases e101
       replace hx101_0 := (HB.out.cell (World.block_lt_of_cell? w _ hx101_0)).trans hx101_0
       replace p101 := eq_true p101
       replace q101 := eq_true q101
       have p102 : 0 ≤ (x3_1 : Int) := of_decide_eq_true (by first | (with_reducible assumption) | assumption)
       have q102 : x3_1 < (l0.length : Int) := of_decide_eq_true (by first | (with_reducible assumption) | assumption)
       obtain ⟨ad102, e102, hx102_0⟩ := Kd.at_int HR0.out x3_1 p102 q102
       obtain rfl : ad101 = ad102 := (by injection e102)
       replace hx102_0 := (HB.out.cell (World.block_lt_of_cell? w _ hx102_0)).trans hx102_0
       replace p102 := eq_true p102
       replace q102 := eq_true q102
       go_wp2_with (first | ((with_reducible refine gate_callee (f := 46) rfl ?_); refine goesL_ (some 24) rfl rfl Try.func46 (by kernel_rfl) rfl #[.int .u64 (rd l0 x3_1)] rfl (by (try simp only [List.map_toArray, List.map_cons, List.map_nil]); first | done | rfl | (simp only [List.length_drop, List.length_take]; rfl)) ?_; (with_reducible refine (reckonerref01_Count.calls k1 (rd l0 x3_1) t103 t104 t105 _ A6.out).mono ?_); rintro e w7 ⟨rfl, hb⟩; refine ⟨_, rfl, ?_⟩; have n0_ := Aside0.mk (below_step (by repeat (first | (with_reducible first | exact HB.out | apply below_alloc | apply pw_below_drewN | apply below_drew1) | exact HB.out)) hb); clear HB; have HB := n0_; clear n0_; (try clear hb); (try clear hb2); (try clear hk); (try clear hi)))
       go_ret
       exact ⟨by first | rfl | (simp [errW_none, errW_some] <;> rfl) | (simp [*, errW_none, errW_some] <;> rfl), by repeat (first | (with_reducible first | exact HB.out | apply below_alloc | apply pw_below_drewN | apply below_drew1) | exact HB.out)⟩
     ·rw [if_neg c4] at H
      exact absurd H (by simp)
    ·rw [if_neg c3] at H
     exact absurd H (by simp)
   ·rw [if_neg c2] at H
    have c2b0 : decide (0 ≤ x3_1) = false := decide_eq_false c2
    clear c2
    obtain rfl := Option.some.inj H
    go_wp2
    go_ret
    exact ⟨by first | rfl | (simp [errW_none, errW_some] <;> rfl) | (simp [*, errW_none, errW_some] <;> rfl), by repeat (first | (with_reducible first | exact HB.out | apply below_alloc | apply pw_below_drewN | apply below_drew1) | exact HB.out)⟩
/-! ### reckonerref02_Canonical: function 47 -/
def reckonerref02_Canonical.f (l0 : List Int) : Option (Bool) := if (l0.length : Int) = 0 then (some true) else (if 0 ≤ (wrap64 ((l0.length : Int) - 1)) then (if (wrap64 ((l0.length : Int) - 1)) < (l0.length : Int) then (some ((rd l0 (wrap64 ((l0.length : Int) - 1))) != 0)) else (none)) else (none))
set_option maxHeartbeats 8000000 in
set_option maxRecDepth 100000 in
theorem reckonerref02_Canonical.calls (A0 : Option Addr) (c0 : Nat) (l0 : List Int) (r : Bool) (w : World) (hr0 : Kd.C (Kd.int .u64) w A0 l0.length l0) (hc0 : l0.length ≤ c0) (h : reckonerref02_Canonical.f l0 = some r) :
    Calls Try.prog 47 #[.slice A0 l0.length c0] w fun e w' => e = .returned (.bool r) ∧ Drawn0 w w' := by
  have HR0 := Aside0.mk hr0
  have HC0 := Aside0.mk hc0
  clear hr0 hc0
  have H : (if (l0.length : Int) = 0 then (some true) else (if 0 ≤ (wrap64 ((l0.length : Int) - 1)) then (if (wrap64 ((l0.length : Int) - 1)) < (l0.length : Int) then (some ((rd l0 (wrap64 ((l0.length : Int) - 1))) != 0)) else (none)) else (none))) = some r := h
  clear h
  by_cases c2 : (l0.length : Int) = 0
  · rw [if_pos c2] at H
    have c2b0 : ((l0.length : Int) == 0) = true := beq_iff_eq.mpr c2
    have c2b1 : ((l0.length : Int) != 0) = false := bne_eq_false_iff_eq.mpr c2
    clear c2
    obtain rfl := Option.some.inj H
    go_enter Try.func47, Try.ntmps47
    go_wp2
    go_ret
    exact ⟨by first | rfl | (simp; done) | (simp [*]; done), by repeat (first | exact Drawn0.refl _ | apply Drawn0.step)⟩
  · rw [if_neg c2] at H
    have c2b0 : ((l0.length : Int) == 0) = false := beq_eq_false_iff_ne.mpr c2
    have c2b1 : ((l0.length : Int) != 0) = true := bne_iff_ne.mpr c2
    have c2b2 : ¬ (l0 = []) := fun h_ => c2 (by rw [h_]; rfl)
    obtain ⟨ji3, hji3⟩ : ∃ j_ : Int, (wrap64 ((l0.length : Int) - 1)) = j_ := ⟨_, rfl⟩
    replace H : (if 0 ≤ (ji3) then (if (ji3) < (l0.length : Int) then (some ((rd l0 (ji3)) != 0)) else (none)) else (none)) = some r := by first | (rw [hji3] at H; exact H) | (simp only [hji3] at H ⊢; exact H)
    have hji3w : (IntKind.i64.wrap ((l0.length : Int) - 1)) = ji3 := (i64_w _).trans hji3
    by_cases c4 : 0 ≤ (ji3)
    · rw [if_pos c4] at H
      have c4b0 : decide (0 ≤ (ji3)) = true := decide_eq_true c4
      clear c4
      by_cases c5 : (ji3) < (l0.length : Int)
      · rw [if_pos c5] at H
        have c5b0 : decide ((ji3) < (l0.length : Int)) = true := decide_eq_true c5
        clear c5
        obtain rfl := Option.some.inj H
        have p106 : 0 ≤ ((ji3) : Int) := of_decide_eq_true (by first | (with_reducible assumption) | assumption)
        have q106 : (ji3) < (l0.length : Int) := of_decide_eq_true (by first | (with_reducible assumption) | assumption)
        obtain ⟨ad106, e106, hx106_0⟩ := Kd.at_int HR0.out (ji3) p106 q106
        cases e106
        replace p106 := eq_true p106
        replace q106 := eq_true q106
        go_enter Try.func47, Try.ntmps47
        go_wp2
        go_ret
        exact ⟨by first | rfl | (simp; done) | (simp only [← hji3] <;> (first | rfl | simp)) | (simp [*]; done), by repeat (first | exact Drawn0.refl _ | apply Drawn0.step)⟩
      · rw [if_neg c5] at H
        exact absurd H (by simp)
    · rw [if_neg c4] at H
      exact absurd H (by simp)
/-! ### reckonerref01_Same: function 48 -/
def reckonerref01_Same.l0 : Nat → List Int → List Int → Int → Option (Bool)
  | 0, _, _, _ => none
  | k + 1, x0, x1, x5 => if x5 < (x0.length : Int) then (if 0 ≤ x5 then (if x5 < (x1.length : Int) then (if (rd x0 x5) = (rd x1 x5) then (reckonerref01_Same.l0 k x0 x1 (wrap64 (x5 + 1))) else (some false)) else (none)) else (none)) else (some true)
def reckonerref01_Same.f (k : Nat) (l0 : List Int) (l1 : List Int) : Option (Bool) := if (l0.length : Int) = (l1.length : Int) then (reckonerref01_Same.l0 k l0 l1 0) else (some false)
set_option maxHeartbeats 8000000 in
set_option maxRecDepth 100000 in
theorem reckonerref01_Same.calls (k : Nat) (A0 : Option Addr) (c0 : Nat) (l0 : List Int) (A1 : Option Addr) (c1 : Nat) (l1 : List Int) (r : Bool) (w : World) (hr0 : Kd.C (Kd.int .u64) w A0 l0.length l0) (hc0 : l0.length ≤ c0) (hr1 : Kd.C (Kd.int .u64) w A1 l1.length l1) (hc1 : l1.length ≤ c1) (h : reckonerref01_Same.f k l0 l1 = some r) :
  Calls Try.prog 48 #[.slice A0 l0.length c0, .slice A1 l1.length c1] w fun e w' => e = .returned (.bool r) ∧ Drawn0 w w' := by
 have HR0 := Aside0.mk hr0
 have HC0 := Aside0.mk hc0
 clear hr0 hc0
 have HR1 := Aside0.mk hr1
 have HC1 := Aside0.mk hc1
 clear hr1 hc1
 have H : (if (l0.length : Int) = (l1.length : Int) then (reckonerref01_Same.l0 k l0 l1 0) else (some false)) = some r := h
 clear h
 by_cases c3 : (l0.length : Int) = (l1.length : Int)
 ·rw [if_pos c3] at H
  have c3b0 : ((l0.length : Int) == (l1.length : Int)) = true := beq_iff_eq.mpr c3
  have c3b1 : ((l0.length : Int) != (l1.length : Int)) = false := bne_eq_false_iff_eq.mpr c3
  have c3b2 : (l0.length == l1.length) = true := by first | simpa using c3 | (simp at c3 ⊢; omega)
  clear c3
  have H' := Aside0.mk H
  clear H
  go_enter Try.func48, Try.ntmps48
  go_wp2
  repeat (go_quiet (fail); try go_wp2)
  go_loopg [5] k (fun kq v5 w' => ∃ (x5_1 : Int), v5 = .int .i64 x5_1 ∧ Aside0 (reckonerref01_Same.l0 kq l0 l1 x5_1 = some r) ∧ Aside0 (kq ≤ k) ∧ Drawn0 w w')
  case atStart => exact ⟨(0), (by first | rfl | (simp; done) | (simp [*]; done)), H', ⟨Nat.le_refl _⟩, by repeat (first | exact Drawn0.refl _ | apply Drawn0.step)⟩
  case round =>
   clear H'
   try clear c1
   try clear p2
   try clear c3
   try clear c3b0
   try clear c3b1
   try clear c3b2
   obtain ⟨x5_1, rfl, HA, HK1, ⟨m1, rfl⟩⟩ := hrel
   cases gk with
   | zero => exact absurd HA.out (by simp [reckonerref01_Same.l0])
   | succ k1 =>
    have H := HA.out
    clear HA
    simp only [reckonerref01_Same.l0] at H
    by_cases c4 : x5_1 < (l0.length : Int)
    ·rw [if_pos c4] at H
     have c4b0 : decide (x5_1 < (l0.length : Int)) = true := decide_eq_true c4
     clear c4
     by_cases c5 : 0 ≤ x5_1
     ·rw [if_pos c5] at H
      have c5b0 : decide (0 ≤ x5_1) = true := decide_eq_true c5
      clear c5
      by_cases c6 : x5_1 < (l1.length : Int)
      ·rw [if_pos c6] at H
       have c6b0 : decide (x5_1 < (l1.length : Int)) = true := decide_eq_true c6
       clear c6
       by_cases c7 : (rd l0 x5_1) = (rd l1 x5_1)
       ·rw [if_pos c7] at H
        have c7b0 : ((rd l0 x5_1) == (rd l1 x5_1)) = true := beq_iff_eq.mpr c7
        have c7b1 : ((rd l0 x5_1) != (rd l1 x5_1)) = false := bne_eq_false_iff_eq.mpr c7
        clear c7
        have H' := Aside0.mk H
        clear H
        have p107 : 0 ≤ (x5_1 : Int) := of_decide_eq_true (by first | (with_reducible assumption) | assumption)
        have q107 : x5_1 < (l0.length : Int) := of_decide_eq_true (by first | (with_reducible assumption) | assumption)
        obtain ⟨ad107, e107, hx107_0⟩ := Kd.at_int HR0.out x5_1 p107 q107
        cases e107
        replace p107 := eq_true p107
        replace q107 := eq_true q107
        have p108 : 0 ≤ (x5_1 : Int) := of_decide_eq_true (by first | (with_reducible assumption) | assumption)
        have q108 : x5_1 < (l1.length : Int) := of_decide_eq_true (by first | (with_reducible assumption) | assumption)
        obtain ⟨ad108, e108, hx108_0⟩ := Kd.at_int HR1.out x5_1 p108 q108
        cases e108
        replace p108 := eq_true p108
        replace q108 := eq_true q108
        go_wp2
        repeat (go_quiet (fail); try go_wp2)
        go_roundg k1
        case measure => have := HK1.out; omega
        case rel => exact ⟨(wrap64 (x5_1 + 1)), (by first | rfl | (simp; done) | (simp [*]; done)), H', ⟨by have := HK1.out; omega⟩, by repeat (first | exact Drawn0.refl _ | apply Drawn0.step)⟩
       ·rw [if_neg c7] at H
        have c7b0 : ((rd l0 x5_1) == (rd l1 x5_1)) = false := beq_eq_false_iff_ne.mpr c7
        have c7b1 : ((rd l0 x5_1) != (rd l1 x5_1)) = true := bne_iff_ne.mpr c7
        obtain rfl := Option.some.inj H
        have p107 : 0 ≤ (x5_1 : Int) := of_decide_eq_true (by first | (with_reducible assumption) | assumption)
        have q107 : x5_1 < (l0.length : Int) := of_decide_eq_true (by first | (with_reducible assumption) | assumption)
        obtain ⟨ad107, e107, hx107_0⟩ := Kd.at_int HR0.out x5_1 p107 q107
        cases e107
        replace p107 := eq_true p107
        replace q107 := eq_true q107
        have p108 : 0 ≤ (x5_1 : Int) := of_decide_eq_true (by first | (with_reducible assumption) | assumption)
        have q108 : x5_1 < (l1.length : Int) := of_decide_eq_true (by first | (with_reducible assumption) | assumption)
        obtain ⟨ad108, e108, hx108_0⟩ := Kd.at_int HR1.out x5_1 p108 q108
        cases e108
        replace p108 := eq_true p108
        replace q108 := eq_true q108
        go_wp2
        repeat (go_quiet (fail); try go_wp2)
        go_ret
        exact ⟨by first | rfl | (simp; done) | (simp [*]; done), by repeat (first | exact Drawn0.refl _ | apply Drawn0.step)⟩
      ·rw [if_neg c6] at H
       exact absurd H (by simp)
     ·rw [if_neg c5] at H
      exact absurd H (by simp)
    ·rw [if_neg c4] at H
     have c4b0 : decide (x5_1 < (l0.length : Int)) = false := decide_eq_false c4
     clear c4
     obtain rfl := Option.some.inj H
     go_wp2
     repeat (go_quiet (fail); try go_wp2)
     go_ret
     exact ⟨by first | rfl | (simp; done) | (simp [*]; done), by repeat (first | exact Drawn0.refl _ | apply Drawn0.step)⟩
 ·rw [if_neg c3] at H
  have c3b0 : ((l0.length : Int) == (l1.length : Int)) = false := beq_eq_false_iff_ne.mpr c3
  have c3b1 : ((l0.length : Int) != (l1.length : Int)) = true := bne_iff_ne.mpr c3
  have c3b2 : (l0.length == l1.length) = false := by first | simpa using c3 | (simp at c3 ⊢; omega)
  obtain rfl := Option.some.inj H
  go_enter Try.func48, Try.ntmps48
  go_wp2
  repeat (go_quiet (fail); try go_wp2)
  go_ret
  exact ⟨by first | rfl | (simp; done) | (simp [*]; done), by repeat (first | exact Drawn0.refl _ | apply Drawn0.step)⟩
/-! ### reckonerref01_Digits: function 57 -/
def reckonerref01_Digits.l0 : Nat → List Int → List Int → Int → Option (List Int)
  | 0, _, _, _ => none
  | k + 1, x0, x3, x4 => if x4 < (x0.length : Int) then (if 0 ≤ x4 then ((some (([Int.tmod (rd x0 x4) 4294967296, IntKind.u64.wrap (Int.tdiv (rd x0 x4) 4294967296)] : List Int) : List Int)).bind fun y111 => (if x3.length + y111.length < 17592186044416 then (reckonerref01_Digits.l0 k x0 (x3 ++ y111) (wrap64 (x4 + 1))) else (none))) else (none)) else (some x3)
def reckonerref01_Digits.f (k : Nat) (l0 : List Int) : Option (List Int) := reckonerref01_Digits.l0 k l0 ([] : List Int) 0
def reckonerref01_Digits.T5 : Bool × List (List Nat × List Nat) := (true, [([], []), ([], []), ([], []), ([1, 2], [1, 2]), ([3], [3]), ([4], [4]), ([], []), ([], []), ([6, 7], [6, 7]), ([8], [8]), ([9], [9]), ([5, 10], [5, 10]), ([0, 11], [0, 11]), ([12, 12, 0, 1, 2, 3, 4, 5, 6, 7, 8, 9, 10, 11, 12], [0, 12])])
def reckonerref01_Digits.B5 : List Nat := [0, 0, 0, 6, 14, 30, 0, 0, 192, 448, 960, 2046, 4095, 8191]
theorem reckonerref01_Digits.tab5 : rtab .any (opsOf Try.f57 5) = reckonerref01_Digits.T5 := by kernel_rfl
theorem reckonerref01_Digits.bits5 : waitsOk reckonerref01_Digits.T5.2 reckonerref01_Digits.B5 = true := by kernel_rfl
set_option maxHeartbeats 8000000 in
set_option maxRecDepth 100000 in
theorem reckonerref01_Digits.calls (k : Nat) (A0 : Option Addr) (c0 : Nat) (l0 : List Int) (r : List Int) (w : World) (hr0 : Kd.C (Kd.int .u64) w A0 l0.length l0) (hc0 : l0.length ≤ c0) (h : reckonerref01_Digits.f k l0 = some r) :
  Calls Try.prog 57 #[.slice A0 l0.length c0] w fun e w' => ∃ v0_ : Value, e = .returned (v0_) ∧ Kd.R (Kd.int .u64) 33 w' w.heap.size (fun _ => True) v0_ r ∧ Below w.heap.size w w' := by
 have HR0 := Aside0.mk hr0
 have HC0 := Aside0.mk hc0
 clear hr0 hc0
 have HB := Aside0.mk (Below.refl w.heap.size w)
 have H : (reckonerref01_Digits.l0 k l0 ([] : List Int) 0) = some r := h
 clear h
 have H' := Aside0.mk H
 clear H
 go_enter Try.func57, Try.ntmps57
 try simp only [List.append]
 go_wp2
 go_loopg [3, 4] k (fun kq v3 v4 w' => ∃ (x3_1 : List Int) (x4_1 : Int), v4 = .int .i64 x4_1 ∧ Aside0 (reckonerref01_Digits.l0 kq l0 x3_1 x4_1 = some r) ∧ Aside0 (kq ≤ k) ∧ Aside0 (Kd.R (Kd.int .u64) 33 w' w.heap.size (fun _ => True) v3 x3_1) ∧ Aside0 (Below w.heap.size w w'))
 case atStart => exact ⟨(([] : List Int)), (0), (by first | rfl | (simp; done) | (simp [*]; done)), H', ⟨Nat.le_refl _⟩, ⟨by first | exact Kd.R_nil _ _ _ _ _ | exact Kd.N_nil _ _ _ _ _ | exact Kd.V_nil _ _ _ _ _ | exact Kd.Q_nil _ _ _ _ _ | exact Kd.S_nil _ _ _ _ _⟩, ⟨by repeat (first | (with_reducible first | exact HB.out | apply below_alloc | apply pw_below_drewN | apply below_drew1) | exact HB.out)⟩⟩
 case round =>
  clear H'
  obtain ⟨x3_1, x4_1, rfl, HA, HK1, HO_3, HB⟩ := hrel
  cases gk with
  | zero => exact absurd HA.out (by simp [reckonerref01_Digits.l0])
  | succ k1 =>
   have H := HA.out
   clear HA
   simp only [reckonerref01_Digits.l0] at H
   by_cases c2 : x4_1 < (l0.length : Int)
   ·rw [if_pos c2] at H
    have c2b0 : decide (x4_1 < (l0.length : Int)) = true := decide_eq_true c2
    clear c2
    by_cases c3 : 0 ≤ x4_1
    ·rw [if_pos c3] at H
     have c3b0 : decide (0 ≤ x4_1) = true := decide_eq_true c3
     clear c3
     obtain ⟨y111, hy111⟩ : ∃ y_ : List Int, y_ = (([Int.tmod (rd l0 x4_1) 4294967296, IntKind.u64.wrap (Int.tdiv (rd l0 x4_1) 4294967296)] : List Int)) := ⟨_, rfl⟩
     replace H : (if x3_1.length + y111.length < 17592186044416 then (reckonerref01_Digits.l0 k1 l0 (x3_1 ++ y111) (wrap64 (x4_1 + 1))) else (none)) = some r := by first | (rw [hy111]; with_reducible exact H) | (have H2_ := (Option.bind_some _ _).symm.trans H; rw [hy111]; with_reducible exact H2_) | (have H2_ := (Option.bind_some _ _).symm.trans H; with_reducible exact H2_) | with_reducible exact H | (rw [hy111]; exact H) | exact H
     have Ny111 := Aside0.mk hy111
     clear hy111
     by_cases c4 : x3_1.length + y111.length < 17592186044416
     ·rw [if_pos c4] at H
      have LMc4 := Aside0.mk c4
      clear c4
      obtain ⟨y114, hy114⟩ : ∃ y_ : List Int, y_ = (x3_1 ++ y111) := ⟨_, rfl⟩
      replace H : (reckonerref01_Digits.l0 k1 l0 y114 (wrap64 (x4_1 + 1))) = some r := by first | (rw [hy114]; with_reducible exact H) | (have H2_ := (Option.bind_some _ _).symm.trans H; rw [hy114]; with_reducible exact H2_) | (have H2_ := (Option.bind_some _ _).symm.trans H; with_reducible exact H2_) | with_reducible exact H | (rw [hy114]; exact H) | exact H
      have Ny114 := Aside0.mk hy114
      clear hy114
      have H' := Aside0.mk H
      clear H
      try go_wp2
      have n0_ := Aside0.mk (Kd.R_drew HO_3.out)
      have n1_ := Aside0.mk (below_drew1 HB.out)
      clear HO_3
      clear HB
      have HO_3 := n0_
      have HB := n1_
      clear n0_ n1_
      have p109 : 0 ≤ (x4_1 : Int) := of_decide_eq_true (by first | (with_reducible assumption) | assumption)
      have q109 : x4_1 < (l0.length : Int) := of_decide_eq_true (by first | (with_reducible assumption) | assumption)
      obtain ⟨ad109, e109, hx109_0⟩ := Kd.at_int HR0.out x4_1 p109 q109
      have hw109_0 := hx109_0
      cases e109
      replace hx109_0 := (HB.out.cell (World.block_lt_of_cell? w _ hx109_0)).trans hx109_0
      replace p109 := eq_true p109
      replace q109 := eq_true q109
      have p110 : 0 ≤ (x4_1 : Int) := of_decide_eq_true (by first | (with_reducible assumption) | assumption)
      have q110 : x4_1 < (l0.length : Int) := of_decide_eq_true (by first | (with_reducible assumption) | assumption)
      obtain ⟨ad110, e110, hx110_0⟩ := Kd.at_int HR0.out x4_1 p110 q110
      have hw110_0 := hx110_0
      obtain rfl : ad109 = ad110 := (by injection e110)
      replace hx110_0 := (HB.out.cell (World.block_lt_of_cell? w _ hx110_0)).trans hx110_0
      replace p110 := eq_true p110
      replace q110 := eq_true q110
      refine start_ (n := 14) (S := fun w' => w'.cell? (ad109.add (x4_1).toNat) = some (.int .u64 (rd l0 x4_1)) ∧ w'.cell? (ad109.add (x4_1).toNat) = some (.int .u64 (rd l0 x4_1))) (ds := []) #[false, false, false, false, false, false, false, false, false, false, false, false, false, false] (by kernel_rfl) rfl rfl ⟨((HB.out.cell (World.block_lt_of_cell? w _ hw109_0)).trans hw109_0), ((HB.out.cell (World.block_lt_of_cell? w _ hw110_0)).trans hw110_0)⟩ (fun hHeld => ?_); refine with_tabW reckonerref01_Digits.tab5 reckonerref01_Digits.bits5 (fun HT_ HW_ => ?_)
      generalize wr.drew = w5 at HO_3 HB hx109_0 hx110_0 hHeld ⊢
      refine pure_ (i := 0) (N := some 11) (v := ?_) (a' := ?_) #[true, false, false, false, false, false, false, false, false, false, false, false, false, false] rfl rfl (any_of HT_.out (by kernel_rfl)) (fun _ _ _ h => h) (Or.inl ⟨by rfl, ?_⟩) ?_ ?_
      rotate_left
      ·intro w'
       go_simp
       with_reducible rfl
      rotate_left
      ·simp only [Act.put, List.setIfInBounds_toArray, List.set_cons_zero, List.set_cons_succ, i64_w, i32_w]
       rfl
      refine pure_ (i := 1) (N := some 12) (v := ?_) (a' := ?_) #[true, true, false, false, false, false, false, false, false, false, false, false, false, false] rfl rfl (any_of HT_.out (by kernel_rfl)) (fun _ _ _ h => h) (Or.inl ⟨by rfl, ?_⟩) ?_ ?_
      rotate_left
      ·intro w'
       go_simp
       with_reducible rfl
      rotate_left
      ·simp only [Act.put, List.setIfInBounds_toArray, List.set_cons_zero, List.set_cons_succ, i64_w, i32_w]
       rfl
      refine pure_ (i := 2) (N := some 13) (v := ?_) (a' := ?_) #[true, true, true, false, false, false, false, false, false, false, false, false, false, false] rfl rfl (any_of HT_.out (by kernel_rfl)) (fun _ _ _ h => h) (Or.inl ⟨by rfl, ?_⟩) ?_ ?_
      rotate_left
      ·intro w'
       go_simp
       with_reducible rfl
      rotate_left
      ·simp only [Act.put, List.setIfInBounds_toArray, List.set_cons_zero, List.set_cons_succ, i64_w, i32_w]
       rfl
      refine pure_ (i := 3) (N := some 14) (v := ?_) (a' := ?_) #[true, true, true, true, false, false, false, false, false, false, false, false, false, false] rfl rfl (any_of HT_.out (by kernel_rfl)) (fun _ _ _ h => h) (Or.inl ⟨by rfl, ?_⟩) ?_ ?_
      rotate_left
      ·intro w'
       go_simp
       with_reducible rfl
      rotate_left
      ·simp only [Act.put, List.setIfInBounds_toArray, List.set_cons_zero, List.set_cons_succ, i64_w, i32_w]
       rfl
      refine pure_ (i := 6) (N := some 17) (v := ?_) (a' := ?_) #[true, true, true, true, false, false, true, false, false, false, false, false, false, false] rfl rfl (any_of HT_.out (by kernel_rfl)) (fun _ _ _ h => h) (Or.inl ⟨by rfl, ?_⟩) ?_ ?_
      rotate_left
      ·intro w'
       go_simp
       with_reducible rfl
      rotate_left
      ·simp only [Act.put, List.setIfInBounds_toArray, List.set_cons_zero, List.set_cons_succ, i64_w, i32_w]
       rfl
      refine pure_ (i := 7) (N := some 18) (v := ?_) (a' := ?_) #[true, true, true, true, false, false, true, true, false, false, false, false, false, false] rfl rfl (any_of HT_.out (by kernel_rfl)) (fun _ _ _ h => h) (Or.inl ⟨by rfl, ?_⟩) ?_ ?_
      rotate_left
      ·intro w'
       go_simp
       with_reducible rfl
      rotate_left
      ·simp only [Act.put, List.setIfInBounds_toArray, List.set_cons_zero, List.set_cons_succ, i64_w, i32_w]
       rfl
      refine pure_ (i := 8) (N := some 19) (v := ?_) (a' := ?_) #[true, true, true, true, false, false, true, true, true, false, false, false, false, false] rfl rfl (any_of HT_.out (by kernel_rfl)) (fun _ _ _ h => h) (Or.inl ⟨by rfl, ?_⟩) ?_ ?_
      rotate_left
      ·intro w'
       go_simp
       with_reducible rfl
      rotate_left
      ·simp only [Act.put, List.setIfInBounds_toArray, List.set_cons_zero, List.set_cons_succ, i64_w, i32_w]
       rfl
      refine take_ (i := 4) (N := some 15) (v := ?_) (a' := ?_) #[true, true, true, true, true, false, true, true, true, false, false, false, false, false] rfl rfl (take_ofW HT_.out HW_.out (by kernel_rfl)) (fun _ _ _ h => h) (Or.inl ⟨by rfl, ?_⟩) hHeld ?_ ?_
      rotate_left
      ·rintro w' ⟨s0, s1⟩
       go_simp
       with_reducible rfl
      rotate_left
      ·simp only [Act.put, List.setIfInBounds_toArray, List.set_cons_zero, List.set_cons_succ, i64_w, i32_w]
       rfl
      refine pure_ (i := 5) (N := some 16) (v := ?_) (a' := ?_) #[true, true, true, true, true, true, true, true, true, false, false, false, false, false] rfl rfl (any_of HT_.out (by kernel_rfl)) (fun _ _ _ h => h) (Or.inl ⟨by rfl, ?_⟩) ?_ ?_
      rotate_left
      ·intro w'
       go_simp
       with_reducible rfl
      rotate_left
      ·simp only [Act.put, List.setIfInBounds_toArray, List.set_cons_zero, List.set_cons_succ, i64_w, i32_w]
       rfl
      refine take_ (i := 9) (N := some 20) (v := ?_) (a' := ?_) #[true, true, true, true, true, true, true, true, true, true, false, false, false, false] rfl rfl (take_ofW HT_.out HW_.out (by kernel_rfl)) (fun _ _ _ h => h) (Or.inl ⟨by rfl, ?_⟩) hHeld ?_ ?_
      rotate_left
      ·rintro w' ⟨s0, s1⟩
       go_simp
       with_reducible rfl
      rotate_left
      ·simp only [Act.put, List.setIfInBounds_toArray, List.set_cons_zero, List.set_cons_succ, i64_w, i32_w]
       rfl
      refine pure_ (i := 10) (N := some 21) (v := ?_) (a' := ?_) #[true, true, true, true, true, true, true, true, true, true, true, false, false, false] rfl rfl (any_of HT_.out (by kernel_rfl)) (fun _ _ _ h => h) (Or.inl ⟨by rfl, ?_⟩) ?_ ?_
      rotate_left
      ·intro w'
       go_simp
       with_reducible rfl
      rotate_left
      ·simp only [Act.put, List.setIfInBounds_toArray, List.set_cons_zero, List.set_cons_succ, i64_w, i32_w]
       rfl
      refine one_ (i := 11) (N := some 22) #[true, true, true, true, true, true, true, true, true, true, true, true, false, false] rfl rfl (one_of HT_.out (by kernel_rfl)) (by decide) (fun K hK => ?_)
      refine Kd.R_lit_step (Kd.int .u64) _ 33 ?hg (N := 22) ?hd (xs := ([Int.tmod (rd l0 x4_1) 4294967296, IntKind.u64.wrap (Int.tdiv (rd l0 x4_1) 4294967296)] : List Int)) (inner := [.int .u64 (Int.tmod (rd l0 x4_1) 4294967296), .int .u64 (IntKind.u64.wrap (Int.tdiv (rd l0 x4_1) 4294967296))]) (ok := fun _ => True) (okp := fun _ => True) ?hr ?hp (fun _ hk => hk) trivial (Below.refl _ _) (Nat.le_refl _) (by simp) ?_; (case hd => rfl); (case hg => rfl); (case hr => first | (go_simp; done) | (go_simp; rfl)); (case hp => exact (Reps.one (show Kd.M (Kd.int .u64) _ _ _ (Int.tmod (rd l0 x4_1) 4294967296) [.int .u64 (Int.tmod (rd l0 x4_1) 4294967296)] from rfl) (Reps.one (show Kd.M (Kd.int .u64) _ _ _ (IntKind.u64.wrap (Int.tdiv (rd l0 x4_1) 4294967296)) [.int .u64 (IntKind.u64.wrap (Int.tdiv (rd l0 x4_1) 4294967296))] from rfl) (Reps.none _ _))))
      intro v112 w6 ho7 hb hg_ hnew_
      clear hg_ hnew_
      (first | rw [← Ny111.out] at ho7 | (simp only [Int.reduceToNat] at ho7; rw [← Ny111.out] at ho7))
      have n0_ := Aside0.mk (Kd.R_elder' (by (with_reducible repeat (first | apply Kd.R_alloc | apply Kd.R_drewN | apply Kd.R_drew)); exact HO_3.out) (Kd.R_base ho7) hb)
      have n1_ := Aside0.mk (Kd.R_lower (Kd.R_new' ho7 (Kd.R_lt (by (with_reducible repeat (first | apply Kd.R_alloc | apply Kd.R_drewN | apply Kd.R_drew)); exact HO_3.out))) (below_size (by repeat (first | (with_reducible first | exact HB.out | apply below_alloc | apply pw_below_drewN | apply below_drew1) | exact HB.out))))
      have n2_ := Aside0.mk (below_step (by repeat (first | (with_reducible first | exact HB.out | apply below_alloc | apply pw_below_drewN | apply below_drew1) | exact HB.out)) hb)
      clear HO_3
      clear HB
      have HO_3 := n0_
      have HO113 := n1_
      have HB := n2_
      clear n0_ n1_ n2_
      clear hb ho7
      obtain ⟨Ao9, co9, eo9⟩ := Kd.R_slice HO113.out
      (first | subst eo9 | (injection eo9 with f1_ f2_ f3_; have f4_ := f1_.symm; have f5_ := f3_.symm; clear f1_ f2_ f3_; subst f4_; subst f5_))
      refine hK.out _ _ ⟨((HB.out.cell (World.block_lt_of_cell? w _ hw109_0)).trans hw109_0), ((HB.out.cell (World.block_lt_of_cell? w _ hw110_0)).trans hw110_0)⟩ (fun hHeld => ?_)
      clear hK K
      refine norm_ (a' := ?_) ?_ ?_
      rotate_left
      ·show Act.put _ (some 22) _ = _
       simp only [Act.put, List.setIfInBounds_toArray, List.set_cons_zero, List.set_cons_succ, i64_w, i32_w]
       rfl
      refine one_ (i := 12) (N := some 23) #[true, true, true, true, true, true, true, true, true, true, true, true, true, false] rfl rfl (one_of HT_.out (by kernel_rfl)) (by decide) (fun K hK => ?_)
      refine Kd.R_append_rows_step (Kd.int .u64) (w0 := w) w.heap.size (by rfl) (.tmp 11) (.tmp 22) 22 33 (.int .u64 0) 8 rfl Try.underlying22 info33 rfl (by decide) (by omega) u3 x3_1 y111 _ _ _ (fun k_ => some k_ ≠ (.slice Ao9 y111.length co9 : Value).ownBlock) (fun _ => False) rfl rfl ?aO ?aR (fun _ _ h => h) (fun _ h => h.elim) ?aF ?aB ?aS ?aL ?_
      (case aR => repeat (first | exact (Kd.R_reads' HO113.out).2.2 | (with_reducible refine Kd.C_alloc ?_ _) | (with_reducible refine Kd.C_drewN ?_ _) | (with_reducible refine Kd.C_drew ?_)))
      (case aB => exact (by repeat (first | (with_reducible first | exact HB.out | apply below_alloc | apply pw_below_drewN | apply below_drew1) | exact HB.out)))
      (case aF => exact (fun k_ hk => Kd.fresh' (Kd.R_lt (by (with_reducible repeat (first | apply Kd.R_alloc | apply Kd.R_drewN | apply Kd.R_drew)); exact HO113.out)) k_ hk))
      (case aO => exact (by (with_reducible repeat (first | apply Kd.R_alloc | apply Kd.R_drewN | apply Kd.R_drew)); exact Kd.R_mono HO_3.out (fun _ hk => hk.2)))
      (case aS => exact (below_size (by repeat (first | (with_reducible first | exact HB.out | apply below_alloc | apply pw_below_drewN | apply below_drew1) | exact HB.out))))
      (case aL => have := LMc4.out; omega)
      intro v115 w8 ho hb hg hat
      rw [← Ny114.out] at ho
      have n0_ := Aside0.mk (Kd.R_after (ok := (fun _ => True)) (by (with_reducible repeat (first | apply Kd.R_alloc | apply Kd.R_drewN | apply Kd.R_drew)); exact HO113.out) hg hat)
      have n1_ := Aside0.mk (hb)
      have n2_ := Aside0.mk (ho)
      clear HO113
      clear HB
      clear HO_3
      have HO113 := n0_
      have HB := n1_
      have HO116 := n2_
      clear n0_ n1_ n2_
      clear ho hb hg hat
      refine hK.out _ _ ⟨((HB.out.cell (World.block_lt_of_cell? w _ hw109_0)).trans hw109_0), ((HB.out.cell (World.block_lt_of_cell? w _ hw110_0)).trans hw110_0)⟩ (fun hHeld => ?_)
      clear hK K
      refine norm_ (a' := ?_) ?_ ?_
      rotate_left
      ·show Act.put _ (some 23) _ = _
       simp only [Act.put, List.setIfInBounds_toArray, List.set_cons_zero, List.set_cons_succ, i64_w, i32_w]
       rfl
      refine pure_ (i := 13) (N := some 3) (v := ?_) (a' := ?_) #[true, true, true, true, true, true, true, true, true, true, true, true, true, true] rfl rfl (any_of HT_.out (by kernel_rfl)) (fun _ _ _ h => h) (Or.inl ⟨by rfl, ?_⟩) ?_ ?_
      rotate_left
      ·intro w'
       go_simp
       with_reducible rfl
      rotate_left
      ·simp only [Act.put, List.setIfInBounds_toArray, List.set_cons_zero, List.set_cons_succ, i64_w, i32_w]
       rfl
      refine done_ (done_of HT_.out (by kernel_rfl)) ?_
      try go_wp2
      go_roundg k1
      case measure => have := HK1.out; omega
      case rel => exact ⟨(y114), (wrap64 (x4_1 + 1)), (by first | rfl | (simp; done) | (simp [*]; done)), H', ⟨by have := HK1.out; omega⟩, ⟨by (with_reducible repeat (first | apply Kd.R_alloc | apply Kd.R_drewN | apply Kd.R_drew)); exact Kd.R_mono HO116.out (fun _ hk => trivial)⟩, ⟨by repeat (first | (with_reducible first | exact HB.out | apply below_alloc | apply pw_below_drewN | apply below_drew1) | exact HB.out)⟩⟩
     ·rw [if_neg c4] at H
      exact absurd H (by simp)
    ·rw [if_neg c3] at H
     exact absurd H (by simp)
   ·rw [if_neg c2] at H
    have c2b0 : decide (x4_1 < (l0.length : Int)) = false := decide_eq_false c2
    clear c2
    obtain rfl := Option.some.inj H
    go_wp2
    go_ret
    exact ⟨_, by first | rfl | (simp [errW_none, errW_some] <;> rfl) | (simp [*, errW_none, errW_some] <;> rfl), by (with_reducible repeat (first | apply Kd.R_alloc | apply Kd.R_drewN | apply Kd.R_drew)); exact HO_3.out, by repeat (first | (with_reducible first | exact HB.out | apply below_alloc | apply pw_below_drewN | apply below_drew1) | exact HB.out)⟩
/-! ### reckonerref01_Short: function 86 -/
def reckonerref01_Short.l0 : Nat → List Int → Int → Option (List Int)
  | 0, _, _ => none
  | k + 1, x0, x3 => if x3 > 0 then (if 0 ≤ (wrap64 (x3 - 1)) then (if (wrap64 (x3 - 1)) < (x0.length : Int) then (if (rd x0 (wrap64 (x3 - 1))) = 0 then (reckonerref01_Short.l0 k x0 (wrap64 (x3 - 1))) else (if 0 ≤ x3 then (if x3 ≤ (x0.length : Int) then (some (x0.take (x3 : Int).toNat)) else (none)) else (none))) else (none)) else (none)) else (if 0 ≤ x3 then (if x3 ≤ (x0.length : Int) then (some (x0.take (x3 : Int).toNat)) else (none)) else (none))
def reckonerref01_Short.f (k : Nat) (l0 : List Int) : Option (List Int) := reckonerref01_Short.l0 k l0 (l0.length : Int)
set_option maxHeartbeats 8000000 in
set_option maxRecDepth 100000 in
theorem reckonerref01_Short.calls (k : Nat) (P0_ : Nat → Prop) (A0 : Option Addr) (c0 : Nat) (l0 : List Int) (r : List Int) (w : World) (hs0 : Kd.V (Kd.int .u64) 33 w w.heap.size (fun k_ => P0_ k_) (.slice A0 l0.length c0) l0) (h : reckonerref01_Short.f k l0 = some r) :
  Calls Try.prog 86 #[.slice A0 l0.length c0] w fun e w' => ∃ v0_ : Value, e = .returned (v0_) ∧ Kd.V (Kd.int .u64) 33 w' w.heap.size (fun k_ => (P0_ k_ ∨ w.heap.size ≤ k_)) v0_ r ∧ Below w.heap.size w w' := by
 have HO0 := Aside0.mk (show Kd.V (Kd.int .u64) 33 w w.heap.size (fun k_ => (P0_ k_ ∨ w.heap.size ≤ k_)) (.slice A0 l0.length c0) l0 from Kd.V_mono hs0 (fun k_ hk => .inl hk))
 have HB := Aside0.mk (Below.refl w.heap.size w)
 have H : (reckonerref01_Short.l0 k l0 (l0.length : Int)) = some r := h
 clear h
 have H' := Aside0.mk H
 clear H
 go_enter Try.func86, Try.ntmps86
 go_wp2
 go_loopg [3] k (fun kq v3 w' => ∃ (x3_1 : Int), v3 = .int .i64 x3_1 ∧ Aside0 (reckonerref01_Short.l0 kq l0 x3_1 = some r) ∧ Aside0 (kq ≤ k) ∧ Aside0 (Kd.V (Kd.int .u64) 33 w' w.heap.size (fun k_ => (P0_ k_ ∨ w.heap.size ≤ k_)) (.slice A0 l0.length c0) l0) ∧ Aside0 (Below w.heap.size w w'))
 case atStart => exact ⟨((l0.length : Int)), (by first | rfl | (simp; done) | (simp [*]; done)), H', ⟨Nat.le_refl _⟩, ⟨by (with_reducible repeat (first | apply Kd.V_alloc | apply Kd.V_drewN | apply Kd.V_drew)); exact HO0.out⟩, ⟨by repeat (first | (with_reducible first | exact HB.out | apply below_alloc | apply pw_below_drewN | apply below_drew1) | exact HB.out)⟩⟩
 case round =>
  clear H'
  obtain ⟨x3_1, rfl, HA, HK1, HO_0, HB⟩ := hrel
  cases gk with
  | zero => exact absurd HA.out (by simp [reckonerref01_Short.l0])
  | succ k1 =>
   have H := HA.out
   clear HA
   simp only [reckonerref01_Short.l0] at H
   by_cases c2 : x3_1 > 0
   ·rw [if_pos c2] at H
    have c2b0 : decide (0 < x3_1) = true := decide_eq_true c2
    clear c2
    obtain ⟨ji3, hji3⟩ : ∃ j_ : Int, (wrap64 (x3_1 - 1)) = j_ := ⟨_, rfl⟩
    replace H : (if 0 ≤ (ji3) then (if (ji3) < (l0.length : Int) then (if (rd l0 (ji3)) = 0 then (reckonerref01_Short.l0 k1 l0 ji3) else (if 0 ≤ x3_1 then (if x3_1 ≤ (l0.length : Int) then (some (l0.take (x3_1 : Int).toNat)) else (none)) else (none))) else (none)) else (none)) = some r := by first | (rw [hji3] at H; exact H) | (simp only [hji3] at H ⊢; exact H)
    have hji3w : (IntKind.i64.wrap (x3_1 - 1)) = ji3 := (i64_w _).trans hji3
    by_cases c4 : 0 ≤ (ji3)
    ·rw [if_pos c4] at H
     have c4b0 : decide (0 ≤ (ji3)) = true := decide_eq_true c4
     clear c4
     by_cases c5 : (ji3) < (l0.length : Int)
     ·rw [if_pos c5] at H
      have c5b0 : decide ((ji3) < (l0.length : Int)) = true := decide_eq_true c5
      clear c5
      by_cases c6 : (rd l0 (ji3)) = 0
      ·rw [if_pos c6] at H
       have c6b0 : ((rd l0 (ji3)) == 0) = true := beq_iff_eq.mpr c6
       have c6b1 : ((rd l0 (ji3)) != 0) = false := bne_eq_false_iff_eq.mpr c6
       clear c6
       have H' := Aside0.mk H
       clear H
       have p117 : 0 ≤ ((ji3) : Int) := of_decide_eq_true (by first | (with_reducible assumption) | assumption)
       have q117 : (ji3) < (l0.length : Int) := of_decide_eq_true (by first | (with_reducible assumption) | assumption)
       obtain ⟨ad117, e117, hx117_0⟩ := Kd.at_int (Kd.V_reads' HO_0.out).2.2 (ji3) p117 q117
       cases e117
       replace p117 := eq_true p117
       replace q117 := eq_true q117
       go_wp2
       go_roundg k1
       case measure => have := HK1.out; omega
       case rel => exact ⟨(ji3), (by first | rfl | (simp; done) | (simp only [← hji3] <;> (first | rfl | simp)) | (simp [*]; done)), H', ⟨by have := HK1.out; omega⟩, ⟨by (with_reducible repeat (first | apply Kd.V_alloc | apply Kd.V_drewN | apply Kd.V_drew)); exact HO_0.out⟩, ⟨by repeat (first | (with_reducible first | exact HB.out | apply below_alloc | apply pw_below_drewN | apply below_drew1) | exact HB.out)⟩⟩
      ·rw [if_neg c6] at H
       have c6b0 : ((rd l0 (ji3)) == 0) = false := beq_eq_false_iff_ne.mpr c6
       have c6b1 : ((rd l0 (ji3)) != 0) = true := bne_iff_ne.mpr c6
       by_cases c7 : 0 ≤ x3_1
       ·rw [if_pos c7] at H
        have c7b0 := eq_true c7
        have c7b1 : decide (0 ≤ x3_1) = true := decide_eq_true c7
        clear c7
        by_cases c8 : x3_1 ≤ (l0.length : Int)
        ·rw [if_pos c8] at H
         have c8b0 := eq_true c8
         have c8b1 : decide (x3_1 ≤ (l0.length : Int)) = true := decide_eq_true c8
         clear c8
         obtain ⟨y118, hy118⟩ : ∃ y_ : List Int, y_ = (l0.take (x3_1 : Int).toNat) := ⟨_, rfl⟩
         replace H : (some y118) = some r := by first | (rw [hy118]; with_reducible exact H) | (have H2_ := (Option.bind_some _ _).symm.trans H; rw [hy118]; with_reducible exact H2_) | (have H2_ := (Option.bind_some _ _).symm.trans H; with_reducible exact H2_) | with_reducible exact H | (rw [hy118]; exact H) | exact H
         have Ny118 := Aside0.mk hy118
         clear hy118
         obtain rfl := Option.some.inj H
         have p117 : 0 ≤ ((ji3) : Int) := of_decide_eq_true (by first | (with_reducible assumption) | assumption)
         have q117 : (ji3) < (l0.length : Int) := of_decide_eq_true (by first | (with_reducible assumption) | assumption)
         obtain ⟨ad117, e117, hx117_0⟩ := Kd.at_int (Kd.V_reads' HO_0.out).2.2 (ji3) p117 q117
         cases e117
         replace p117 := eq_true p117
         replace q117 := eq_true q117
         have q9 : (x3_1 : Int) ≤ ((l0.length : Int) : Int) := of_decide_eq_true (by first | (with_reducible assumption) | assumption)
         obtain ⟨i09, hi09, _, hsz9, _⟩ := info_parts info33
         have hroom9 : l0.length ≤ c0 := (Kd.V_reads' HO_0.out).2.1
         have hC9 : Kd.F (Kd.int .u64) _ _ (some ad117) l0.length l0 := (Kd.V_at (base := w.heap.size) HO_0.out).2.2
         have hcut9 := cut_to (P := Try.prog) 22 33 .i64 Try.underlying22 hi09 (some ad117) l0.length c0 x3_1 (of_decide_eq_true (by first | (with_reducible assumption) | assumption)) q9 hroom9
         have hr9 := Kd.F_take (m := (x3_1 : Int).toNat) hC9 (by omega)
         have hy9 : y118.length = (x3_1 : Int).toNat := (by rw [Ny118.out, List.length_take]; omega)
         rw [← Ny118.out] at hr9
         rw [← hy9] at hcut9
         have HO122 := Aside0.mk (show Kd.V (Kd.int .u64) 33 _ w.heap.size _ (.slice (some ad117) y118.length c0) y118 from Kd.V_mk (by omega) hr9)
         have HC122 := Aside0.mk (show y118.length ≤ c0 from by omega)
         clear hr9 hC9 hroom9 hi09 hsz9
         have KY9 := Aside0.mk hy9
         clear hy9
         replace q9 := eq_true q9
         go_wp2
         go_ret
         exact ⟨_, by first | rfl | (simp [errW_none, errW_some] <;> rfl) | (simp only [← hji3]; first | rfl | (simp [errW_none, errW_some] <;> rfl)) | (simp [*, errW_none, errW_some] <;> rfl), by (with_reducible repeat (first | apply Kd.V_alloc | apply Kd.V_drewN | apply Kd.V_drew)); exact HO122.out, by repeat (first | (with_reducible first | exact HB.out | apply below_alloc | apply pw_below_drewN | apply below_drew1) | exact HB.out)⟩
        ·rw [if_neg c8] at H
         exact absurd H (by simp)
       ·rw [if_neg c7] at H
        exact absurd H (by simp)
     ·rw [if_neg c5] at H
      exact absurd H (by simp)
    ·rw [if_neg c4] at H
     exact absurd H (by simp)
   ·rw [if_neg c2] at H
    have c2b0 : decide (0 < x3_1) = false := decide_eq_false c2
    clear c2
    by_cases c10 : 0 ≤ x3_1
    ·rw [if_pos c10] at H
     have c10b0 := eq_true c10
     have c10b1 : decide (0 ≤ x3_1) = true := decide_eq_true c10
     clear c10
     by_cases c11 : x3_1 ≤ (l0.length : Int)
     ·rw [if_pos c11] at H
      have c11b0 := eq_true c11
      have c11b1 : decide (x3_1 ≤ (l0.length : Int)) = true := decide_eq_true c11
      clear c11
      obtain ⟨y123, hy123⟩ : ∃ y_ : List Int, y_ = (l0.take (x3_1 : Int).toNat) := ⟨_, rfl⟩
      replace H : (some y123) = some r := by first | (rw [hy123]; with_reducible exact H) | (have H2_ := (Option.bind_some _ _).symm.trans H; rw [hy123]; with_reducible exact H2_) | (have H2_ := (Option.bind_some _ _).symm.trans H; with_reducible exact H2_) | with_reducible exact H | (rw [hy123]; exact H) | exact H
      have Ny123 := Aside0.mk hy123
      clear hy123
      obtain rfl := Option.some.inj H
      have q12 : (x3_1 : Int) ≤ ((l0.length : Int) : Int) := of_decide_eq_true (by first | (with_reducible assumption) | assumption)
      obtain ⟨i012, hi012, _, hsz12, _⟩ := info_parts info33
      have hroom12 : l0.length ≤ c0 := (Kd.V_reads' HO_0.out).2.1
      have hC12 : Kd.F (Kd.int .u64) _ _ A0 l0.length l0 := (Kd.V_at (base := w.heap.size) HO_0.out).2.2
      have hcut12 := cut_to (P := Try.prog) 22 33 .i64 Try.underlying22 hi012 A0 l0.length c0 x3_1 (of_decide_eq_true (by first | (with_reducible assumption) | assumption)) q12 hroom12
      have hr12 := Kd.F_take (m := (x3_1 : Int).toNat) hC12 (by omega)
      have hy12 : y123.length = (x3_1 : Int).toNat := (by rw [Ny123.out, List.length_take]; omega)
      rw [← Ny123.out] at hr12
      rw [← hy12] at hcut12
      have HO127 := Aside0.mk (show Kd.V (Kd.int .u64) 33 _ w.heap.size _ (.slice A0 y123.length c0) y123 from Kd.V_mk (by omega) hr12)
      have HC127 := Aside0.mk (show y123.length ≤ c0 from by omega)
      clear hr12 hC12 hroom12 hi012 hsz12
      have KY12 := Aside0.mk hy12
      clear hy12
      replace q12 := eq_true q12
      go_wp2
      go_ret
      exact ⟨_, by first | rfl | (simp [errW_none, errW_some] <;> rfl) | (simp [*, errW_none, errW_some] <;> rfl), by (with_reducible repeat (first | apply Kd.V_alloc | apply Kd.V_drewN | apply Kd.V_drew)); exact HO127.out, by repeat (first | (with_reducible first | exact HB.out | apply below_alloc | apply pw_below_drewN | apply below_drew1) | exact HB.out)⟩
     ·rw [if_neg c11] at H
      exact absurd H (by simp)
    ·rw [if_neg c10] at H
     exact absurd H (by simp)
end Go.Proofs.Ytkkkbalefnileaa.T
-- PRINTED by print.py (a twelfth state) out of the translation. Not trusted: Lean checks it.
namespace Go.Proofs.Ytkkkbalefnileaa.T
open Go.RowKit Go.Proofs.YtkkkbalefnileaaW.PrintWords Go.Proofs.YtkkkbalefnileaaW.PrintLast Go.Proofs.YtkkkbalefnileaaW.PrintMore
attribute [local go_sem] max2_int min2_int max_two min_two max_three min_three max_four min_four   -- for this text's walks alone
open Ytkkkbalefnileaa.Ex
set_option linter.unusedVariables false
set_option linter.unusedSimpArgs false

/-! ### reckonerref01_Row: function 103 -/
def reckonerref01_Row.l0 : Nat → List Int → List Int → Int → Option (List Int)
  | 0, _, _, _ => none
  | k + 1, x0, x3, x4 => if (wrap64 (x4 + 1)) < (x0.length : Int) then (if 0 ≤ x4 then (if x4 < (x0.length : Int) then (if 0 ≤ (wrap64 (x4 + 1)) then (if x3.length < 17592186044416 then (reckonerref01_Row.l0 k x0 (x3 ++ [IntKind.u64.wrap ((rd x0 x4) + (IntKind.u64.wrap ((rd x0 (wrap64 (x4 + 1))) * 4294967296)))]) (wrap64 (x4 + 2))) else (none)) else (none)) else (none)) else (none)) else (some x3)
def reckonerref01_Row.f (k : Nat) (l0 : List Int) : Option (List Int) := reckonerref01_Row.l0 k l0 ([] : List Int) 0
def reckonerref01_Row.T5 : Bool × List (List Nat × List Nat) := (true, [([], []), ([], []), ([], []), ([1, 2], [1, 2]), ([3], [3]), ([], []), ([], []), ([6], [6]), ([5, 7], [5, 7]), ([8], [8]), ([9], [9]), ([4, 10], [4, 10]), ([11], [11]), ([0, 12], [0, 12]), ([13, 13, 0, 1, 2, 3, 4, 5, 6, 7, 8, 9, 10, 11, 12, 13], [0, 13])])
def reckonerref01_Row.B5 : List Nat := [0, 0, 0, 6, 14, 0, 0, 64, 224, 480, 992, 2046, 4094, 8191, 16383]
theorem reckonerref01_Row.tab5 : rtab .any (opsOf Try.f103 5) = reckonerref01_Row.T5 := by kernel_rfl
theorem reckonerref01_Row.bits5 : waitsOk reckonerref01_Row.T5.2 reckonerref01_Row.B5 = true := by kernel_rfl
set_option maxHeartbeats 8000000 in
set_option maxRecDepth 100000 in
theorem reckonerref01_Row.calls (k : Nat) (A0 : Option Addr) (c0 : Nat) (l0 : List Int) (r : List Int) (w : World) (hr0 : Kd.C (Kd.int .u64) w A0 l0.length l0) (hc0 : l0.length ≤ c0) (h : reckonerref01_Row.f k l0 = some r) :
  Calls Try.prog 103 #[.slice A0 l0.length c0] w fun e w' => ∃ v0_ : Value, e = .returned (v0_) ∧ Kd.R (Kd.int .u64) 33 w' w.heap.size (fun _ => True) v0_ r ∧ Below w.heap.size w w' := by
 have HR0 := Aside0.mk hr0
 have HC0 := Aside0.mk hc0
 clear hr0 hc0
 have HB := Aside0.mk (Below.refl w.heap.size w)
 have H : (reckonerref01_Row.l0 k l0 ([] : List Int) 0) = some r := h
 clear h
 have H' := Aside0.mk H
 clear H
 go_enter Try.func103, Try.ntmps103
 try simp only [List.append]
 go_wp2
 go_loopg [3, 4] k (fun kq v3 v4 w' => ∃ (x3_1 : List Int) (x4_1 : Int), v4 = .int .i64 x4_1 ∧ Aside0 (reckonerref01_Row.l0 kq l0 x3_1 x4_1 = some r) ∧ Aside0 (kq ≤ k) ∧ Aside0 (Kd.R (Kd.int .u64) 33 w' w.heap.size (fun _ => True) v3 x3_1) ∧ Aside0 (Below w.heap.size w w'))
 case atStart => exact ⟨(([] : List Int)), (0), (by first | rfl | (simp; done) | (simp [*]; done)), H', ⟨Nat.le_refl _⟩, ⟨by first | exact Kd.R_nil _ _ _ _ _ | exact Kd.N_nil _ _ _ _ _ | exact Kd.V_nil _ _ _ _ _ | exact Kd.Q_nil _ _ _ _ _ | exact Kd.S_nil _ _ _ _ _⟩, ⟨by repeat (first | (with_reducible first | exact HB.out | apply below_alloc | apply pw_below_drewN | apply below_drew1) | exact HB.out)⟩⟩
 case round =>
  clear H'
  try clear c1
  obtain ⟨x3_1, x4_1, rfl, HA, HK1, HO_3, HB⟩ := hrel
  cases gk with
  | zero => exact absurd HA.out (by simp [reckonerref01_Row.l0])
  | succ k1 =>
   have H := HA.out
   clear HA
   simp only [reckonerref01_Row.l0] at H
   by_cases c2 : (wrap64 (x4_1 + 1)) < (l0.length : Int)
   ·rw [if_pos c2] at H
    have c2b0 : decide ((wrap64 (x4_1 + 1)) < (l0.length : Int)) = true := decide_eq_true c2
    clear c2
    by_cases c3 : 0 ≤ x4_1
    ·rw [if_pos c3] at H
     have c3b0 : decide (0 ≤ x4_1) = true := decide_eq_true c3
     clear c3
     by_cases c4 : x4_1 < (l0.length : Int)
     ·rw [if_pos c4] at H
      have c4b0 : decide (x4_1 < (l0.length : Int)) = true := decide_eq_true c4
      clear c4
      obtain ⟨ji5, hji5⟩ : ∃ j_ : Int, (wrap64 (x4_1 + 1)) = j_ := ⟨_, rfl⟩
      replace H : (if 0 ≤ (ji5) then (if x3_1.length < 17592186044416 then (reckonerref01_Row.l0 k1 l0 (x3_1 ++ [IntKind.u64.wrap ((rd l0 x4_1) + (IntKind.u64.wrap ((rd l0 (ji5)) * 4294967296)))]) (wrap64 (x4_1 + 2))) else (none)) else (none)) = some r := by first | (rw [hji5] at H; exact H) | (simp only [hji5] at H ⊢; exact H)
      (try rw [hji5] at c2b0)
      have hji5w : (IntKind.i64.wrap (x4_1 + 1)) = ji5 := (i64_w _).trans hji5
      by_cases c6 : 0 ≤ (ji5)
      ·rw [if_pos c6] at H
       have c6b0 : decide (0 ≤ (ji5)) = true := decide_eq_true c6
       clear c6
       by_cases c7 : x3_1.length < 17592186044416
       ·rw [if_pos c7] at H
        have LMc7 := Aside0.mk c7
        clear c7
        obtain ⟨y130, hy130⟩ : ∃ y_ : List Int, y_ = (x3_1 ++ [IntKind.u64.wrap ((rd l0 x4_1) + (IntKind.u64.wrap ((rd l0 (ji5)) * 4294967296)))]) := ⟨_, rfl⟩
        replace H : (reckonerref01_Row.l0 k1 l0 y130 (wrap64 (x4_1 + 2))) = some r := by first | (rw [hy130]; with_reducible exact H) | (have H2_ := (Option.bind_some _ _).symm.trans H; rw [hy130]; with_reducible exact H2_) | (have H2_ := (Option.bind_some _ _).symm.trans H; with_reducible exact H2_) | with_reducible exact H | (rw [hy130]; exact H) | exact H
        have Ny130 := Aside0.mk hy130
        clear hy130
        have H' := Aside0.mk H
        clear H
        try go_wp2
        have n0_ := Aside0.mk (Kd.R_drew HO_3.out)
        have n1_ := Aside0.mk (below_drew1 HB.out)
        clear HO_3
        clear HB
        have HO_3 := n0_
        have HB := n1_
        clear n0_ n1_
        have p128 : 0 ≤ (x4_1 : Int) := of_decide_eq_true (by first | (with_reducible assumption) | assumption)
        have q128 : x4_1 < (l0.length : Int) := of_decide_eq_true (by first | (with_reducible assumption) | assumption)
        obtain ⟨ad128, e128, hx128_0⟩ := Kd.at_int HR0.out x4_1 p128 q128
        have hw128_0 := hx128_0
        cases e128
        replace hx128_0 := (HB.out.cell (World.block_lt_of_cell? w _ hx128_0)).trans hx128_0
        replace p128 := eq_true p128
        replace q128 := eq_true q128
        have p129 : 0 ≤ ((ji5) : Int) := of_decide_eq_true (by first | (with_reducible assumption) | assumption)
        have q129 : (ji5) < (l0.length : Int) := of_decide_eq_true (by first | (with_reducible assumption) | assumption)
        obtain ⟨ad129, e129, hx129_0⟩ := Kd.at_int HR0.out (ji5) p129 q129
        have hw129_0 := hx129_0
        obtain rfl : ad128 = ad129 := (by injection e129)
        replace hx129_0 := (HB.out.cell (World.block_lt_of_cell? w _ hx129_0)).trans hx129_0
        replace p129 := eq_true p129
        replace q129 := eq_true q129
        refine start_ (n := 15) (S := fun w' => w'.cell? (ad128.add (x4_1).toNat) = some (.int .u64 (rd l0 x4_1)) ∧ w'.cell? (ad128.add ((ji5)).toNat) = some (.int .u64 (rd l0 (ji5)))) (ds := []) #[false, false, false, false, false, false, false, false, false, false, false, false, false, false, false] (by kernel_rfl) rfl rfl ⟨((HB.out.cell (World.block_lt_of_cell? w _ hw128_0)).trans hw128_0), ((HB.out.cell (World.block_lt_of_cell? w _ hw129_0)).trans hw129_0)⟩ (fun hHeld => ?_); refine with_tabW reckonerref01_Row.tab5 reckonerref01_Row.bits5 (fun HT_ HW_ => ?_)
        generalize wr.drew = w8 at HO_3 HB hx128_0 hx129_0 hHeld ⊢
        refine pure_ (i := 0) (N := some 12) (v := ?_) (a' := ?_) #[true, false, false, false, false, false, false, false, false, false, false, false, false, false, false] rfl rfl (any_of HT_.out (by kernel_rfl)) (fun _ _ _ h => h) (Or.inl ⟨by rfl, ?_⟩) ?_ ?_
        rotate_left
        ·intro w'
         go_simp
         with_reducible rfl
        rotate_left
        ·simp only [Act.put, List.setIfInBounds_toArray, List.set_cons_zero, List.set_cons_succ, i64_w, i32_w]
         rfl
        refine pure_ (i := 1) (N := some 13) (v := ?_) (a' := ?_) #[true, true, false, false, false, false, false, false, false, false, false, false, false, false, false] rfl rfl (any_of HT_.out (by kernel_rfl)) (fun _ _ _ h => h) (Or.inl ⟨by rfl, ?_⟩) ?_ ?_
        rotate_left
        ·intro w'
         go_simp
         with_reducible rfl
        rotate_left
        ·simp only [Act.put, List.setIfInBounds_toArray, List.set_cons_zero, List.set_cons_succ, i64_w, i32_w]
         rfl
        refine pure_ (i := 2) (N := some 14) (v := ?_) (a' := ?_) #[true, true, true, false, false, false, false, false, false, false, false, false, false, false, false] rfl rfl (any_of HT_.out (by kernel_rfl)) (fun _ _ _ h => h) (Or.inl ⟨by rfl, ?_⟩) ?_ ?_
        rotate_left
        ·intro w'
         go_simp
         with_reducible rfl
        rotate_left
        ·simp only [Act.put, List.setIfInBounds_toArray, List.set_cons_zero, List.set_cons_succ, i64_w, i32_w]
         rfl
        refine pure_ (i := 3) (N := some 15) (v := ?_) (a' := ?_) #[true, true, true, true, false, false, false, false, false, false, false, false, false, false, false] rfl rfl (any_of HT_.out (by kernel_rfl)) (fun _ _ _ h => h) (Or.inl ⟨by rfl, ?_⟩) ?_ ?_
        rotate_left
        ·intro w'
         go_simp
         with_reducible rfl
        rotate_left
        ·simp only [Act.put, List.setIfInBounds_toArray, List.set_cons_zero, List.set_cons_succ, i64_w, i32_w]
         rfl
        refine pure_ (i := 5) (N := some 17) (v := ?_) (a' := ?_) #[true, true, true, true, false, true, false, false, false, false, false, false, false, false, false] rfl rfl (any_of HT_.out (by kernel_rfl)) (fun _ _ _ h => h) (Or.inl ⟨by rfl, ?_⟩) ?_ ?_
        rotate_left
        ·intro w'
         go_simp
         with_reducible rfl
        rotate_left
        ·simp only [Act.put, List.setIfInBounds_toArray, List.set_cons_zero, List.set_cons_succ, i64_w, i32_w]
         rfl
        refine pure_ (i := 6) (N := some 18) (v := ?_) (a' := ?_) #[true, true, true, true, false, true, true, false, false, false, false, false, false, false, false] rfl rfl (any_of HT_.out (by kernel_rfl)) (fun _ _ _ h => h) (Or.inl ⟨by rfl, ?_⟩) ?_ ?_
        rotate_left
        ·intro w'
         go_simp
         with_reducible rfl
        rotate_left
        ·simp only [Act.put, List.setIfInBounds_toArray, List.set_cons_zero, List.set_cons_succ, i64_w, i32_w]
         rfl
        refine pure_ (i := 7) (N := some 19) (v := ?_) (a' := ?_) #[true, true, true, true, false, true, true, true, false, false, false, false, false, false, false] rfl rfl (any_of HT_.out (by kernel_rfl)) (fun _ _ _ h => h) (Or.inl ⟨by rfl, ?_⟩) ?_ ?_
        rotate_left
        ·intro w'
         go_simp
         with_reducible rfl
        rotate_left
        ·simp only [Act.put, List.setIfInBounds_toArray, List.set_cons_zero, List.set_cons_succ, i64_w, i32_w]
         rfl
        refine pure_ (i := 8) (N := some 20) (v := ?_) (a' := ?_) #[true, true, true, true, false, true, true, true, true, false, false, false, false, false, false] rfl rfl (any_of HT_.out (by kernel_rfl)) (fun _ _ _ h => h) (Or.inl ⟨by rfl, ?_⟩) ?_ ?_
        rotate_left
        ·intro w'
         go_simp
         with_reducible rfl
        rotate_left
        ·simp only [Act.put, List.setIfInBounds_toArray, List.set_cons_zero, List.set_cons_succ, i64_w, i32_w]
         rfl
        refine take_ (i := 4) (N := some 16) (v := ?_) (a' := ?_) #[true, true, true, true, true, true, true, true, true, false, false, false, false, false, false] rfl rfl (take_ofW HT_.out HW_.out (by kernel_rfl)) (fun _ _ _ h => h) (Or.inl ⟨by rfl, ?_⟩) hHeld ?_ ?_
        rotate_left
        ·rintro w' ⟨s0, s1⟩
         go_simp
         with_reducible rfl
        rotate_left
        ·simp only [Act.put, List.setIfInBounds_toArray, List.set_cons_zero, List.set_cons_succ, i64_w, i32_w]
         rfl
        refine take_ (i := 9) (N := some 21) (v := ?_) (a' := ?_) #[true, true, true, true, true, true, true, true, true, true, false, false, false, false, false] rfl rfl (take_ofW HT_.out HW_.out (by kernel_rfl)) (fun _ _ _ h => h) (Or.inl ⟨by rfl, ?_⟩) hHeld ?_ ?_
        rotate_left
        ·rintro w' ⟨s0, s1⟩
         go_simp
         with_reducible rfl
        rotate_left
        ·simp only [Act.put, List.setIfInBounds_toArray, List.set_cons_zero, List.set_cons_succ, i64_w, i32_w]
         rfl
        refine pure_ (i := 10) (N := some 22) (v := ?_) (a' := ?_) #[true, true, true, true, true, true, true, true, true, true, true, false, false, false, false] rfl rfl (any_of HT_.out (by kernel_rfl)) (fun _ _ _ h => h) (Or.inl ⟨by rfl, ?_⟩) ?_ ?_
        rotate_left
        ·intro w'
         go_simp
         with_reducible rfl
        rotate_left
        ·simp only [Act.put, List.setIfInBounds_toArray, List.set_cons_zero, List.set_cons_succ, i64_w, i32_w]
         rfl
        refine pure_ (i := 11) (N := some 23) (v := ?_) (a' := ?_) #[true, true, true, true, true, true, true, true, true, true, true, true, false, false, false] rfl rfl (any_of HT_.out (by kernel_rfl)) (fun _ _ _ h => h) (Or.inl ⟨by rfl, ?_⟩) ?_ ?_
        rotate_left
        ·intro w'
         go_simp
         with_reducible rfl
        rotate_left
        ·simp only [Act.put, List.setIfInBounds_toArray, List.set_cons_zero, List.set_cons_succ, i64_w, i32_w]
         rfl
        refine one_ (i := 12) (N := some 24) #[true, true, true, true, true, true, true, true, true, true, true, true, true, false, false] rfl rfl (one_of HT_.out (by kernel_rfl)) (by decide) (fun K hK => ?_)
        refine value_ (w1 := ?_) (v := ?_) (by rfl) rfl ?_ ?_
        rotate_left 2
        ·go_simp
         constructor
         ·rfl
         ·rfl
        refine hK.out _ _ ⟨(World.cell?_alloc_lt _ _ _ (World.block_lt_of_cell? _ _ (((HB.out.cell (World.block_lt_of_cell? w _ hw128_0)).trans hw128_0)))).trans (((HB.out.cell (World.block_lt_of_cell? w _ hw128_0)).trans hw128_0)), (World.cell?_alloc_lt _ _ _ (World.block_lt_of_cell? _ _ (((HB.out.cell (World.block_lt_of_cell? w _ hw129_0)).trans hw129_0)))).trans (((HB.out.cell (World.block_lt_of_cell? w _ hw129_0)).trans hw129_0))⟩ (fun hHeld => ?_)
        clear hK K
        refine norm_ (a' := ?_) ?_ ?_
        rotate_left
        ·show Act.put _ (some 24) _ = _
         simp only [Act.put, List.setIfInBounds_toArray, List.set_cons_zero, List.set_cons_succ, i64_w, i32_w]
         rfl
        refine one_ (i := 13) (N := some 25) #[true, true, true, true, true, true, true, true, true, true, true, true, true, true, false] rfl rfl (one_of HT_.out (by kernel_rfl)) (by decide) (fun K hK => ?_)
        refine Kd.R_append_step (Kd.int .u64) (w0 := w) w.heap.size (by rfl) (.tmp 12) (.tmp 24) 22 33 (.int .u64 0) 8 rfl Try.underlying22 info33 rfl (by decide) (by omega) u3 x3_1 (IntKind.u64.wrap ((rd l0 x4_1) + (IntKind.u64.wrap ((rd l0 (ji5)) * 4294967296)))) [.int .u64 (IntKind.u64.wrap ((rd l0 x4_1) + (IntKind.u64.wrap ((rd l0 (ji5)) * 4294967296))))] (fun _ => True) (fun _ => False) rfl rfl ?aP (fun _ hk => hk.elim) ?aF ?aO ?aB ?aS ?aL ?_
        (case aP => exact rfl)
        (case aB => exact (by repeat (first | (with_reducible first | exact HB.out | apply below_alloc | apply pw_below_drewN | apply below_drew1) | exact HB.out)))
        (case aF => exact (fun _ _ => trivial))
        (case aO => exact (by (with_reducible repeat (first | apply Kd.R_alloc | apply Kd.R_drewN | apply Kd.R_drew)); exact HO_3.out))
        (case aS => exact (below_size (by repeat (first | (with_reducible first | exact HB.out | apply below_alloc | apply pw_below_drewN | apply below_drew1) | exact HB.out))))
        (case aL => have := LMc7.out; omega)
        intro v131 w9 ho hb hg hat
        rw [← Ny130.out] at ho
        have n0_ := Aside0.mk (hb)
        have n1_ := Aside0.mk (ho)
        clear HB
        clear HO_3
        have HB := n0_
        have HO132 := n1_
        clear n0_ n1_
        clear ho hb hg hat
        refine hK.out _ _ ⟨((HB.out.cell (World.block_lt_of_cell? w _ hw128_0)).trans hw128_0), ((HB.out.cell (World.block_lt_of_cell? w _ hw129_0)).trans hw129_0)⟩ (fun hHeld => ?_)
        clear hK K
        refine norm_ (a' := ?_) ?_ ?_
        rotate_left
        ·show Act.put _ (some 25) _ = _
         simp only [Act.put, List.setIfInBounds_toArray, List.set_cons_zero, List.set_cons_succ, i64_w, i32_w]
         rfl
        refine pure_ (i := 14) (N := some 3) (v := ?_) (a' := ?_) #[true, true, true, true, true, true, true, true, true, true, true, true, true, true, true] rfl rfl (any_of HT_.out (by kernel_rfl)) (fun _ _ _ h => h) (Or.inl ⟨by rfl, ?_⟩) ?_ ?_
        rotate_left
        ·intro w'
         go_simp
         with_reducible rfl
        rotate_left
        ·simp only [Act.put, List.setIfInBounds_toArray, List.set_cons_zero, List.set_cons_succ, i64_w, i32_w]
         rfl
        refine done_ (done_of HT_.out (by kernel_rfl)) ?_
        try go_wp2
        go_roundg k1
        case measure => have := HK1.out; omega
        case rel => exact ⟨(y130), (wrap64 (x4_1 + 2)), (by first | rfl | (simp; done) | (simp [*]; done)), H', ⟨by have := HK1.out; omega⟩, ⟨by (with_reducible repeat (first | apply Kd.R_alloc | apply Kd.R_drewN | apply Kd.R_drew)); exact HO132.out⟩, ⟨by repeat (first | (with_reducible first | exact HB.out | apply below_alloc | apply pw_below_drewN | apply below_drew1) | exact HB.out)⟩⟩
       ·rw [if_neg c7] at H
        exact absurd H (by simp)
      ·rw [if_neg c6] at H
       exact absurd H (by simp)
     ·rw [if_neg c4] at H
      exact absurd H (by simp)
    ·rw [if_neg c3] at H
     exact absurd H (by simp)
   ·rw [if_neg c2] at H
    have c2b0 : decide ((wrap64 (x4_1 + 1)) < (l0.length : Int)) = false := decide_eq_false c2
    clear c2
    obtain rfl := Option.some.inj H
    go_wp2
    go_ret
    exact ⟨_, by first | rfl | (simp [errW_none, errW_some] <;> rfl) | (simp [*, errW_none, errW_some] <;> rfl), by (with_reducible repeat (first | apply Kd.R_alloc | apply Kd.R_drewN | apply Kd.R_drew)); exact HO_3.out, by repeat (first | (with_reducible first | exact HB.out | apply below_alloc | apply pw_below_drewN | apply below_drew1) | exact HB.out)⟩
/-! ### reckonerref01_Cut: function 88 -/
def reckonerref01_Cut.l0 : Nat → Int → List Int → Option (List Int × Int)
  | 0, _, _ => none
  | k + 1, x1, x6 => if (x6.length : Int) < (wrap64 ((wrap64 (2 * x1)) + 2)) then (if x6.length < 17592186044416 then (reckonerref01_Cut.l0 k x1 (x6 ++ [0])) else (none)) else (if 0 ≤ (wrap64 (2 * x1)) then (if (wrap64 (2 * x1)) ≤ (x6.length : Int) then ((reckonerref01_Row.f k (x6.take ((wrap64 (2 * x1)) : Int).toNat)).bind fun t143 => (if (wrap64 (2 * x1)) < (x6.length : Int) then (if 0 ≤ (wrap64 ((wrap64 (2 * x1)) + 1)) then (if (wrap64 ((wrap64 (2 * x1)) + 1)) < (x6.length : Int) then (some (t143, IntKind.u64.wrap ((rd x6 (wrap64 (2 * x1))) + (IntKind.u64.wrap ((rd x6 (wrap64 ((wrap64 (2 * x1)) + 1))) * 4294967296))))) else (none)) else (none)) else (none))) else (none)) else (none))
def reckonerref01_Cut.f (k : Nat) (l0 : List Int) (a1 : Int) : Option (List Int × Int) := if ([] : List Int).length + l0.length < 17592186044416 then (reckonerref01_Cut.l0 k a1 (([] : List Int) ++ l0)) else (none)
def reckonerref01_Cut.T5 : Bool × List (List Nat × List Nat) := (true, [([], []), ([], []), ([1], [1]), ([0, 2], [0, 2]), ([3], [3]), ([], []), ([], []), ([6], [6]), ([5, 7], [5, 7]), ([8], [8]), ([], []), ([], []), ([11], [11]), ([12], [12]), ([10, 13], [10, 13]), ([14], [14]), ([15], [15]), ([9, 16], [9, 16]), ([4, 4, 0, 1, 2, 3, 4], [4]), ([17, 18, 0, 1, 2, 3, 4, 5, 6, 7, 8, 9, 10, 11, 12, 13, 14, 15, 16, 17, 18], [17])])
def reckonerref01_Cut.B5 : List Nat := [0, 0, 2, 7, 15, 0, 0, 64, 224, 480, 0, 0, 2048, 6144, 15360, 31744, 64512, 131040, 31, 524287]
theorem reckonerref01_Cut.tab5 : rtab .any (opsOf Try.f88 5) = reckonerref01_Cut.T5 := by kernel_rfl
theorem reckonerref01_Cut.bits5 : waitsOk reckonerref01_Cut.T5.2 reckonerref01_Cut.B5 = true := by kernel_rfl
set_option maxHeartbeats 8000000 in
set_option maxRecDepth 100000 in
theorem reckonerref01_Cut.calls (k : Nat) (A0 : Option Addr) (c0 : Nat) (l0 : List Int) (a1 : Int) (r1 : List Int) (r2 : Int) (w : World) (hr0 : Kd.C (Kd.int .u64) w A0 l0.length l0) (hc0 : l0.length ≤ c0) (h : reckonerref01_Cut.f k l0 a1 = some (r1, r2)) :
  Calls Try.prog 88 #[.slice A0 l0.length c0, .int .i64 a1] w fun e w' => ∃ v0_ : Value, e = .returned (.tuple #[v0_, .int .u64 r2]) ∧ Kd.R (Kd.int .u64) 33 w' w.heap.size (fun _ => True) v0_ r1 ∧ Below w.heap.size w w' := by
 have HR0 := Aside0.mk hr0
 have HC0 := Aside0.mk hc0
 clear hr0 hc0
 have HB := Aside0.mk (Below.refl w.heap.size w)
 have H : (if ([] : List Int).length + l0.length < 17592186044416 then (reckonerref01_Cut.l0 k a1 (([] : List Int) ++ l0)) else (none)) = some (r1, r2) := h
 clear h
 by_cases c3 : ([] : List Int).length + l0.length < 17592186044416
 ·rw [if_pos c3] at H
  have LMc3 := Aside0.mk c3
  clear c3
  obtain ⟨y133, hy133⟩ : ∃ y_ : List Int, y_ = (([] : List Int) ++ l0) := ⟨_, rfl⟩
  replace H : (reckonerref01_Cut.l0 k a1 y133) = some (r1, r2) := by first | (rw [hy133]; with_reducible exact H) | (have H2_ := (Option.bind_some _ _).symm.trans H; rw [hy133]; with_reducible exact H2_) | (have H2_ := (Option.bind_some _ _).symm.trans H; with_reducible exact H2_) | with_reducible exact H | (rw [hy133]; exact H) | exact H
  have Ny133 := Aside0.mk hy133
  clear hy133
  have H' := Aside0.mk H
  clear H
  go_enter Try.func88, Try.ntmps88
  try simp only [List.append]
  go_wp2_with (first | ((with_reducible refine gate_builtin (b := .append) (xs := #[.tmp 7, .tmp 8]) rfl ?_); at_builtin; refine Kd.R_append_rows (Kd.int .u64) (w0 := w) w.heap.size rfl (.tmp 7) (.tmp 8) 22 33 (.int .u64 0) 8 rfl Try.underlying22 info33 rfl (by decide) (by omega) (.slice none 0 0) ([] : List Int) l0 _ _ _ (fun _ => True) (fun _ => False) rfl rfl ?aO ?aR (fun _ _ h => h) (fun _ h => h.elim) ?aF ?aB ?aS ?aL ?_; (case aR => repeat (first | exact HR0.out | (with_reducible refine Kd.C_alloc ?_ _) | (with_reducible refine Kd.C_drewN ?_ _) | (with_reducible refine Kd.C_drew ?_))); (case aB => exact (by repeat (first | (with_reducible first | exact HB.out | apply below_alloc | apply pw_below_drewN | apply below_drew1) | exact HB.out))); (case aF => exact (fun _ _ => trivial)); (case aO => exact ((Kd.R_nil _ _ _ _ (fun _ => True)))); (case aS => exact (below_size (by repeat (first | (with_reducible first | exact HB.out | apply below_alloc | apply pw_below_drewN | apply below_drew1) | exact HB.out)))); (case aL => have := LMc3.out; omega); intro v134 w4 ho hb hg hat; rw [← Ny133.out] at ho; have n0_ := Aside0.mk (hb); have n1_ := Aside0.mk (ho); clear HB; have HB := n0_; have HO135 := n1_; clear n0_ n1_; clear ho hb hg hat))
  go_loopg [6] k (fun kq v6 w' => ∃ (x6_1 : List Int), Aside0 (reckonerref01_Cut.l0 kq a1 x6_1 = some (r1, r2)) ∧ Aside0 (kq ≤ k) ∧ Aside0 (Kd.R (Kd.int .u64) 33 w' w.heap.size (fun _ => True) v6 x6_1) ∧ Aside0 (Below w.heap.size w w'))
  case atStart => exact ⟨(y133), H', ⟨Nat.le_refl _⟩, ⟨by (with_reducible repeat (first | apply Kd.R_alloc | apply Kd.R_drewN | apply Kd.R_drew)); exact HO135.out⟩, ⟨by repeat (first | (with_reducible first | exact HB.out | apply below_alloc | apply pw_below_drewN | apply below_drew1) | exact HB.out)⟩⟩
  case round =>
   clear H'
   try clear p2
   try clear c3
   obtain ⟨x6_1, HA, HK1, HO_6, HB⟩ := hrel
   cases gk with
   | zero => exact absurd HA.out (by simp [reckonerref01_Cut.l0])
   | succ k1 =>
    have H := HA.out
    clear HA
    simp only [reckonerref01_Cut.l0] at H
    by_cases c5 : (x6_1.length : Int) < (wrap64 ((wrap64 (2 * a1)) + 2))
    ·rw [if_pos c5] at H
     have c5b0 : decide ((x6_1.length : Int) < (wrap64 ((wrap64 (2 * a1)) + 2))) = true := decide_eq_true c5
     clear c5
     by_cases c6 : x6_1.length < 17592186044416
     ·rw [if_pos c6] at H
      have LMc6 := Aside0.mk c6
      clear c6
      obtain ⟨y136, hy136⟩ : ∃ y_ : List Int, y_ = (x6_1 ++ [0]) := ⟨_, rfl⟩
      replace H : (reckonerref01_Cut.l0 k1 a1 y136) = some (r1, r2) := by first | (rw [hy136]; with_reducible exact H) | (have H2_ := (Option.bind_some _ _).symm.trans H; rw [hy136]; with_reducible exact H2_) | (have H2_ := (Option.bind_some _ _).symm.trans H; with_reducible exact H2_) | with_reducible exact H | (rw [hy136]; exact H) | exact H
      have Ny136 := Aside0.mk hy136
      clear hy136
      have H' := Aside0.mk H
      clear H
      obtain ⟨Ao7, co7, eo7⟩ := Kd.R_slice HO_6.out
      subst eo7
      go_wp2_with (first | ((with_reducible refine gate_builtin (b := .append) (xs := #[.tmp 16, .tmp 17]) rfl ?_); at_builtin; refine Kd.R_append (Kd.int .u64) (w0 := w) w.heap.size rfl (.tmp 16) (.tmp 17) 22 33 (.int .u64 0) 8 rfl Try.underlying22 info33 rfl (by decide) (by omega) (.slice Ao7 x6_1.length co7) x6_1 0 [.int .u64 0] (fun _ => True) (fun _ => False) rfl rfl ?aP (fun _ hk => hk.elim) ?aF ?aO ?aB ?aS ?aL ?_; (case aP => exact rfl); (case aB => exact (by repeat (first | (with_reducible first | exact HB.out | apply below_alloc | apply pw_below_drewN | apply below_drew1) | exact HB.out))); (case aF => exact (fun _ _ => trivial)); (case aO => exact (by (with_reducible repeat (first | apply Kd.R_alloc | apply Kd.R_drewN | apply Kd.R_drew)); exact HO_6.out)); (case aS => exact (below_size (by repeat (first | (with_reducible first | exact HB.out | apply below_alloc | apply pw_below_drewN | apply below_drew1) | exact HB.out)))); (case aL => have := LMc6.out; omega); intro v137 w8 ho hb hg hat; rw [← Ny136.out] at ho; have n0_ := Aside0.mk (hb); have n1_ := Aside0.mk (ho); clear HB; clear HO_6; have HB := n0_; have HO138 := n1_; clear n0_ n1_; clear ho hb hg hat))
      go_roundg k1
      case measure => have := HK1.out; omega
      case rel => exact ⟨(y136), H', ⟨by have := HK1.out; omega⟩, ⟨by (with_reducible repeat (first | apply Kd.R_alloc | apply Kd.R_drewN | apply Kd.R_drew)); exact HO138.out⟩, ⟨by repeat (first | (with_reducible first | exact HB.out | apply below_alloc | apply pw_below_drewN | apply below_drew1) | exact HB.out)⟩⟩
     ·rw [if_neg c6] at H
      exact absurd H (by simp)
    ·rw [if_neg c5] at H
     have c5b0 : decide ((x6_1.length : Int) < (wrap64 ((wrap64 (2 * a1)) + 2))) = false := decide_eq_false c5
     clear c5
     obtain ⟨ji9, hji9⟩ : ∃ j_ : Int, (wrap64 (2 * a1)) = j_ := ⟨_, rfl⟩
     replace H : (if 0 ≤ (ji9) then (if (ji9) ≤ (x6_1.length : Int) then ((reckonerref01_Row.f k1 (x6_1.take ((ji9) : Int).toNat)).bind fun t143 => (if (ji9) < (x6_1.length : Int) then (if 0 ≤ (wrap64 ((ji9) + 1)) then (if (wrap64 ((ji9) + 1)) < (x6_1.length : Int) then (some (t143, IntKind.u64.wrap ((rd x6_1 (ji9)) + (IntKind.u64.wrap ((rd x6_1 (wrap64 ((ji9) + 1))) * 4294967296))))) else (none)) else (none)) else (none))) else (none)) else (none)) = some (r1, r2) := by first | (rw [hji9] at H; exact H) | (simp only [hji9] at H ⊢; exact H)
     (try rw [hji9] at c5b0)
     have hji9w : (IntKind.i64.wrap (2 * a1)) = ji9 := (i64_w _).trans hji9
     by_cases c10 : 0 ≤ (ji9)
     ·rw [if_pos c10] at H
      have c10b0 := eq_true c10
      have c10b1 : decide (0 ≤ (ji9)) = true := decide_eq_true c10
      clear c10
      by_cases c11 : (ji9) ≤ (x6_1.length : Int)
      ·rw [if_pos c11] at H
       have c11b0 := eq_true c11
       have c11b1 : decide ((ji9) ≤ (x6_1.length : Int)) = true := decide_eq_true c11
       clear c11
       obtain ⟨y139, hy139⟩ : ∃ y_ : List Int, y_ = (x6_1.take ((ji9) : Int).toNat) := ⟨_, rfl⟩
       replace H : ((reckonerref01_Row.f k1 y139).bind fun t143 => (if (ji9) < (x6_1.length : Int) then (if 0 ≤ (wrap64 ((ji9) + 1)) then (if (wrap64 ((ji9) + 1)) < (x6_1.length : Int) then (some (t143, IntKind.u64.wrap ((rd x6_1 (ji9)) + (IntKind.u64.wrap ((rd x6_1 (wrap64 ((ji9) + 1))) * 4294967296))))) else (none)) else (none)) else (none))) = some (r1, r2) := by first | (rw [hy139]; with_reducible exact H) | (have H2_ := (Option.bind_some _ _).symm.trans H; rw [hy139]; with_reducible exact H2_) | (have H2_ := (Option.bind_some _ _).symm.trans H; with_reducible exact H2_) | with_reducible exact H | (rw [hy139]; exact H) | exact H
       have Ny139 := Aside0.mk hy139
       clear hy139
       replace H := Option.bind_eq_some_iff.mp H
       obtain ⟨t143, A120, H⟩ := H
       replace H : (if (ji9) < (x6_1.length : Int) then (if 0 ≤ (wrap64 ((ji9) + 1)) then (if (wrap64 ((ji9) + 1)) < (x6_1.length : Int) then (some (t143, IntKind.u64.wrap ((rd x6_1 (ji9)) + (IntKind.u64.wrap ((rd x6_1 (wrap64 ((ji9) + 1))) * 4294967296))))) else (none)) else (none)) else (none)) = some (r1, r2) := H
       have A12 := Aside0.mk A120
       clear A120
       by_cases c13 : (ji9) < (x6_1.length : Int)
       ·rw [if_pos c13] at H
        have c13b0 : decide ((ji9) < (x6_1.length : Int)) = true := decide_eq_true c13
        clear c13
        obtain ⟨ji14, hji14⟩ : ∃ j_ : Int, (wrap64 ((ji9) + 1)) = j_ := ⟨_, rfl⟩
        replace H : (if 0 ≤ (ji14) then (if (ji14) < (x6_1.length : Int) then (some (t143, IntKind.u64.wrap ((rd x6_1 (ji9)) + (IntKind.u64.wrap ((rd x6_1 (ji14)) * 4294967296))))) else (none)) else (none)) = some (r1, r2) := by first | (rw [hji14] at H; exact H) | (simp only [hji14] at H ⊢; exact H)
        (try rw [hji14] at A12)
        have hji14w : (IntKind.i64.wrap ((ji9) + 1)) = ji14 := (i64_w _).trans hji14
        by_cases c15 : 0 ≤ (ji14)
        ·rw [if_pos c15] at H
         have c15b0 : decide (0 ≤ (ji14)) = true := decide_eq_true c15
         clear c15
         by_cases c16 : (ji14) < (x6_1.length : Int)
         ·rw [if_pos c16] at H
          have c16b0 : decide ((ji14) < (x6_1.length : Int)) = true := decide_eq_true c16
          clear c16
          simp only [Option.some.injEq, Prod.mk.injEq] at H
          obtain ⟨rfl, rfl⟩ := H
          obtain ⟨Ao17, co17, eo17⟩ := Kd.R_slice HO_6.out
          subst eo17
          try go_wp2
          have n0_ := Aside0.mk (Kd.R_drew HO_6.out)
          have n1_ := Aside0.mk (below_drew1 HB.out)
          clear HO_6
          clear HB
          have HO_6 := n0_
          have HB := n1_
          clear n0_ n1_
          have q19 : ((ji9) : Int) ≤ ((x6_1.length : Int) : Int) := of_decide_eq_true (by first | (with_reducible assumption) | assumption)
          obtain ⟨i019, hi019, _, hsz19, _⟩ := info_parts info33
          have hroom19 : x6_1.length ≤ co17 := (Kd.R_reads' HO_6.out).2.1
          have hC19 : Kd.C (Kd.int .u64) _ Ao17 x6_1.length x6_1 := (Kd.R_reads' HO_6.out).2.2
          have hcut19 := cut_to (P := Try.prog) 22 33 .i64 Try.underlying22 hi019 Ao17 x6_1.length co17 (ji9) (of_decide_eq_true (by first | (with_reducible assumption) | assumption)) q19 hroom19
          have hr19 := Kd.C_take (m := ((ji9) : Int).toNat) hC19 (by omega)
          have hy19 : y139.length = ((ji9) : Int).toNat := (by rw [Ny139.out, List.length_take]; omega)
          rw [← Ny139.out] at hr19
          rw [← hy19] at hcut19
          have HR142 := Aside0.mk hr19
          have HC142 := Aside0.mk (show y139.length ≤ co17 from by omega)
          clear hr19 hC19 hroom19 hi019 hsz19
          have KY19 := Aside0.mk hy19
          clear hy19
          have KL19 := Aside0.mk (show ((ji9) : Int).toNat ≤ x6_1.length from by omega)
          replace q19 := eq_true q19
          have p146 : 0 ≤ ((ji9) : Int) := of_decide_eq_true (by first | (with_reducible assumption) | assumption)
          have q146 : (ji9) < (x6_1.length : Int) := of_decide_eq_true (by first | (with_reducible assumption) | assumption)
          obtain ⟨ad146, e146, hx146_0⟩ := Kd.at_int (Kd.R_reads' HO_6.out).2.2 (ji9) p146 q146
          cases e146
          replace p146 := eq_true p146
          replace q146 := eq_true q146
          have p147 : 0 ≤ ((ji14) : Int) := of_decide_eq_true (by first | (with_reducible assumption) | assumption)
          have q147 : (ji14) < (x6_1.length : Int) := of_decide_eq_true (by first | (with_reducible assumption) | assumption)
          obtain ⟨ad147, e147, hx147_0⟩ := Kd.at_int (Kd.R_reads' HO_6.out).2.2 (ji14) p147 q147
          obtain rfl : ad146 = ad147 := (by injection e147)
          replace p147 := eq_true p147
          replace q147 := eq_true q147
          refine start_ (n := 20) (S := fun w' => w'.cell? (ad146.add ((ji9)).toNat) = some (.int .u64 (rd x6_1 (ji9))) ∧ w'.cell? (ad146.add ((ji14)).toNat) = some (.int .u64 (rd x6_1 (ji14)))) (ds := []) #[false, false, false, false, false, false, false, false, false, false, false, false, false, false, false, false, false, false, false, false] (by kernel_rfl) rfl rfl ⟨hx146_0, hx147_0⟩ (fun hHeld => ?_); refine with_tabW reckonerref01_Cut.tab5 reckonerref01_Cut.bits5 (fun HT_ HW_ => ?_)
          generalize wr.drew = w18 at HO_6 HB HR142 hx146_0 hx147_0 hHeld ⊢
          refine pure_ (i := 0) (N := some 19) (v := ?_) (a' := ?_) #[true, false, false, false, false, false, false, false, false, false, false, false, false, false, false, false, false, false, false, false] rfl rfl (any_of HT_.out (by kernel_rfl)) (fun _ _ _ h => h) (Or.inl ⟨by rfl, ?_⟩) ?_ ?_
          rotate_left
          ·intro w'
           go_simp
           with_reducible rfl
          rotate_left
          ·simp only [Act.put, List.setIfInBounds_toArray, List.set_cons_zero, List.set_cons_succ, i64_w, i32_w]
           rfl
          refine pure_ (i := 1) (N := some 20) (v := ?_) (a' := ?_) #[true, true, false, false, false, false, false, false, false, false, false, false, false, false, false, false, false, false, false, false] rfl rfl (any_of HT_.out (by kernel_rfl)) (fun _ _ _ h => h) (Or.inl ⟨by rfl, ?_⟩) ?_ ?_
          rotate_left
          ·intro w'
           go_simp
           with_reducible rfl
          rotate_left
          ·simp only [Act.put, List.setIfInBounds_toArray, List.set_cons_zero, List.set_cons_succ, i64_w, i32_w]
           rfl
          refine pure_ (i := 2) (N := some 21) (v := ?_) (a' := ?_) #[true, true, true, false, false, false, false, false, false, false, false, false, false, false, false, false, false, false, false, false] rfl rfl (any_of HT_.out (by kernel_rfl)) (fun _ _ _ h => h) (Or.inl ⟨by rfl, ?_⟩) ?_ ?_
          rotate_left
          ·intro w'
           go_simp
           with_reducible rfl
          rotate_left
          ·simp only [Act.put, List.setIfInBounds_toArray, List.set_cons_zero, List.set_cons_succ, i64_w, i32_w]
           rfl
          refine pure_ (i := 3) (N := some 22) (v := ?_) (a' := ?_) #[true, true, true, true, false, false, false, false, false, false, false, false, false, false, false, false, false, false, false, false] rfl rfl (any_of HT_.out (by kernel_rfl)) (fun _ _ _ h => h) (Or.inl ⟨by rfl, ?_⟩) ?_ ?_
          rotate_left
          ·intro w'
           go_simp
           with_reducible rfl
          rotate_left
          ·simp only [Act.put, List.setIfInBounds_toArray, List.set_cons_zero, List.set_cons_succ, i64_w, i32_w]
           rfl
          refine pure_ (i := 5) (N := some 24) (v := ?_) (a' := ?_) #[true, true, true, true, false, true, false, false, false, false, false, false, false, false, false, false, false, false, false, false] rfl rfl (any_of HT_.out (by kernel_rfl)) (fun _ _ _ h => h) (Or.inl ⟨by rfl, ?_⟩) ?_ ?_
          rotate_left
          ·intro w'
           go_simp
           with_reducible rfl
          rotate_left
          ·simp only [Act.put, List.setIfInBounds_toArray, List.set_cons_zero, List.set_cons_succ, i64_w, i32_w]
           rfl
          refine pure_ (i := 6) (N := some 25) (v := ?_) (a' := ?_) #[true, true, true, true, false, true, true, false, false, false, false, false, false, false, false, false, false, false, false, false] rfl rfl (any_of HT_.out (by kernel_rfl)) (fun _ _ _ h => h) (Or.inl ⟨by rfl, ?_⟩) ?_ ?_
          rotate_left
          ·intro w'
           go_simp
           with_reducible rfl
          rotate_left
          ·simp only [Act.put, List.setIfInBounds_toArray, List.set_cons_zero, List.set_cons_succ, i64_w, i32_w]
           rfl
          refine pure_ (i := 7) (N := some 26) (v := ?_) (a' := ?_) #[true, true, true, true, false, true, true, true, false, false, false, false, false, false, false, false, false, false, false, false] rfl rfl (any_of HT_.out (by kernel_rfl)) (fun _ _ _ h => h) (Or.inl ⟨by rfl, ?_⟩) ?_ ?_
          rotate_left
          ·intro w'
           go_simp
           with_reducible rfl
          rotate_left
          ·simp only [Act.put, List.setIfInBounds_toArray, List.set_cons_zero, List.set_cons_succ, i64_w, i32_w]
           rfl
          refine pure_ (i := 8) (N := some 27) (v := ?_) (a' := ?_) #[true, true, true, true, false, true, true, true, true, false, false, false, false, false, false, false, false, false, false, false] rfl rfl (any_of HT_.out (by kernel_rfl)) (fun _ _ _ h => h) (Or.inl ⟨by rfl, ?_⟩) ?_ ?_
          rotate_left
          ·intro w'
           go_simp
           with_reducible rfl
          rotate_left
          ·simp only [Act.put, List.setIfInBounds_toArray, List.set_cons_zero, List.set_cons_succ, i64_w, i32_w]
           rfl
          refine pure_ (i := 10) (N := some 29) (v := ?_) (a' := ?_) #[true, true, true, true, false, true, true, true, true, false, true, false, false, false, false, false, false, false, false, false] rfl rfl (any_of HT_.out (by kernel_rfl)) (fun _ _ _ h => h) (Or.inl ⟨by rfl, ?_⟩) ?_ ?_
          rotate_left
          ·intro w'
           go_simp
           with_reducible rfl
          rotate_left
          ·simp only [Act.put, List.setIfInBounds_toArray, List.set_cons_zero, List.set_cons_succ, i64_w, i32_w]
           rfl
          refine pure_ (i := 11) (N := some 30) (v := ?_) (a' := ?_) #[true, true, true, true, false, true, true, true, true, false, true, true, false, false, false, false, false, false, false, false] rfl rfl (any_of HT_.out (by kernel_rfl)) (fun _ _ _ h => h) (Or.inl ⟨by rfl, ?_⟩) ?_ ?_
          rotate_left
          ·intro w'
           go_simp
           with_reducible rfl
          rotate_left
          ·simp only [Act.put, List.setIfInBounds_toArray, List.set_cons_zero, List.set_cons_succ, i64_w, i32_w]
           rfl
          refine pure_ (i := 12) (N := some 31) (v := ?_) (a' := ?_) #[true, true, true, true, false, true, true, true, true, false, true, true, true, false, false, false, false, false, false, false] rfl rfl (any_of HT_.out (by kernel_rfl)) (fun _ _ _ h => h) (Or.inl ⟨by rfl, ?_⟩) ?_ ?_
          rotate_left
          ·intro w'
           go_simp
           with_reducible rfl
          rotate_left
          ·simp only [Act.put, List.setIfInBounds_toArray, List.set_cons_zero, List.set_cons_succ, i64_w, i32_w]
           rfl
          refine pure_ (i := 13) (N := some 32) (v := ?_) (a' := ?_) #[true, true, true, true, false, true, true, true, true, false, true, true, true, true, false, false, false, false, false, false] rfl rfl (any_of HT_.out (by kernel_rfl)) (fun _ _ _ h => h) (Or.inl ⟨by rfl, ?_⟩) ?_ ?_
          rotate_left
          ·intro w'
           go_simp
           with_reducible rfl
          rotate_left
          ·simp only [Act.put, List.setIfInBounds_toArray, List.set_cons_zero, List.set_cons_succ, i64_w, i32_w]
           rfl
          refine pure_ (i := 14) (N := some 33) (v := ?_) (a' := ?_) #[true, true, true, true, false, true, true, true, true, false, true, true, true, true, true, false, false, false, false, false] rfl rfl (any_of HT_.out (by kernel_rfl)) (fun _ _ _ h => h) (Or.inl ⟨by rfl, ?_⟩) ?_ ?_
          rotate_left
          ·intro w'
           go_simp
           with_reducible rfl
          rotate_left
          ·simp only [Act.put, List.setIfInBounds_toArray, List.set_cons_zero, List.set_cons_succ, i64_w, i32_w]
           rfl
          refine take_ (i := 9) (N := some 28) (v := ?_) (a' := ?_) #[true, true, true, true, false, true, true, true, true, true, true, true, true, true, true, false, false, false, false, false] rfl rfl (take_ofW HT_.out HW_.out (by kernel_rfl)) (fun _ _ _ h => h) (Or.inl ⟨by rfl, ?_⟩) hHeld ?_ ?_
          rotate_left
          ·rintro w' ⟨s0, s1⟩
           go_simp
           with_reducible rfl
          rotate_left
          ·simp only [Act.put, List.setIfInBounds_toArray, List.set_cons_zero, List.set_cons_succ, i64_w, i32_w]
           rfl
          refine take_ (i := 15) (N := some 34) (v := ?_) (a' := ?_) #[true, true, true, true, false, true, true, true, true, true, true, true, true, true, true, true, false, false, false, false] rfl rfl (take_ofW HT_.out HW_.out (by kernel_rfl)) (fun _ _ _ h => h) (Or.inl ⟨by rfl, ?_⟩) hHeld ?_ ?_
          rotate_left
          ·rintro w' ⟨s0, s1⟩
           go_simp
           with_reducible rfl
          rotate_left
          ·simp only [Act.put, List.setIfInBounds_toArray, List.set_cons_zero, List.set_cons_succ, i64_w, i32_w]
           rfl
          refine pure_ (i := 16) (N := some 35) (v := ?_) (a' := ?_) #[true, true, true, true, false, true, true, true, true, true, true, true, true, true, true, true, true, false, false, false] rfl rfl (any_of HT_.out (by kernel_rfl)) (fun _ _ _ h => h) (Or.inl ⟨by rfl, ?_⟩) ?_ ?_
          rotate_left
          ·intro w'
           go_simp
           with_reducible rfl
          rotate_left
          ·simp only [Act.put, List.setIfInBounds_toArray, List.set_cons_zero, List.set_cons_succ, i64_w, i32_w]
           rfl
          refine pure_ (i := 17) (N := some 36) (v := ?_) (a' := ?_) #[true, true, true, true, false, true, true, true, true, true, true, true, true, true, true, true, true, true, false, false] rfl rfl (any_of HT_.out (by kernel_rfl)) (fun _ _ _ h => h) (Or.inl ⟨by rfl, ?_⟩) ?_ ?_
          rotate_left
          ·intro w'
           go_simp
           with_reducible rfl
          rotate_left
          ·simp only [Act.put, List.setIfInBounds_toArray, List.set_cons_zero, List.set_cons_succ, i64_w, i32_w]
           rfl
          refine one_ (i := 4) (N := some 23) #[true, true, true, true, true, true, true, true, true, true, true, true, true, true, true, true, true, true, false, false] rfl rfl (one_of HT_.out (by kernel_rfl)) (by decide) (fun K hK => ?_)
          refine goes_ Try.func103 (by kernel_rfl) rfl #[.slice (some ad146) y139.length co17] (by rfl) rfl rfl (by (try simp only [List.map_toArray, List.map_cons, List.map_nil]); first | done | rfl | (simp only [List.length_drop, List.length_take]; rfl)) ?_
          with_reducible refine (reckonerref01_Row.calls k1 _ _ y139 t143 _ ?side1 ?side2 A12.out).mono ?_
          (case side1 => repeat (first | exact (by repeat (first | (with_reducible exact HR142.out) | (with_reducible refine Kd.C_alloc ?_ _) | (with_reducible refine Kd.C_drewN ?_ _) | (with_reducible refine Kd.C_drew ?_) | exact HR142.out)) | (with_reducible refine Kd.C_alloc ?_ _) | (with_reducible refine Kd.C_drewN ?_ _) | (with_reducible refine Kd.C_drew ?_)))
          (case side2 => exact HC142.out)
          rintro e w20 ⟨v144, rfl, ho0, hb⟩
          have HS0_ := (hb.cell (World.block_lt_of_cell? _ _ (hHeld.1))).trans (hHeld.1)
          have HS1_ := (hb.cell (World.block_lt_of_cell? _ _ (hHeld.2))).trans (hHeld.2)
          refine ⟨_, rfl, ?_⟩
          have n0_ := Aside0.mk (Kd.R_elder' (by (with_reducible repeat (first | apply Kd.R_alloc | apply Kd.R_drewN | apply Kd.R_drew)); exact HO_6.out) (Kd.R_base ho0) hb)
          have n1_ := Aside0.mk (Kd.R_lower (Kd.R_new' ho0 (Kd.R_lt (by (with_reducible repeat (first | apply Kd.R_alloc | apply Kd.R_drewN | apply Kd.R_drew)); exact HO_6.out))) (below_size (by repeat (first | (with_reducible first | exact HB.out | apply below_alloc | apply pw_below_drewN | apply below_drew1) | exact HB.out))))
          have n2_ := Aside0.mk (Kd.C_below (by repeat (first | (with_reducible exact HR142.out) | (with_reducible refine Kd.C_alloc ?_ _) | (with_reducible refine Kd.C_drewN ?_ _) | (with_reducible refine Kd.C_drew ?_) | exact HR142.out)) hb)
          have n3_ := Aside0.mk (below_step (by repeat (first | (with_reducible first | exact HB.out | apply below_alloc | apply pw_below_drewN | apply below_drew1) | exact HB.out)) hb)
          clear HO_6
          clear HR142
          clear HB
          have HO_6 := n0_
          have HO145 := n1_
          have HR142 := n2_
          have HB := n3_
          clear n0_ n1_ n2_ n3_
          (try clear hb)
          (try clear hb2)
          (try clear hk)
          (try clear hi)
          (try clear ho0)
          refine hK.out _ _ ⟨HS0_, HS1_⟩ (fun hHeld => ?_)
          clear hK K
          refine norm_ (a' := ?_) ?_ ?_
          rotate_left
          ·show Act.put _ (some 23) _ = _
           simp only [Act.put, List.setIfInBounds_toArray, List.set_cons_zero, List.set_cons_succ, i64_w, i32_w]
           rfl
          refine pure_ (i := 18) (N := some 4) (v := ?_) (a' := ?_) #[true, true, true, true, true, true, true, true, true, true, true, true, true, true, true, true, true, true, true, false] rfl rfl (any_of HT_.out (by kernel_rfl)) (fun _ _ _ h => h) (Or.inl ⟨by rfl, ?_⟩) ?_ ?_
          rotate_left
          ·intro w'
           go_simp
           with_reducible rfl
          rotate_left
          ·simp only [Act.put, List.setIfInBounds_toArray, List.set_cons_zero, List.set_cons_succ, i64_w, i32_w]
           rfl
          refine pure_ (i := 19) (N := some 5) (v := ?_) (a' := ?_) #[true, true, true, true, true, true, true, true, true, true, true, true, true, true, true, true, true, true, true, true] rfl rfl (any_of HT_.out (by kernel_rfl)) (fun _ _ _ h => h) (Or.inl ⟨by rfl, ?_⟩) ?_ ?_
          rotate_left
          ·intro w'
           go_simp
           with_reducible rfl
          rotate_left
          ·simp only [Act.put, List.setIfInBounds_toArray, List.set_cons_zero, List.set_cons_succ, i64_w, i32_w]
           rfl
          refine done_ (done_of HT_.out (by kernel_rfl)) ?_
          try go_wp2
          go_ret2
          exact ⟨_, by first | rfl | (simp [errW_none, errW_some] <;> rfl) | (simp only [← hji9, ← hji14]; first | rfl | (simp [errW_none, errW_some] <;> rfl)) | (simp [*, errW_none, errW_some] <;> rfl), by (with_reducible repeat (first | apply Kd.R_alloc | apply Kd.R_drewN | apply Kd.R_drew)); exact Kd.R_mono HO145.out (fun _ hk => trivial), by repeat (first | (with_reducible first | exact HB.out | apply below_alloc | apply pw_below_drewN | apply below_drew1) | exact HB.out)⟩
         ·rw [if_neg c16] at H
          exact absurd H (by simp)
        ·rw [if_neg c15] at H
         exact absurd H (by simp)
       ·rw [if_neg c13] at H
        exact absurd H (by simp)
      ·rw [if_neg c11] at H
       exact absurd H (by simp)
     ·rw [if_neg c10] at H
      exact absurd H (by simp)
 ·rw [if_neg c3] at H
  exact absurd H (by simp)
/-! ### reckonerref02_nat: function 58 -/
def reckonerref02_nat.f (k : Nat) (l0 : List Int) : Option (List Int) := (reckonerref01_Short.f k l0).bind fun t148 => ((reckonerref01_Cut.f k t148 (wrap64 (Int.tdiv (wrap64 ((t148.length : Int) + 1)) 2))).bind fun bt151 => (some bt151.1))
set_option maxHeartbeats 8000000 in
set_option maxRecDepth 100000 in
theorem reckonerref02_nat.calls (k : Nat) (A0 : Option Addr) (c0 : Nat) (l0 : List Int) (r : List Int) (w : World) (hr0 : Kd.C (Kd.int .u64) w A0 l0.length l0) (hc0 : l0.length ≤ c0) (h : reckonerref02_nat.f k l0 = some r) :
  Calls Try.prog 58 #[.slice A0 l0.length c0] w fun e w' => ∃ v0_ : Value, e = .returned (v0_) ∧ Kd.R (Kd.int .u64) 33 w' w.heap.size (fun _ => True) v0_ r ∧ Below w.heap.size w w' := by
 have HR0 := Aside0.mk hr0
 have HC0 := Aside0.mk hc0
 clear hr0 hc0
 have HB := Aside0.mk (Below.refl w.heap.size w)
 have H : ((reckonerref01_Short.f k l0).bind fun t148 => ((reckonerref01_Cut.f k t148 (wrap64 (Int.tdiv (wrap64 ((t148.length : Int) + 1)) 2))).bind fun bt151 => (some bt151.1))) = some r := h
 clear h
 replace H := Option.bind_eq_some_iff.mp H
 obtain ⟨t148, A20, H⟩ := H
 replace H : ((reckonerref01_Cut.f k t148 (wrap64 (Int.tdiv (wrap64 ((t148.length : Int) + 1)) 2))).bind fun bt151 => (some bt151.1)) = some r := H
 have A2 := Aside0.mk A20
 clear A20
 replace H := Option.bind_eq_some_iff.mp H
 obtain ⟨⟨t151, t152⟩, A30, H⟩ := H
 replace H : (some t151) = some r := H
 have A3 := Aside0.mk A30
 clear A30
 obtain rfl := Option.some.inj H
 go_enter Try.func58, Try.ntmps58
 go_wp2_with (first | ((with_reducible refine gate_callee (f := 86) rfl ?_); refine goesL_ (some 7) rfl rfl Try.func86 (by kernel_rfl) rfl #[.slice A0 l0.length c0] rfl (by (try simp only [List.map_toArray, List.map_cons, List.map_nil]); first | done | rfl | (simp only [List.length_drop, List.length_take]; rfl)) ?_; (with_reducible refine (reckonerref01_Short.calls k (fun k_ => k_ < w.heap.size) _ _ l0 t148 _ ?side1 A2.out).mono ?_); (case side1 => exact Kd.V_mk HC0.out (Kd.F_below (Kd.C_F (Kd.heap_int .u64) HR0.out) (by repeat (first | (with_reducible first | exact HB.out | apply below_alloc | apply pw_below_drewN | apply below_drew1) | exact HB.out)))); rintro e w4 ⟨v149, rfl, ho0, hb⟩; refine ⟨_, rfl, ?_⟩; have n0_ := Aside0.mk (Kd.V_lower (Kd.V_mono (ok' := fun k_ => True) ho0 (fun k_ hk_ => trivial)) (below_size (by repeat (first | (with_reducible first | exact HB.out | apply below_alloc | apply pw_below_drewN | apply below_drew1) | exact HB.out)))); have n1_ := Aside0.mk (below_step (by repeat (first | (with_reducible first | exact HB.out | apply below_alloc | apply pw_below_drewN | apply below_drew1) | exact HB.out)) hb); clear HB; have HO150 := n0_; have HB := n1_; clear n0_ n1_; (try clear hb); (try clear hb2); (try clear hk); (try clear hi); (try clear ho0); obtain ⟨Ao5, co5, eo5⟩ := Kd.V_slice HO150.out; subst eo5) | ((with_reducible refine gate_callee (f := 88) rfl ?_); refine goesL_ (some 15) rfl rfl Try.func88 (by kernel_rfl) rfl #[.slice Ao5 t148.length co5, .int .i64 (wrap64 (Int.tdiv (wrap64 ((t148.length : Int) + 1)) 2))] rfl (by (try simp only [List.map_toArray, List.map_cons, List.map_nil]); first | done | rfl | (simp only [List.length_drop, List.length_take]; rfl)) ?_; (with_reducible refine (reckonerref01_Cut.calls k _ _ t148 (wrap64 (Int.tdiv (wrap64 ((t148.length : Int) + 1)) 2)) t151 t152 _ ?side1 ?side2 A3.out).mono ?_); (case side1 => repeat (first | exact (Kd.V_reads' HO150.out).2.2 | (with_reducible refine Kd.C_alloc ?_ _) | (with_reducible refine Kd.C_drewN ?_ _) | (with_reducible refine Kd.C_drew ?_))); (case side2 => exact (Kd.V_reads' HO150.out).2.1); rintro e w6 ⟨v153, rfl, ho0, hb⟩; refine ⟨_, rfl, ?_⟩; have n0_ := Aside0.mk (Kd.V_elder' (by (with_reducible repeat (first | apply Kd.V_alloc | apply Kd.V_drewN | apply Kd.V_drew)); exact HO150.out) (Kd.R_base ho0) hb); have n1_ := Aside0.mk (Kd.R_lower ho0 (below_size (by repeat (first | (with_reducible first | exact HB.out | apply below_alloc | apply pw_below_drewN | apply below_drew1) | exact HB.out)))); have n2_ := Aside0.mk (below_step (by repeat (first | (with_reducible first | exact HB.out | apply below_alloc | apply pw_below_drewN | apply below_drew1) | exact HB.out)) hb); clear HO150; clear HB; have HO150 := n0_; have HO154 := n1_; have HB := n2_; clear n0_ n1_ n2_; (try clear hb); (try clear hb2); (try clear hk); (try clear hi); (try clear ho0)))
 go_ret
 exact ⟨_, by first | rfl | (simp [errW_none, errW_some] <;> rfl) | (simp [*, errW_none, errW_some] <;> rfl), by (with_reducible repeat (first | apply Kd.R_alloc | apply Kd.R_drewN | apply Kd.R_drew)); exact HO154.out, by repeat (first | (with_reducible first | exact HB.out | apply below_alloc | apply pw_below_drewN | apply below_drew1) | exact HB.out)⟩
/-! ### reckonerref02_Trim: function 49 -/
def reckonerref02_Trim.f (k : Nat) (l0 : List Int) : Option (List Int) := (reckonerref01_Digits.f k l0).bind fun t155 => ((reckonerref02_nat.f k t155).bind fun t158 => (some t158))
set_option maxHeartbeats 8000000 in
set_option maxRecDepth 100000 in
theorem reckonerref02_Trim.calls (k : Nat) (A0 : Option Addr) (c0 : Nat) (l0 : List Int) (r : List Int) (w : World) (hr0 : Kd.C (Kd.int .u64) w A0 l0.length l0) (hc0 : l0.length ≤ c0) (h : reckonerref02_Trim.f k l0 = some r) :
  Calls Try.prog 49 #[.slice A0 l0.length c0] w fun e w' => ∃ v0_ : Value, e = .returned (v0_) ∧ Kd.R (Kd.int .u64) 33 w' w.heap.size (fun _ => True) v0_ r ∧ Below w.heap.size w w' := by
 have HR0 := Aside0.mk hr0
 have HC0 := Aside0.mk hc0
 clear hr0 hc0
 have HB := Aside0.mk (Below.refl w.heap.size w)
 have H : ((reckonerref01_Digits.f k l0).bind fun t155 => ((reckonerref02_nat.f k t155).bind fun t158 => (some t158))) = some r := h
 clear h
 replace H := Option.bind_eq_some_iff.mp H
 obtain ⟨t155, A20, H⟩ := H
 replace H : ((reckonerref02_nat.f k t155).bind fun t158 => (some t158)) = some r := H
 have A2 := Aside0.mk A20
 clear A20
 replace H := Option.bind_eq_some_iff.mp H
 obtain ⟨t158, A30, H⟩ := H
 replace H : (some t158) = some r := H
 have A3 := Aside0.mk A30
 clear A30
 obtain rfl := Option.some.inj H
 go_enter Try.func49, Try.ntmps49
 go_wp2_with (first | ((with_reducible refine gate_callee (f := 57) rfl ?_); refine goesL_ (some 4) rfl rfl Try.func57 (by kernel_rfl) rfl #[.slice A0 l0.length c0] rfl (by (try simp only [List.map_toArray, List.map_cons, List.map_nil]); first | done | rfl | (simp only [List.length_drop, List.length_take]; rfl)) ?_; (with_reducible refine (reckonerref01_Digits.calls k _ _ l0 t155 _ ?side1 ?side2 A2.out).mono ?_); (case side1 => repeat (first | exact HR0.out | (with_reducible refine Kd.C_alloc ?_ _) | (with_reducible refine Kd.C_drewN ?_ _) | (with_reducible refine Kd.C_drew ?_))); (case side2 => exact HC0.out); rintro e w4 ⟨v156, rfl, ho0, hb⟩; refine ⟨_, rfl, ?_⟩; have n0_ := Aside0.mk (Kd.R_lower ho0 (below_size (by repeat (first | (with_reducible first | exact HB.out | apply below_alloc | apply pw_below_drewN | apply below_drew1) | exact HB.out)))); have n1_ := Aside0.mk (below_step (by repeat (first | (with_reducible first | exact HB.out | apply below_alloc | apply pw_below_drewN | apply below_drew1) | exact HB.out)) hb); clear HB; have HO157 := n0_; have HB := n1_; clear n0_ n1_; (try clear hb); (try clear hb2); (try clear hk); (try clear hi); (try clear ho0); obtain ⟨Ao5, co5, eo5⟩ := Kd.R_slice HO157.out; subst eo5) | ((with_reducible refine gate_callee (f := 58) rfl ?_); refine goesL_ (some 5) rfl rfl Try.func58 (by kernel_rfl) rfl #[.slice Ao5 t155.length co5] rfl (by (try simp only [List.map_toArray, List.map_cons, List.map_nil]); first | done | rfl | (simp only [List.length_drop, List.length_take]; rfl)) ?_; (with_reducible refine (reckonerref02_nat.calls k _ _ t155 t158 _ ?side1 ?side2 A3.out).mono ?_); (case side1 => repeat (first | exact (Kd.R_reads' HO157.out).2.2 | (with_reducible refine Kd.C_alloc ?_ _) | (with_reducible refine Kd.C_drewN ?_ _) | (with_reducible refine Kd.C_drew ?_))); (case side2 => exact (Kd.R_reads' HO157.out).2.1); rintro e w6 ⟨v159, rfl, ho0, hb⟩; refine ⟨_, rfl, ?_⟩; have n0_ := Aside0.mk (Kd.R_elder' (by (with_reducible repeat (first | apply Kd.R_alloc | apply Kd.R_drewN | apply Kd.R_drew)); exact HO157.out) (Kd.R_base ho0) hb); have n1_ := Aside0.mk (Kd.R_lower (Kd.R_new' ho0 (Kd.R_lt (by (with_reducible repeat (first | apply Kd.R_alloc | apply Kd.R_drewN | apply Kd.R_drew)); exact HO157.out))) (below_size (by repeat (first | (with_reducible first | exact HB.out | apply below_alloc | apply pw_below_drewN | apply below_drew1) | exact HB.out)))); have n2_ := Aside0.mk (below_step (by repeat (first | (with_reducible first | exact HB.out | apply below_alloc | apply pw_below_drewN | apply below_drew1) | exact HB.out)) hb); clear HO157; clear HB; have HO157 := n0_; have HO160 := n1_; have HB := n2_; clear n0_ n1_ n2_; (try clear hb); (try clear hb2); (try clear hk); (try clear hi); (try clear ho0)))
 go_ret
 exact ⟨_, by first | rfl | (simp [errW_none, errW_some] <;> rfl) | (simp [*, errW_none, errW_some] <;> rfl), by (with_reducible repeat (first | apply Kd.R_alloc | apply Kd.R_drewN | apply Kd.R_drew)); exact Kd.R_mono HO160.out (fun _ hk => trivial), by repeat (first | (with_reducible first | exact HB.out | apply below_alloc | apply pw_below_drewN | apply below_drew1) | exact HB.out)⟩
/-! ### reckonerref02_Is: function 13 -/
def reckonerref02_Is.f (k : Nat) (l0 : List Int) (l1 : List Int) : Option (Bool) := (reckonerref02_Canonical.f l0).bind fun t161 => (if t161 = true then ((reckonerref02_Trim.f k l1).bind fun t162 => ((reckonerref01_Same.f k l0 t162).bind fun t165 => (some t165))) else (some false))
set_option maxHeartbeats 8000000 in
set_option maxRecDepth 100000 in
theorem reckonerref02_Is.calls (k : Nat) (A0 : Option Addr) (c0 : Nat) (l0 : List Int) (A1 : Option Addr) (c1 : Nat) (l1 : List Int) (r : Bool) (w : World) (hr0 : Kd.C (Kd.int .u64) w A0 l0.length l0) (hc0 : l0.length ≤ c0) (hr1 : Kd.C (Kd.int .u64) w A1 l1.length l1) (hc1 : l1.length ≤ c1) (h : reckonerref02_Is.f k l0 l1 = some r) :
  Calls Try.prog 13 #[.slice A0 l0.length c0, .slice A1 l1.length c1] w fun e w' => e = .returned (.bool r) ∧ Below w.heap.size w w' := by
 have HR0 := Aside0.mk hr0
 have HC0 := Aside0.mk hc0
 clear hr0 hc0
 have HR1 := Aside0.mk hr1
 have HC1 := Aside0.mk hc1
 clear hr1 hc1
 have HB := Aside0.mk (Below.refl w.heap.size w)
 have H : ((reckonerref02_Canonical.f l0).bind fun t161 => (if t161 = true then ((reckonerref02_Trim.f k l1).bind fun t162 => ((reckonerref01_Same.f k l0 t162).bind fun t165 => (some t165))) else (some false))) = some r := h
 clear h
 replace H := Option.bind_eq_some_iff.mp H
 obtain ⟨t161, A30, H⟩ := H
 replace H : (if t161 = true then ((reckonerref02_Trim.f k l1).bind fun t162 => ((reckonerref01_Same.f k l0 t162).bind fun t165 => (some t165))) else (some false)) = some r := H
 have A3 := Aside0.mk A30
 clear A30
 by_cases c4 : t161 = true
 ·subst c4
  have H1 : ((reckonerref02_Trim.f k l1).bind fun t162 => ((reckonerref01_Same.f k l0 t162).bind fun t165 => (some t165))) = some r := by rw [if_pos rfl] at H; exact H
  clear H
  have H := H1
  clear H1
  replace H := Option.bind_eq_some_iff.mp H
  obtain ⟨t162, A50, H⟩ := H
  replace H : ((reckonerref01_Same.f k l0 t162).bind fun t165 => (some t165)) = some r := H
  have A5 := Aside0.mk A50
  clear A50
  replace H := Option.bind_eq_some_iff.mp H
  obtain ⟨t165, A60, H⟩ := H
  replace H : (some t165) = some r := H
  have A6 := Aside0.mk A60
  clear A60
  obtain rfl := Option.some.inj H
  go_enter Try.func13, Try.ntmps13
  go_wp2_with (first | ((with_reducible refine gate_callee (f := 47) rfl ?_); refine goesL_ (some 6) rfl rfl Try.func47 (by kernel_rfl) rfl #[.slice A0 l0.length c0] rfl (by (try simp only [List.map_toArray, List.map_cons, List.map_nil]); first | done | rfl | (simp only [List.length_drop, List.length_take]; rfl)) ?_; (with_reducible refine (reckonerref02_Canonical.calls _ _ l0 true _ ?side1 ?side2 A3.out).mono ?_); (case side1 => repeat (first | exact HR0.out | (with_reducible refine Kd.C_alloc ?_ _) | (with_reducible refine Kd.C_drewN ?_ _) | (with_reducible refine Kd.C_drew ?_))); (case side2 => exact HC0.out); rintro e w' ⟨rfl, ⟨nd, rfl⟩⟩; refine ⟨_, rfl, ?_⟩) | (go_at_call 49; (with_reducible refine (reckonerref02_Trim.calls k _ _ l1 t162 _ ?side1 ?side2 A5.out).mono ?_); (case side1 => repeat (first | exact HR1.out | (with_reducible refine Kd.C_alloc ?_ _) | (with_reducible refine Kd.C_drewN ?_ _) | (with_reducible refine Kd.C_drew ?_))); (case side2 => exact HC1.out); rintro e w7 ⟨v163, rfl, ho0, hb⟩; have n0_ := Aside0.mk (Kd.R_lower ho0 (below_size (by repeat (first | (with_reducible first | exact HB.out | apply below_alloc | apply pw_below_drewN | apply below_drew1) | exact HB.out)))); have n1_ := Aside0.mk (below_step (by repeat (first | (with_reducible first | exact HB.out | apply below_alloc | apply pw_below_drewN | apply below_drew1) | exact HB.out)) hb); clear HB; have HO164 := n0_; have HB := n1_; clear n0_ n1_; (try clear hb); (try clear hb2); (try clear hk); (try clear hi); (try clear ho0); obtain ⟨Ao8, co8, eo8⟩ := Kd.R_slice HO164.out; subst eo8) | (go_at_call 48; (with_reducible refine (reckonerref01_Same.calls k _ _ l0 _ _ t162 t165 _ ?side1 ?side2 ?side3 ?side4 A6.out).mono ?_); (case side1 => repeat (first | exact (Kd.C_below HR0.out HB.out) | (with_reducible refine Kd.C_alloc ?_ _) | (with_reducible refine Kd.C_drewN ?_ _) | (with_reducible refine Kd.C_drew ?_))); (case side2 => exact HC0.out); (case side3 => repeat (first | exact (Kd.R_reads' HO164.out).2.2 | (with_reducible refine Kd.C_alloc ?_ _) | (with_reducible refine Kd.C_drewN ?_ _) | (with_reducible refine Kd.C_drew ?_))); (case side4 => exact (Kd.R_reads' HO164.out).2.1); rintro e w' ⟨rfl, ⟨nd, rfl⟩⟩))
  go_ret
  exact ⟨by first | rfl | (simp [errW_none, errW_some] <;> rfl) | (simp [*, errW_none, errW_some] <;> rfl), by repeat (first | (with_reducible first | exact HB.out | apply below_alloc | apply pw_below_drewN | apply below_drew1) | exact HB.out)⟩
 ·replace c4 := Bool.eq_false_iff.mpr c4
  subst c4
  have H1 : (some false) = some r := by rw [if_neg (show ¬ (false = true) by decide)] at H; exact H
  clear H
  have H := H1
  clear H1
  obtain rfl := Option.some.inj H
  go_enter Try.func13, Try.ntmps13
  go_wp2_with (first | ((with_reducible refine gate_callee (f := 47) rfl ?_); refine goesL_ (some 6) rfl rfl Try.func47 (by kernel_rfl) rfl #[.slice A0 l0.length c0] rfl (by (try simp only [List.map_toArray, List.map_cons, List.map_nil]); first | done | rfl | (simp only [List.length_drop, List.length_take]; rfl)) ?_; (with_reducible refine (reckonerref02_Canonical.calls _ _ l0 false _ ?side1 ?side2 A3.out).mono ?_); (case side1 => repeat (first | exact HR0.out | (with_reducible refine Kd.C_alloc ?_ _) | (with_reducible refine Kd.C_drewN ?_ _) | (with_reducible refine Kd.C_drew ?_))); (case side2 => exact HC0.out); rintro e w' ⟨rfl, ⟨nd, rfl⟩⟩; refine ⟨_, rfl, ?_⟩))
  go_ret
  exact ⟨by first | rfl | (simp [errW_none, errW_some] <;> rfl) | (simp [*, errW_none, errW_some] <;> rfl), by repeat (first | (with_reducible first | exact HB.out | apply below_alloc | apply pw_below_drewN | apply below_drew1) | exact HB.out)⟩
end Go.Proofs.Ytkkkbalefnileaa.T
