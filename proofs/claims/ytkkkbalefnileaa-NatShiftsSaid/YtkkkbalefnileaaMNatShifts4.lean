/- Proof of NatShifts: a number moved by any amount to the left or to the right, and its lowest bits, as the reference gives them. (Part 5 of 5.) -/
import Derived.Lib.BitFns
import Derived.Lib.TrailingZeros
import Derived.Shelf.Spec.TrailingZeros
import Derived.SizedLaws
import Derived.ChangeSlices
import Derived.Test.YtkkkbalefnileaaRows
import Derived.WalkKit
import Derived.ProofKit
import Derived.OpenShut
import Derived.ShutString
import Derived.ChangeOld
import Derived.Below
import Derived.Test.YtkkkbalefnileaaMNatShifts3
/- The reference's Word and Times (printed in Tx4, Tx5). -/
namespace Go.Proofs.Ytkkkbalefnileaa.Ex
open Go.RowKit Go.Proofs.YtkkkbalefnileaaW.PrintWords Go.Proofs.YtkkkbalefnileaaW.PrintLast Go.Proofs.YtkkkbalefnileaaW.PrintMore Go.Proofs.Ytkkkbalefnileaa.T
set_option linter.unusedVariables false
set_option linter.unusedSimpArgs false

theorem w64_add (a b : Nat) (h : a + b < 4611686018427387904) : wrap64 ((a : Int) + (b : Int)) = ((a + b : Nat) : Int) := by rw [← Int.natCast_add]; exact w64_nat (a + b) h
theorem w64_sub1 (n : Nat) (h : n < 4611686018427387904) : wrap64 (((n + 1 : Nat) : Int) - 1) = (n : Int) := by rw [← w64_nat n h]; congr 1; omega
theorem w64_suc (n : Nat) (h : n + 1 < 4611686018427387904) : wrap64 ((n : Int) + 1) = ((n + 1 : Nat) : Int) := by rw [← w64_nat (n + 1) h]; rfl
theorem lin5 (u v o c p : Int) (h : u + v = c + o + p) : (u - o) + v = c + p := by omega
theorem Word_some (w : Int) (hw : isW w) : reckonerref01_Word.f w = some [w % H32, w / H32] := by
  have h0 := hw.1
  have h1 := hw.2
  rw [W64_eq] at h1
  have q : 0 ≤ w / H32 ∧ w / H32 < 18446744073709551616 := by rw [H32_eq]; omega
  unfold reckonerref01_Word.f
  rw [tmodH _ h0, tdivH _ h0, wrapW _ q.1 q.2]
theorem word_in (w : Int) (hw : isW w) : inB H32 [w % H32, w / H32] := digitsL_in (inW_cons.2 ⟨hw, inW_nil⟩)
theorem word_val (w : Int) : valB H32 [w % H32, w / H32] = w := by
  have h := digitsL_val [w]
  simpa [digitsL, valB] using h
/-- What holds of a product's digits between two rounds. -/
structure Prod (a b out : List Int) (i : Nat) : Prop where
  len : out.length = a.length + b.length
  dig : inB H32 out
  zero : ∀ j, i + b.length ≤ j → out.getD j 0 = 0
theorem getD_set (l : List Int) (i j : Nat) (x : Int) : (l.set i x).getD j 0 = if i = j ∧ i < l.length then x else l.getD j 0 := by
  simp only [List.getD_eq_getElem?_getD, List.getElem?_set]
  by_cases h : i = j
  · subst h
    by_cases h1 : i < l.length
    · simp [h1]
    · simp [h1]
  · simp [h]
def Good (a b r : List Int) : Prop := inB H32 r ∧ r.length = a.length + b.length ∧ valB H32 r = valB H32 a * valB H32 b
theorem Times_inner (a b : List Int) (ha : inB H32 a) (hb : inB H32 b) (hn : a.length ≤ 1000000) (hm : b.length ≤ 1000000) (i : Nat) (hi : i < a.length)
    (hO : ∀ out, Prod a b out (i + 1) → valB H32 out = valB H32 (a.take (i + 1)) * valB H32 b → ∃ r, Ev (fun k => reckonerref01_Times.l0 k a b out ((i + 1 : Nat) : Int)) r ∧ Good a b r) :
    ∀ (n kk : Nat) (out : List Int) (c : Int), kk + n = b.length → Prod a b out i → (0 ≤ c ∧ c < H32) → valB H32 out + H32 ^ (i + kk) * c = valB H32 (a.take i) * valB H32 b + H32 ^ i * (a.getD i 0 * valB H32 (b.take kk)) →
      ∃ r, Ev (fun k => reckonerref01_Times.l1 k a b out (i : Int) c (kk : Int)) r ∧ Good a b r
  | 0, kk, out, c, hk, hP, hc, hv => by
    have HV := Aside0.mk hv
    clear hv
    obtain rfl : kk = b.length := by omega
    have hlen := hP.len
    have q1 : i + b.length < out.length := by omega
    have q2 : ¬ (b.length : Int) < (b.length : Int) := by omega
    have q3 : (0 : Int) ≤ ((i + b.length : Nat) : Int) := by omega
    have q4 : ((i + b.length : Nat) : Int) < (out.length : Int) := by omega
    have e1 : wrap64 ((i : Int) + (b.length : Int)) = ((i + b.length : Nat) : Int) := w64_add i b.length (by omega)
    have e2 : wrap64 ((i : Int) + 1) = ((i + 1 : Nat) : Int) := by rw [← w64_nat (i + 1) (by omega)]; rfl
    have hz := hP.zero (i + b.length) (Nat.le_refl _)
    obtain ⟨r, h1, h2⟩ := hO (out.set (i + b.length) c) ⟨by rw [List.length_set]; exact hlen, inB_set hP.dig _ hc, fun j hj => by
        rw [getD_set, if_neg (by omega)]
        exact hP.zero j (by omega)⟩ (by
        rw [valB_set H32 out _ c q1, hz, Int.sub_zero, HV.out, valB_take_succ H32 a i hi, List.take_of_length_le (Nat.le_refl _), Int.add_mul, Int.mul_assoc])
    refine ⟨r, Ev.step (fun k => ?_) h1, h2⟩
    rw [reckonerref01_Times.l1, if_neg q2, e1, if_pos q3, if_pos q4, Int.toNat_natCast, e2]
  | n + 1, kk, out, c, hk, hP, hc, hv => by
    have HV := Aside0.mk hv
    clear hv
    have hlen := hP.len
    have hk' : kk + 1 + n = b.length := by omega
    have hjj : ∀ j, i + b.length ≤ j → ¬ (i + kk = j ∧ i + kk < out.length) := by omega
    have hkb : kk < b.length := by omega
    have e1 : wrap64 ((i : Int) + (kk : Int)) = ((i + kk : Nat) : Int) := w64_add i kk (by omega)
    have e2 : wrap64 ((kk : Int) + 1) = ((kk + 1 : Nat) : Int) := by rw [← w64_nat (kk + 1) (by omega)]; rfl
    have q1 : (kk : Int) < (b.length : Int) := by omega
    have q2 : (0 : Int) ≤ ((i + kk : Nat) : Int) := by omega
    have q3 : ((i + kk : Nat) : Int) < (out.length : Int) := by omega
    have q4 : (0 : Int) ≤ (i : Int) := by omega
    have q5 : (i : Int) < (a.length : Int) := by omega
    have q6 : (0 : Int) ≤ (kk : Int) := by omega
    have q7 : i + kk < out.length := by omega
    have h1 := inB_getD H32_pos ha i
    have h2 := inB_getD H32_pos hb kk
    have h3 := inB_getD H32_pos hP.dig (i + kk)
    rw [H32_eq] at h1 h2 h3 hc
    have hmul : a.getD i 0 * b.getD kk 0 ≤ 18446744065119617025 := Int.le_trans (Int.mul_le_mul (show a.getD i 0 ≤ 4294967295 by omega) (show b.getD kk 0 ≤ 4294967295 by omega) h2.1 (by decide)) (by decide)
    have hmul0 : 0 ≤ a.getD i 0 * b.getD kk 0 := Int.mul_nonneg h1.1 h2.1
    obtain ⟨p, hp⟩ : ∃ p, p = a.getD i 0 * b.getD kk 0 := ⟨_, rfl⟩
    rw [← hp] at hmul hmul0
    have HPP := Aside0.mk hp
    clear hp
    have w1 : IntKind.u64.wrap (c + out.getD (i + kk) 0) = c + out.getD (i + kk) 0 := wrapW _ (by omega) (by omega)
    have w2 : IntKind.u64.wrap p = p := wrapW _ (by omega) (by omega)
    have w3 : 0 ≤ c + out.getD (i + kk) 0 + p ∧ c + out.getD (i + kk) 0 + p < 18446744073709551616 := by omega
    have w4 : 0 ≤ (c + out.getD (i + kk) 0 + p) / H32 ∧ (c + out.getD (i + kk) 0 + p) / H32 < 4294967296 := by rw [H32_eq]; omega
    have w5 : (c + out.getD (i + kk) 0 + p) / H32 < 18446744073709551616 := by omega
    have w6 : 0 ≤ (c + out.getD (i + kk) 0 + p) % H32 ∧ (c + out.getD (i + kk) 0 + p) % H32 < H32 := by rw [H32_eq]; omega
    have hdm := Int.emod_add_mul_ediv (c + out.getD (i + kk) 0 + p) H32
    obtain ⟨r, k1, k2⟩ := Times_inner a b ha hb hn hm i hi hO n (kk + 1) (out.set (i + kk) ((c + out.getD (i + kk) 0 + p) % H32)) ((c + out.getD (i + kk) 0 + p) / H32) hk'
      ⟨by rw [List.length_set]; exact hlen, inB_set hP.dig _ w6, fun j hj => by rw [getD_set, if_neg (hjj j hj)]; exact hP.zero j hj⟩ w4 (by
        rw [valB_set H32 out _ _ q7, valB_take_succ H32 b kk hkb, Int.mul_add (a.getD i 0), Int.mul_add (H32 ^ i), ← Int.add_assoc, ← HV.out]
        have e4 : H32 ^ i * (a.getD i 0 * (H32 ^ kk * b.getD kk 0)) = H32 ^ (i + kk) * p := by
          rw [HPP.out, Int.pow_add, Int.mul_left_comm (a.getD i 0), ← Int.mul_assoc]
        have e5 : H32 ^ (i + (kk + 1)) = H32 ^ (i + kk) * H32 := by rw [← Nat.add_assoc, Int.pow_succ]
        have e6 : H32 ^ (i + kk) * ((c + out.getD (i + kk) 0 + p) % H32 - out.getD (i + kk) 0) + H32 ^ (i + kk) * H32 * ((c + out.getD (i + kk) 0 + p) / H32) = H32 ^ (i + kk) * c + H32 ^ (i + kk) * p := by
          rw [Int.mul_assoc, ← Int.mul_add, ← Int.mul_add, lin5 _ _ _ _ _ hdm]
        rw [e4, e5, Int.add_assoc (valB H32 out), e6, ← Int.add_assoc])
    refine ⟨r, Ev.step (fun k => ?_) k1, k2⟩
    rw [reckonerref01_Times.l1, if_pos q1, e1, if_pos q2, if_pos q3, if_pos q4, if_pos q5, if_pos q6, rd_nat, rd_nat, rd_nat, ← HPP.out, w1, w2, wrapW _ w3.1 w3.2, tmodH _ w3.1, tdivH _ w3.1, wrapW _ w4.1 w5, e2, Int.toNat_natCast]
theorem Times_outer (a b : List Int) (ha : inB H32 a) (hb : inB H32 b) (hn : a.length ≤ 1000000) (hm : b.length ≤ 1000000) : ∀ (m i : Nat) (out : List Int), i + m = a.length → Prod a b out i → valB H32 out = valB H32 (a.take i) * valB H32 b →
      ∃ r, Ev (fun k => reckonerref01_Times.l0 k a b out (i : Int)) r ∧ Good a b r
  | 0, i, out, hi, hP, hv => by
    have q0 : a.length ≤ i := by clear hv; omega
    have q1 : ¬ (i : Int) < (a.length : Int) := by clear hv; omega
    rw [List.take_of_length_le q0] at hv
    exact ⟨out, Ev.now' fun k => by rw [reckonerref01_Times.l0, if_neg q1], hP.dig, hP.len, hv⟩
  | m + 1, i, out, hi, hP, hv => by
    have q1 : (i : Int) < (a.length : Int) := by clear hv; omega
    have q2 : i < a.length := by clear hv; omega
    have q3 : i + 1 + m = a.length := by clear hv; omega
    obtain ⟨r, h1, h2⟩ := Times_inner a b ha hb hn hm i q2 (fun out hP hv => Times_outer a b ha hb hn hm m (i + 1) out q3 hP hv) b.length 0 out 0 (Nat.zero_add _) hP ⟨Int.le_refl 0, H32_pos⟩ (by
      rw [List.take_zero]
      simp [valB, hv])
    exact ⟨r, Ev.step (fun k => by rw [reckonerref01_Times.l0, if_pos q1]; rfl) h1, h2⟩
/-- A product of digits. -/
theorem Times_ev (a b : List Int) (ha : inB H32 a) (hb : inB H32 b) (hn : a.length ≤ 1000000) (hm : b.length ≤ 1000000) : ∃ r, Ev (fun k => reckonerref01_Times.f k a b) r ∧ Good a b r := by
  obtain ⟨r, h1, h2⟩ := Times_outer a b ha hb hn hm a.length 0 (List.replicate (a.length + b.length) 0) (by omega)
    ⟨by simp, inB_zeros H32_pos _, fun j _ => by
        simp only [List.getD_eq_getElem?_getD, List.getElem?_replicate]
        split <;> rfl⟩ (by rw [valB_zeros, List.take_zero]; simp [valB])
  have e1 : wrap64 ((a.length : Int) + (b.length : Int)) = ((a.length + b.length : Nat) : Int) := w64_add a.length b.length (by omega)
  have q1 : (0 : Int) ≤ ((a.length + b.length : Nat) : Int) := by omega
  have q2 : a.length + b.length ≤ 35184372088832 := by omega
  refine ⟨r, Ev.congr (fun k => ?_) h1, h2⟩
  show reckonerref01_Times.f k a b = _
  unfold reckonerref01_Times.f
  rw [e1, if_pos q1, Int.toNat_natCast, if_pos q2]
  rfl
end Go.Proofs.Ytkkkbalefnileaa.Ex
/- The reference's Short, one and Divide (printed in Tx6). -/
namespace Go.Proofs.Ytkkkbalefnileaa.Ex
open Go.RowKit Go.Proofs.YtkkkbalefnileaaW.PrintWords Go.Proofs.YtkkkbalefnileaaW.PrintLast Go.Proofs.YtkkkbalefnileaaW.PrintMore Go.Proofs.Ytkkkbalefnileaa.T
set_option linter.unusedVariables false
set_option linter.unusedSimpArgs false


/-! ### Short -/
theorem Short_stop (a : List Int) (n : Nat) (hn : n ≤ a.length) : (if 0 ≤ (n : Int) then (if (n : Int) ≤ (a.length : Int) then (some (a.take ((n : Int) : Int).toNat)) else (none)) else (none)) = some (a.take n) := by
  rw [if_pos (by omega), if_pos (by omega), Int.toNat_natCast]
theorem Short_loop (a : List Int) (hn : a.length ≤ 4000000) : ∀ n, n ≤ a.length → valB H32 (a.take n) = valB H32 a →
    ∃ m, m ≤ a.length ∧ Ev (fun k => reckonerref01_Short.l0 k a (n : Int)) (a.take m) ∧ valB H32 (a.take m) = valB H32 a ∧ (m = 0 ∨ a.getD (m - 1) 0 ≠ 0)
  | 0, h, hv => ⟨0, h, Ev.now' fun k => by
      have q : ¬ (((0 : Nat) : Int) > 0) := by decide
      rw [reckonerref01_Short.l0, if_neg q]
      exact Short_stop a 0 h, hv, Or.inl rfl⟩
  | n + 1, h, hv => by
    have q1 : (((n + 1 : Nat) : Int) > 0) := by omega
    have q2 : (0 : Int) ≤ (n : Int) := by omega
    have q3 : (n : Int) < (a.length : Int) := by omega
    have e1 := w64_sub1 n (by omega)
    by_cases hz : a.getD n 0 = 0
    · obtain ⟨m, m1, m2, m3⟩ := Short_loop a hn n (by omega) (by rw [← hv, valB_take_succ H32 a n (by omega), hz, Int.mul_zero, Int.add_zero])
      refine ⟨m, m1, Ev.step (fun k => ?_) m2, m3⟩
      rw [reckonerref01_Short.l0, if_pos q1, e1, if_pos q2, if_pos q3, rd_nat, if_pos hz]
    · refine ⟨n + 1, h, Ev.now' fun k => ?_, hv, Or.inr hz⟩
      rw [reckonerref01_Short.l0, if_pos q1, e1, if_pos q2, if_pos q3, rd_nat, if_neg hz]
      exact Short_stop a (n + 1) h
theorem Short_ev (a : List Int) (hn : a.length ≤ 4000000) : ∃ m, m ≤ a.length ∧ Ev (fun k => reckonerref01_Short.f k a) (a.take m) ∧ valB H32 (a.take m) = valB H32 a ∧ (m = 0 ∨ a.getD (m - 1) 0 ≠ 0) :=
  Short_loop a hn a.length (Nat.le_refl _) (by rw [List.take_of_length_le (Nat.le_refl _)])
/-! ### by one digit -/
/-! ### Divide -/
end Go.Proofs.Ytkkkbalefnileaa.Ex
/- The reference's Divide: the digits from above, the scale, the whole. -/
namespace Go.Proofs.Ytkkkbalefnileaa.Ex
open Go.RowKit Go.Proofs.YtkkkbalefnileaaW.PrintWords Go.Proofs.YtkkkbalefnileaaW.PrintLast Go.Proofs.YtkkkbalefnileaaW.PrintMore Go.Proofs.Ytkkkbalefnileaa.T
set_option linter.unusedVariables false
set_option linter.unusedSimpArgs false

theorem mn_eq (a b : Int) : mn a b = min a b := by first | rfl | (unfold mn; omega) | (unfold mn; split <;> omega)
theorem pow_leB {n m : Nat} (h : n ≤ m) : H32 ^ n ≤ H32 ^ m := by
  obtain ⟨d, rfl⟩ : ∃ d, m = n + d := ⟨m - n, by omega⟩
  rw [Int.pow_add]
  have h1 := pow_posB H32_pos n
  have h2 := pow_posB H32_pos d
  have h3 : H32 ^ n * 1 ≤ H32 ^ n * H32 ^ d := Int.mul_le_mul_of_nonneg_left (by omega) (by omega)
  omega
end Go.Proofs.Ytkkkbalefnileaa.Ex
/- The reference's functions on numbers. -/
namespace Go.Proofs.Ytkkkbalefnileaa.Ex
open Go.RowKit Go.Proofs.YtkkkbalefnileaaW.PrintWords Go.Proofs.YtkkkbalefnileaaW.PrintLast Go.Proofs.YtkkkbalefnileaaW.PrintMore Go.Proofs.Ytkkkbalefnileaa.T
set_option linter.unusedVariables false
set_option linter.unusedSimpArgs false

theorem isW_of_wf {x : Int} (h : (Lit.int .u64 x).wf = true) : isW x := by
  have h1 : 0 ≤ x ∧ x ≤ 18446744073709551615 := by
    simp [Lit.wf, IntKind.min, IntKind.max, IntKind.signed, IntKind.bits] at h
    omega
  unfold isW
  rw [W64_eq]
  omega
theorem inW_of_wf {l : List Int} (h : ∀ x ∈ l, (Lit.int .u64 x).wf = true) : inW l := fun x hx => isW_of_wf (h x hx)
theorem inW_take {l : List Int} (h : inW l) (n : Nat) : inW (l.take n) := fun x hx => h x (List.mem_of_mem_take hx)
theorem few_some (l : List Int) (n : Nat) (h : l.length ≤ 17592186044415) : reckonerlaw02_few.f l (n : Int) = some (l.take n) := by
  unfold reckonerlaw02_few.f
  rw [if_pos ⟨by omega, h⟩, Int.toNat_natCast]
/-- A row of n words whose value has n words is the value's. -/
theorem can_of_len {r : List Int} (hr : inW r) (h : r = [] ∨ W64 ^ (r.length - 1) ≤ valB W64 r) : r = can (valB W64 r) := by
  have h0 := valW_nonneg hr
  rcases h with h | h
  · rw [h]; rfl
  · have h1 := can_high h0 h
    have h2 := can_le hr
    exact valB_inj W64_pos hr (can_in h0) (by omega) (can_val h0).symm
theorem RNat_ev (d : List Int) (hd : inB H32 d) (hm : d.length ≤ 1000000) : Ev (fun k => reckonerref02_nat.f k d) (can (valB H32 d)) := by
  obtain ⟨m, hm1, hs, hv, hnz⟩ := Short_ev d (by omega)
  have hdm : inB H32 (d.take m) := inB_take hd m
  have hlm : (d.take m).length = m := by rw [List.length_take]; omega
  obtain ⟨r, t, hc, hr1, hr2, hr3, hr4⟩ := Cut_ev ((m + 1) / 2) (by omega) (d.take m) hdm (by omega)
  have hlt := valB_lt H32_pos hdm
  have h0 := valB_nonneg H32_pos hdm
  rw [hlm] at hlt
  have hp : H32 ^ m ≤ W64 ^ ((m + 1) / 2) := by rw [← H32_pow]; exact pow_leB (by omega)
  have hpp := pow_posB W64_pos ((m + 1) / 2)
  have hmod : valB H32 (d.take m) % (W64 ^ ((m + 1) / 2) * W64) = valB H32 (d.take m) := by
    refine Int.emod_eq_of_lt h0 ?_
    have h1 : W64 ^ ((m + 1) / 2) * 1 ≤ W64 ^ ((m + 1) / 2) * W64 := Int.mul_le_mul_of_nonneg_left (by decide) (Int.le_of_lt hpp)
    rw [Int.mul_one] at h1
    omega
  rw [hmod, hv] at hr4
  rw [hv] at hlt h0
  have hrl := valB_lt W64_pos hr1
  have hr0 := valB_nonneg W64_pos hr1
  rw [hr2] at hrl
  have ht : t = 0 := by
    by_cases ht : t ≤ 0
    · have := hr3.1; omega
    · have h1 : W64 ^ ((m + 1) / 2) * 1 ≤ W64 ^ ((m + 1) / 2) * t := Int.mul_le_mul_of_nonneg_left (by omega) (Int.le_of_lt hpp)
      rw [Int.mul_one] at h1
      omega
  rw [ht, Int.mul_zero, Int.add_zero] at hr4
  have hcan : r = can (valB H32 d) := by
    have h1 := can_of_len hr1 (by
      rw [hr2]
      by_cases hm0 : m = 0
      · left; rw [hm0] at hr2; exact List.eq_nil_of_length_eq_zero hr2
      · right
        rw [hr4, ← hv]
        have h2 := valB_take_succ H32 d (m - 1) (by omega)
        rw [show m - 1 + 1 = m by omega] at h2
        rw [h2]
        have h3 := valB_nonneg H32_pos (inB_take hd (m - 1))
        have h4 : 1 ≤ d.getD (m - 1) 0 := by
          have h5 := (inB_getD H32_pos hd (m - 1)).1
          rcases hnz with h | h
          · exact (hm0 h).elim
          · omega
        have h6 : H32 ^ (m - 1) * 1 ≤ H32 ^ (m - 1) * d.getD (m - 1) 0 := Int.mul_le_mul_of_nonneg_left h4 (Int.le_of_lt (pow_posB H32_pos _))
        rw [Int.mul_one] at h6
        have h7 : W64 ^ ((m + 1) / 2 - 1) ≤ H32 ^ (m - 1) := by rw [← H32_pow]; exact pow_leB (by omega)
        omega)
    rw [hr4] at h1
    exact h1
  have e : wrap64 (Int.tdiv (wrap64 (((d.take m).length : Int) + 1)) 2) = (((m + 1) / 2 : Nat) : Int) := by
    rw [hlm, show ((m : Int) + 1) = ((m + 1 : Nat) : Int) by omega, w64_nat (m + 1) (by omega)]
    exact w64_nat ((m + 1) / 2) (by omega)
  refine Ev.bind hs ?_
  simp only [e]
  refine Ev.bind hc ?_
  rw [← hcan]
  exact Ev.now _
theorem RTrim_ev (x : List Int) (hx : inW x) (hn : x.length ≤ 400000) : Ev (fun k => reckonerref02_Trim.f k x) (can (valB W64 x)) := by
  have h := RNat_ev (digitsL x) (digitsL_in hx) (by rw [digitsL_length]; omega)
  rw [digitsL_val] at h
  exact Ev.bind (Digits_ev x hx (by omega)) (Ev.bind h (Ev.now _))
theorem RCan_some {x : List Int} (h : canL x) (hn : x.length ≤ 400000) : reckonerref02_Canonical.f x = some true := by
  unfold reckonerref02_Canonical.f
  by_cases h0 : x = []
  · subst h0; rfl
  · have hp : 0 < x.length := List.length_pos_iff.2 h0
    have e : wrap64 ((x.length : Int) - 1) = ((x.length - 1 : Nat) : Int) := by rw [← w64_nat (x.length - 1) (by omega)]; congr 1; omega
    have hl : x.getD (x.length - 1) 0 ≠ 0 := by
      intro e
      have h1 := canL_low h h0
      have h2 := valB_take_succ W64 x (x.length - 1) (by omega)
      rw [List.take_of_length_le (by omega), e, Int.mul_zero, Int.add_zero] at h2
      have h3 := valB_lt W64_pos (inB_take (canL_in h) (x.length - 1))
      rw [List.length_take, Nat.min_eq_left (by omega)] at h3
      omega
    rw [if_neg (by omega), e, if_pos (by omega), if_pos (by omega), rd_nat, bne_iff_ne.2 hl]
theorem RIs_ev {v : Int} (y : List Int) (hy : inW y) (hn : y.length ≤ 400000) (h : valB W64 y = v) : Ev (fun k => reckonerref02_Is.f k (can v) y) true := by
  have hv : 0 ≤ v := by rw [← h]; exact valW_nonneg hy
  have hl := can_le hy
  rw [h] at hl
  have ht := RTrim_ev y hy hn
  rw [h] at ht
  have hs := RSame_ev (can v) (can v) (by omega)
  rw [decide_eq_true rfl] at hs
  refine Ev.congr (f := fun k => (reckonerref02_Trim.f k y).bind fun t => (reckonerref01_Same.f k (can v) t).bind fun t => some t) (fun k => ?_) (Ev.bind ht (Ev.bind hs (Ev.now true)))
  show reckonerref02_Is.f k (can v) y = _
  unfold reckonerref02_Is.f
  rw [RCan_some (can_canL hv) (by omega), Option.bind_some, if_pos rfl]
theorem RWord_ev (w : Int) (hw : isW w) : Ev (fun k => reckonerref02_FromWord.f k w) (can w) := by
  have h := RNat_ev [w % H32, w / H32] (word_in w hw) (by simp)
  rw [word_val] at h
  refine Ev.congr (f := fun k => (reckonerref02_nat.f k [w % H32, w / H32]).bind fun t => some t) (fun k => ?_) (Ev.bind h (Ev.now _))
  show reckonerref02_FromWord.f k w = _
  unfold reckonerref02_FromWord.f
  rw [Word_some w hw, Option.bind_some]
theorem RAdd_ev (x y : List Int) (hx : inW x) (hy : inW y) (hn : x.length ≤ 400000) (hm : y.length ≤ 400000) : Ev (fun k => reckonerref02_Add.f k x y) (can (valB W64 x + valB W64 y)) := by
  obtain ⟨p, hp1, hp2, hp3, hp4⟩ := Plus_ev (digitsL x) (digitsL y) (digitsL_in hx) (digitsL_in hy) (by rw [digitsL_length]; omega) (by rw [digitsL_length]; omega)
  rw [digitsL_length, digitsL_length] at hp3
  rw [digitsL_val, digitsL_val] at hp4
  have h := RNat_ev p hp2 (by omega)
  rw [hp4] at h
  exact Ev.bind (Digits_ev x hx (by omega)) (Ev.bind (Digits_ev y hy (by omega)) (Ev.bind hp1 (Ev.bind h (Ev.now _))))
theorem RMul_ev (x y : List Int) (hx : inW x) (hy : inW y) (hn : x.length ≤ 200000) (hm : y.length ≤ 200000) : Ev (fun k => reckonerref02_Mul.f k x y) (can (valB W64 x * valB W64 y)) := by
  obtain ⟨p, hp1, hp2, hp3, hp4⟩ := Times_ev (digitsL x) (digitsL y) (digitsL_in hx) (digitsL_in hy) (by rw [digitsL_length]; omega) (by rw [digitsL_length]; omega)
  rw [digitsL_length, digitsL_length] at hp3
  rw [digitsL_val, digitsL_val] at hp4
  have h := RNat_ev p hp2 (by omega)
  rw [hp4] at h
  exact Ev.bind (Digits_ev x hx (by omega)) (Ev.bind (Digits_ev y hy (by omega)) (Ev.bind hp1 (Ev.bind h (Ev.now _))))
end Go.Proofs.Ytkkkbalefnileaa.Ex
/- The reference's Parse; what every law asks beside: awake. -/
namespace Go.Proofs.Ytkkkbalefnileaa.Ex
open Go.RowKit Go.Proofs.YtkkkbalefnileaaW.PrintWords Go.Proofs.YtkkkbalefnileaaW.PrintLast Go.Proofs.YtkkkbalefnileaaW.PrintMore Go.Proofs.Ytkkkbalefnileaa.T
set_option linter.unusedVariables false
set_option linter.unusedSimpArgs false

/-- The number of the digits from place i on, behind v. -/
def pv (s : ByteArray) : Nat → Nat → Int → Int
  | _, 0, v => v
  | i, n + 1, v => pv s (i + 1) n (v * 10 + (bt s (i : Int) - 48) % 256)
theorem Parse_loop (s : ByteArray) (hs : s.size ≤ 1000) (n : Nat) : ∀ (i : Nat) (v : Int), i + n = s.size → 0 ≤ v → v < W64 ^ (i + 1) → Ev (fun k => reckonerref02_Parse.l0 k s (can v) (i : Int)) (can (pv s i n v)) := by
  induction n with
  | zero =>
    intro i v hi h0 h1
    refine Ev.now' fun k => ?_
    rw [reckonerref02_Parse.l0, if_neg (by omega)]
    rfl
  | succ n IH =>
    intro i v hi h0 h1
    have e1 : wrap64 ((i : Int) + 1) = ((i + 1 : Nat) : Int) := by rw [← w64_nat (i + 1) (by omega)]; rfl
    have hd0 : 0 ≤ (bt s (i : Int) - 48) % 256 := Int.emod_nonneg _ (by decide)
    have hd1 : (bt s (i : Int) - 48) % 256 < 256 := Int.emod_lt_of_pos _ (by decide)
    have hdw : isW ((bt s (i : Int) - 48) % 256) := by unfold isW; rw [W64_eq]; omega
    have htw : isW 10 := by decide
    have hl := can_short h0 h1
    have r1 := RWord_ev 10 htw
    have r2 := RMul_ev (can v) (can 10) (can_in h0) (can_in (by decide)) (by omega) (by decide)
    rw [can_val h0, can_val (by decide)] at r2
    have r3 := RWord_ev _ hdw
    have hp := pow_posB W64_pos (i + 1)
    have hb : v * 10 + (bt s (i : Int) - 48) % 256 < W64 ^ (i + 1 + 1) := by
      rw [Int.pow_succ _ (i + 1)]
      have h2 : W64 ^ (i + 1) * 1000 ≤ W64 ^ (i + 1) * W64 := Int.mul_le_mul_of_nonneg_left (by decide) (Int.le_of_lt hp)
      omega
    have hm0 : 0 ≤ v * 10 := by omega
    have hm1 : v * 10 < W64 ^ (i + 1 + 1) := by omega
    have hml := can_short hm0 hm1
    have hwl : (can ((bt s (i : Int) - 48) % 256)).length ≤ 1 := can_short hd0 (by rw [Int.pow_succ, Int.pow_zero, Int.one_mul]; exact hdw.2)
    have r4 := RAdd_ev (can (v * 10)) (can ((bt s (i : Int) - 48) % 256)) (can_in hm0) (can_in hd0) (by omega) (by omega)
    rw [can_val hm0, can_val hd0] at r4
    have ih := IH (i + 1) (v * 10 + (bt s (i : Int) - 48) % 256) (by omega) (by omega) hb
    refine Ev.step (f := fun k => (reckonerref02_FromWord.f k 10).bind fun t => (reckonerref02_Mul.f k (can v) t).bind fun t2 => (reckonerref02_FromWord.f k ((bt s (i : Int) - 48) % 256)).bind fun t3 => (reckonerref02_Add.f k t2 t3).bind fun t4 => reckonerref02_Parse.l0 k s t4 ((i + 1 : Nat) : Int)) (fun k => ?_) (Ev.bind r1 (Ev.bind r2 (Ev.bind r3 (Ev.bind r4 ih))))
    show reckonerref02_Parse.l0 (k + 1) s (can v) (i : Int) = _
    rw [reckonerref02_Parse.l0, if_pos (by omega)]
    simp only [if_pos (show (0 : Int) ≤ (i : Int) by omega), e1]
theorem Parse_ev (s : ByteArray) (hs : s.size ≤ 1000) (v : Int) (h : pv s 0 s.size 0 = v) : Ev (fun k => reckonerref02_Parse.f k s) (can v) := by
  have h1 := Parse_loop s hs s.size 0 0 (by omega) (Int.le_refl 0) (by decide)
  rw [h] at h1
  exact h1
theorem aw1 : nat_Pow.f [10] 20 = some (can 100000000000000000000, 0) := by
  have e : valB W64 [10] ^ (20 : Int).toNat = 100000000000000000000 := by decide
  have hl : (can 100000000000000000000).length ≤ 4096 := Nat.le_trans (can_short (n := 2) (by decide) (by decide)) (by decide)
  unfold nat_Pow.f
  rw [if_pos (by decide), if_pos (by decide), if_neg (by decide), e]
  unfold fitV
  rw [if_pos hl]
theorem aw2 : nat_Square.f [18446744073709551615] = some (can 340282366920938463426481119284349108225, 0) := by
  have e : valB W64 [18446744073709551615] * valB W64 [18446744073709551615] = 340282366920938463426481119284349108225 := by decide
  have hl : (can 340282366920938463426481119284349108225).length ≤ 4096 := Nat.le_trans (can_short (n := 2) (by decide) (by decide)) (by decide)
  unfold nat_Square.f
  rw [if_pos (by decide), if_pos (by decide), e]
  unfold fitV
  rw [if_pos hl]
theorem aw3 : nat_DivMod.f [7766279631452241920, 5] [3] = some (can 33333333333333333333, can 1, 0) := by
  have e1 : valB W64 [7766279631452241920, 5] / valB W64 [3] = 33333333333333333333 := by decide
  have e2 : valB W64 [7766279631452241920, 5] % valB W64 [3] = 1 := by decide
  unfold nat_DivMod.f
  rw [if_pos (by decide), if_pos (by decide), if_neg (by decide), e1, e2]
theorem aw4 : nat_Sub.f [1] [2] = some ([], 8) := by
  unfold nat_Sub.f
  rw [if_pos (by decide), if_pos (by decide), if_pos (by decide)]
theorem awake_ev : Ev (fun k => reckonerlaw02_awake.f k) true := by
  have p1 := Parse_ev ⟨#[49, 48, 48, 48, 48, 48, 48, 48, 48, 48, 48, 48, 48, 48, 48, 48, 48, 48, 48, 48, 48]⟩ (by decide) 100000000000000000000 (by decide +kernel)
  have p2 := Parse_ev ⟨#[51, 51, 51, 51, 51, 51, 51, 51, 51, 51, 51, 51, 51, 51, 51, 51, 51, 51, 51, 51]⟩ (by decide) 33333333333333333333 (by decide +kernel)
  have l1 : (can 100000000000000000000).length ≤ 2 := can_short (by decide) (by decide)
  have l2 : (can 33333333333333333333).length ≤ 2 := can_short (by decide) (by decide)
  have i1 := RIs_ev (can 100000000000000000000) (can_in (by decide)) (by omega) (can_val (by decide))
  have i2 := RIs_ev (v := 340282366920938463426481119284349108225) [1, 18446744073709551614] (by decide) (by decide) (by decide)
  have i3 := RIs_ev (can 33333333333333333333) (can_in (by decide)) (by omega) (can_val (by decide))
  have i4 := RIs_ev (v := 1) [1] (by decide) (by decide) (by decide)
  refine Ev.congr (f := fun k => (reckonerref02_Parse.f k (⟨#[49, 48, 48, 48, 48, 48, 48, 48, 48, 48, 48, 48, 48, 48, 48, 48, 48, 48, 48, 48, 48]⟩ : ByteArray)).bind fun t280 => ((reckonerref02_Is.f k (can 100000000000000000000) t280).bind fun t283 => (if t283 = true then ((reckonerref02_Is.f k (can 340282366920938463426481119284349108225) (([1, 18446744073709551614] : List Int))).bind fun t287 => (if t287 = true then ((reckonerref02_Parse.f k (⟨#[51, 51, 51, 51, 51, 51, 51, 51, 51, 51, 51, 51, 51, 51, 51, 51, 51, 51, 51, 51]⟩ : ByteArray)).bind fun t288 => ((reckonerref02_Is.f k (can 33333333333333333333) t288).bind fun t291 => (if t291 = true then ((reckonerref02_Is.f k (can 1) (([1] : List Int))).bind fun t295 => (if t295 = true then (some ((8 : Int) == 8)) else (none))) else (none)))) else (none))) else (none)))) (fun k => ?_) (Ev.bind p1 (Ev.bind i1 ?_))
  · show reckonerlaw02_awake.f k = _
    unfold reckonerlaw02_awake.f
    rw [aw1, aw2, aw3, aw4]
    rfl
  · simp only [if_true]
    refine Ev.bind i2 ?_
    simp only [if_true]
    refine Ev.bind p2 (Ev.bind i3 ?_)
    simp only [if_true]
    refine Ev.bind i4 ?_
    simp only [if_true]
    exact Ev.now true
end Go.Proofs.Ytkkkbalefnileaa.Ex
/- The bits of a word: what the library's OnesCount64 calculates; what is counted bit by bit. No program here. -/
namespace Go.Proofs.Ytkkkbalefnileaa.Ex
open Go Go.Lib
set_option linter.unusedVariables false

def f1 (b : Nat) : Nat := (b / 2 &&& 85) + (b &&& 85)
def f2 (b : Nat) : Nat := (b / 4 &&& 51) + (b &&& 51)
theorem popAux_add : ∀ (m n x : Nat), popAux (m + n) x = popAux m (x % 2 ^ m) + popAux n (x / 2 ^ m)
  | 0, n, x => by simp [popAux]
  | m + 1, n, x => by
    have h1 : x % 2 ^ (m + 1) % 2 = x % 2 := Nat.mod_mod_of_dvd x ⟨2 ^ m, by rw [Nat.pow_succ, Nat.mul_comm]⟩
    have h2 : x % 2 ^ (m + 1) / 2 = x / 2 % 2 ^ m := by rw [Nat.pow_succ, Nat.mul_comm, Nat.mod_mul_right_div_self]
    have h3 : x / 2 / 2 ^ m = x / 2 ^ (m + 1) := by rw [Nat.div_div_eq_div_mul, Nat.pow_succ, Nat.mul_comm]
    rw [show m + 1 + n = (m + n) + 1 by omega]
    show x % 2 + popAux (m + n) (x / 2) = (x % 2 ^ (m + 1) % 2 + popAux m (x % 2 ^ (m + 1) / 2)) + popAux n (x / 2 ^ (m + 1))
    rw [h1, h2, popAux_add m n (x / 2), h3]
    omega
end Go.Proofs.Ytkkkbalefnileaa.Ex
/- The bits of a word, one by one: what the reference counts. -/
namespace Go.Proofs.Ytkkkbalefnileaa.Ex
open Go.RowKit Go.Proofs.YtkkkbalefnileaaW.PrintWords Go.Proofs.YtkkkbalefnileaaW.PrintLast Go.Proofs.YtkkkbalefnileaaW.PrintMore Go.Proofs.Ytkkkbalefnileaa.T
set_option linter.unusedVariables false
set_option linter.unusedSimpArgs false

/-! ### bit by bit -/
theorem two_adic {k c m n : Nat} (h : 2 ^ k * (2 * m + 1) = 2 ^ c * (2 * n + 1)) : k = c := by
  rcases Nat.lt_trichotomy k c with h1 | h1 | h1
  · exfalso
    obtain ⟨d, rfl⟩ : ∃ d, c = k + 1 + d := ⟨c - k - 1, by omega⟩
    have h2 : 2 ^ (k + 1 + d) = 2 ^ k * (2 * 2 ^ d) := by rw [Nat.pow_add, Nat.pow_succ, Nat.mul_assoc]
    rw [h2, Nat.mul_assoc] at h
    have h3 := Nat.eq_of_mul_eq_mul_left (Nat.pow_pos (by decide)) h
    rw [Nat.mul_assoc] at h3
    generalize 2 ^ d * (2 * n + 1) = z at h3
    omega
  · exact h1
  · exfalso
    obtain ⟨d, rfl⟩ : ∃ d, k = c + 1 + d := ⟨k - c - 1, by omega⟩
    have h2 : 2 ^ (c + 1 + d) = 2 ^ c * (2 * 2 ^ d) := by rw [Nat.pow_add, Nat.pow_succ, Nat.mul_assoc]
    rw [h2, Nat.mul_assoc] at h
    have h3 := Nat.eq_of_mul_eq_mul_left (Nat.pow_pos (by decide)) h
    rw [Nat.mul_assoc] at h3
    generalize 2 ^ d * (2 * m + 1) = z at h3
    omega
theorem ctz_spec {x : Nat} (h0 : x ≠ 0) (h : x < 2 ^ 64) : ∃ m, x = 2 ^ Lib.ctz 64 x * (2 * m + 1) := by
  obtain ⟨m, h1, _⟩ := Lib.ctzFrom_spec 64 x (by omega) h
  refine ⟨m, ?_⟩
  unfold Lib.ctz
  rw [if_neg h0]
  exact h1
theorem ctz_unique {x k m : Nat} (h : x < 2 ^ 64) (he : x = 2 ^ k * (2 * m + 1)) : Lib.ctz 64 x = k := by
  have h0 : x ≠ 0 := by
    rw [he]
    exact Nat.ne_of_gt (Nat.mul_pos (Nat.pow_pos (by decide)) (by omega))
  obtain ⟨n, hn⟩ := ctz_spec h0 h
  rw [hn] at he
  exact two_adic he
theorem ctz_lt {y i : Nat} (h0 : y ≠ 0) (hi : i ≤ 64) (h : y < 2 ^ i) : Lib.ctz 64 y < i := by
  have h64 : y < 2 ^ 64 := Nat.lt_of_lt_of_le h (Nat.pow_le_pow_right (by decide) hi)
  obtain ⟨m, hm⟩ := ctz_spec h0 h64
  rcases Nat.lt_or_ge (Lib.ctz 64 y) i with h1 | h1
  · exact h1
  · exfalso
    have h2 : 2 ^ i ≤ 2 ^ Lib.ctz 64 y := Nat.pow_le_pow_right (by decide) h1
    have h3 : 2 ^ Lib.ctz 64 y * 1 ≤ 2 ^ Lib.ctz 64 y * (2 * m + 1) := Nat.mul_le_mul_left _ (by omega)
    omega
theorem ctz_more {y i : Nat} (hi : i < 64) (h : y < 2 ^ i) : Lib.ctz 64 (y + 2 ^ i) = min (Lib.ctz 64 y) i := by
  have hp : 2 ^ (i + 1) ≤ 2 ^ 64 := Nat.pow_le_pow_right (by decide) (by omega)
  rw [Nat.pow_succ] at hp
  have h64 : y + 2 ^ i < 2 ^ 64 := by omega
  by_cases h0 : y = 0
  · subst h0
    have h1 : Lib.ctz 64 0 = 64 := rfl
    rw [h1, Nat.min_eq_right (by omega)]
    exact ctz_unique (m := 0) h64 (by omega)
  · have hl := ctz_lt h0 (by omega) h
    obtain ⟨m, hm⟩ := ctz_spec h0 (by omega)
    rw [Nat.min_eq_left (by omega)]
    generalize Lib.ctz 64 y = c at *
    obtain ⟨d, rfl⟩ : ∃ d, i = c + 1 + d := ⟨i - c - 1, by omega⟩
    refine ctz_unique (m := m + 2 ^ d) h64 ?_
    have h2 : 2 ^ (c + 1 + d) = 2 ^ c * (2 * 2 ^ d) := by rw [Nat.pow_add, Nat.pow_succ, Nat.mul_assoc]
    rw [h2, hm, ← Nat.mul_add]
    congr 1
    omega
theorem len_more {y i : Nat} (hi : i < 64) (h : y < 2 ^ i) : Lib.bitLen (y + 2 ^ i) = i + 1 := by
  have hp : 2 ^ (i + 1) ≤ 2 ^ 64 := Nat.pow_le_pow_right (by decide) (by omega)
  rw [Nat.pow_succ] at hp
  rw [Lib.bitLen_shift i (y + 2 ^ i) (by omega) (by omega)]
  have h1 : (y + 2 ^ i) / 2 ^ i = 1 := by
    rw [Nat.add_div_right _ (Nat.pow_pos (by decide)), Nat.div_eq_of_lt h]
  rw [h1]
  rfl
theorem popAux_zero : ∀ n, Lib.popAux n 0 = 0
  | 0 => rfl
  | n + 1 => by show 0 % 2 + Lib.popAux n (0 / 2) = 0; rw [Nat.zero_div, popAux_zero n]
theorem pop_more {y i : Nat} (hi : i < 64) (h : y < 2 ^ i) : Lib.onesCount (y + 2 ^ i) = Lib.onesCount y + 1 := by
  obtain ⟨n, hn⟩ : ∃ n, 64 = i + (n + 1) := ⟨63 - i, by omega⟩
  unfold Lib.onesCount
  rw [hn, popAux_add, popAux_add i (n + 1) y]
  have h1 : (y + 2 ^ i) / 2 ^ i = 1 := by
    rw [Nat.add_div_right _ (Nat.pow_pos (by decide)), Nat.div_eq_of_lt h]
  have h2 : (y + 2 ^ i) % 2 ^ i = y % 2 ^ i := Nat.add_mod_right _ _
  rw [h1, h2, Nat.div_eq_of_lt h, popAux_zero]
  show _ + (1 % 2 + Lib.popAux n (1 / 2)) = _
  rw [show 1 / 2 = 0 by decide, popAux_zero]
theorem Count_loop (x : Nat) (hx : x < 2 ^ 64) : ∀ (m i : Nat), i + m = 64 →
    Ev (fun k => reckonerref01_Count.l0 k (x : Int) (64 - (Lib.bitLen (x % 2 ^ i) : Int)) (Lib.ctz 64 (x % 2 ^ i) : Int) (Lib.onesCount (x % 2 ^ i) : Int) (i : Int)) (64 - (Lib.bitLen x : Int), (Lib.ctz 64 x : Int), (Lib.onesCount x : Int))
  | 0, i, hi => by
    obtain rfl : i = 64 := by omega
    rw [Nat.mod_eq_of_lt hx]
    refine Ev.now' fun k => ?_
    rw [reckonerref01_Count.l0, if_neg (by decide)]
  | m + 1, i, hi => by
    have q1 : ((i : Int) < 64) := by omega
    have q2 : (0 : Int) ≤ (i : Int) := by omega
    have e1 := w64_suc i (by omega)
    have hs : shr .u64 (x : Int) (i : Int) = ((x / 2 ^ i : Nat) : Int) := by
      rw [← shr_small (rfl : shr .u64 (x : Int) (i : Int) = _) (show (i : Int) ≤ ((64 : Nat) : Int) by omega)]
      show (x : Int) / 2 ^ i = _
      simp
    have ht : Int.tmod ((x / 2 ^ i : Nat) : Int) 2 = ((x / 2 ^ i % 2 : Nat) : Int) := by rw [Int.tmod_eq_emod_of_nonneg (Int.natCast_nonneg _)]; rfl
    have hy : x % 2 ^ i < 2 ^ i := Nat.mod_lt _ (Nat.pow_pos (by decide))
    have hmod : x % 2 ^ (i + 1) = x % 2 ^ i + 2 ^ i * (x / 2 ^ i % 2) := Nat.mod_pow_succ
    have ih := Count_loop x hx m (i + 1) (by omega)
    by_cases hb : x / 2 ^ i % 2 = 1
    · rw [hb, Nat.mul_one] at hmod
      have hl := len_more (by omega) hy
      have hc := ctz_more (by omega) hy
      have hp := pop_more (by omega) hy
      have hpl : Lib.onesCount (x % 2 ^ i) ≤ 1000 := by
        have h1 : ∀ n z, Lib.popAux n z ≤ n := by
          intro n
          induction n with
          | zero => intro z; exact Nat.le_refl 0
          | succ n ih => intro z; show z % 2 + Lib.popAux n (z / 2) ≤ n + 1; have := ih (z / 2); omega
        have h2 := h1 64 (x % 2 ^ i)
        unfold Lib.onesCount
        omega
      rw [hmod, hl, hc, hp] at ih
      refine Ev.step (fun k => ?_) ih
      have f1 : wrap64 (63 - (i : Int)) = 64 - ((i + 1 : Nat) : Int) := by rw [w64_int _ (by omega) (by omega)]; omega
      have f2 : mn (Lib.ctz 64 (x % 2 ^ i) : Int) (i : Int) = ((min (Lib.ctz 64 (x % 2 ^ i)) i : Nat) : Int) := by rw [mn_eq]; omega
      have f3 : wrap64 ((Lib.onesCount (x % 2 ^ i) : Int) + 1) = ((Lib.onesCount (x % 2 ^ i) + 1 : Nat) : Int) := w64_suc _ (by omega)
      rw [reckonerref01_Count.l0, if_pos q1, if_pos q2, hs, ht, hb, if_pos (by rfl), f1, f2, f3, e1]
    · have hb0 : x / 2 ^ i % 2 = 0 := by omega
      simp only [hb0, Nat.mul_zero, Nat.add_zero] at hmod
      rw [hmod] at ih
      refine Ev.step (fun k => ?_) ih
      have n1 : ¬ (((0 : Nat) : Int) = 1) := by decide
      rw [reckonerref01_Count.l0, if_pos q1, if_pos q2, hs, ht, hb0, if_neg n1, e1]
theorem RCount_ev (x : Nat) (hx : x < 2 ^ 64) : Ev (fun k => reckonerref01_Count.f k (x : Int)) (64 - (Lib.bitLen x : Int), (Lib.ctz 64 x : Int), (Lib.onesCount x : Int)) := by
  have h := Count_loop x hx 64 0 (by omega)
  rw [Nat.pow_zero, Nat.mod_one] at h
  exact h
end Go.Proofs.Ytkkkbalefnileaa.Ex
/- The reference's length and powers of numbers. -/
namespace Go.Proofs.Ytkkkbalefnileaa.Ex
open Go.RowKit Go.Proofs.YtkkkbalefnileaaW.PrintWords Go.Proofs.YtkkkbalefnileaaW.PrintLast Go.Proofs.YtkkkbalefnileaaW.PrintMore Go.Proofs.Ytkkkbalefnileaa.T
set_option linter.unusedVariables false
set_option linter.unusedSimpArgs false

theorem RLen_loop (x : List Int) (hx : inW x) (hn : x.length ≤ 400000) (n : Nat) : n ≤ x.length → Ev (fun k => reckonerref02_Len.l0 k x ((n : Int) - 1)) (lenL (can (valB W64 (x.take n)))) := by
  induction n with
  | zero =>
    intro _
    refine Ev.now' fun k => ?_
    rw [reckonerref02_Len.l0, if_neg (by omega)]
    rfl
  | succ n ih =>
    intro h
    have e1 : (((n + 1 : Nat) : Int) - 1) = (n : Int) := by omega
    have e2 : wrap64 ((n : Int) - 1) = (n : Int) - 1 := w64_int _ (by omega) (by omega)
    have hv := valB_take_succ W64 x n (by omega)
    have hxw := isW_get hx n
    rw [e1]
    by_cases h0 : x.getD n 0 = 0
    · rw [h0, Int.mul_zero, Int.add_zero] at hv
      rw [hv]
      refine Ev.step (fun k => ?_) (ih (by omega))
      rw [reckonerref02_Len.l0, if_pos (by omega), if_pos (by omega), if_pos (by omega), rd_nat, if_pos h0, e2]
    · have hc : canL (x.take (n + 1)) := canL_of (inB_take hx _) (.inr (by
        rw [List.length_take, Nat.min_eq_left (by omega), Nat.add_sub_cancel]
        have : (x.take (n + 1)).getD n 0 = x.getD n 0 := by simp [List.getD_eq_getElem?_getD, List.getElem?_take]
        rw [this]; exact h0))
      rw [can_can hc]
      obtain ⟨X, hX⟩ := Int.eq_ofNat_of_zero_le hxw.1
      have hX2 := hxw.2
      rw [hX] at hX2 h0
      rw [W64_eq] at hX2
      have hb := bitLen_bounds 64 X (Nat.le_refl _) (by omega)
      have rc := RCount_ev X (by omega)
      have e : lenL (x.take (n + 1)) = wrap64 ((wrap64 ((wrap64 (64 * (n : Int))) + 64)) - (64 - (Lib.bitLen X : Int))) := by
        unfold lenL
        have hl : (x.take (n + 1)).length = n + 1 := by rw [List.length_take]; omega
        have hg : (x.take (n + 1)).getD n 0 = x.getD n 0 := by simp [List.getD_eq_getElem?_getD, List.getElem?_take]
        rw [hl, if_neg (by omega), Nat.add_sub_cancel, hg, hX, Int.toNat_natCast]
        rw [w64_int (64 * (n : Int)) (by omega) (by omega), w64_int (64 * (n : Int) + 64) (by omega) (by omega), w64_int (64 * (n : Int) + 64 - (64 - (Lib.bitLen X : Int))) (by omega) (by omega)]
        omega
      rw [e]
      refine Ev.step (f := fun k => (reckonerref01_Count.f k (X : Int)).bind fun bt => some (wrap64 ((wrap64 ((wrap64 (64 * (n : Int))) + 64)) - bt.1))) (fun k => ?_) (Ev.bind rc (Ev.now _))
      rw [reckonerref02_Len.l0, if_pos (by omega), if_pos (by omega), if_pos (by omega), rd_nat, hX, if_neg h0]
theorem RLen_ev (x : List Int) (hx : inW x) (hn : x.length ≤ 400000) : Ev (fun k => reckonerref02_Len.f k x) (lenL (can (valB W64 x))) := by
  have h := RLen_loop x hx hn x.length (Nat.le_refl _)
  rw [List.take_length] at h
  refine Ev.congr (fun k => ?_) h
  show reckonerref02_Len.f k x = _
  unfold reckonerref02_Len.f
  rw [w64_int _ (by omega) (by omega)]
end Go.Proofs.Ytkkkbalefnileaa.Ex
/- Powers of two as words. -/
namespace Go.Proofs.Ytkkkbalefnileaa.Ex
open Go.RowKit Go.Proofs.YtkkkbalefnileaaW.PrintWords Go.Proofs.YtkkkbalefnileaaW.PrintLast Go.Proofs.YtkkkbalefnileaaW.PrintMore Go.Proofs.Ytkkkbalefnileaa.T
set_option linter.unusedVariables false
set_option linter.unusedSimpArgs false

theorem pow2_lt (n : Nat) (h : n ≤ 63) : isW ((2 : Int) ^ n) := by
  have h1 : 2 ^ n < 2 ^ 64 := Nat.pow_lt_pow_right (by decide) (by omega)
  have h2 : (2 : Int) ^ n = ((2 ^ n : Nat) : Int) := by simp
  have h3 : 2 ^ n < 18446744073709551616 := h1
  unfold isW
  rw [h2, W64_eq]
  exact ⟨Int.natCast_nonneg _, Int.ofNat_lt.2 h3⟩
theorem shl_one (s : Int) (h0 : 0 ≤ s) (h1 : s ≤ 63) : shl .u64 1 s = 2 ^ s.toNat := by
  have h := pow2_lt s.toNat (by omega)
  have h2 := h.2
  rw [W64_eq] at h2
  rw [← shl_small (rfl : shl .u64 1 s = shl .u64 1 s) (show s ≤ ((64 : Nat) : Int) by omega), Int.one_mul]
  exact wrapW _ h.1 h2
end Go.Proofs.Ytkkkbalefnileaa.Ex
/- What a shift of a row to the right makes, word by word. -/
namespace Go.Proofs.Ytkkkbalefnileaa.Ex
open Go.RowKit Go.Shelf Go.Proofs.YtkkkbalefnileaaW.PrintWords Go.Proofs.YtkkkbalefnileaaW.PrintLast Go.Proofs.YtkkkbalefnileaaW.PrintMore
set_option linter.unusedVariables false
set_option linter.unusedSimpArgs false

/-- What stays of a word, with what has fallen into it; what falls into the one below. -/
def rightS (n : Nat) (l : List Int) (i : Nat) (c : Int) : Int × Int := (l.getD i 0 / 2 ^ n + c, l.getD i 0 % 2 ^ n * 2 ^ (64 - n))
/-- What may be carried. -/
def fallen (n : Nat) (c : Int) : Prop := ∃ k : Nat, k < 2 ^ n ∧ c = ((k * 2 ^ (64 - n) : Nat) : Int)
theorem right_eq (x c m : Int) (hx : isW x) (hm0 : 0 ≤ m) (hm1 : m ≤ 63) (hc : fallen m.toNat c) :
    bits .or .u64 (x / 2 ^ m.toNat) c = x / 2 ^ m.toNat + c ∧ IntKind.u64.wrap (x * 2 ^ (64 - m).toNat) = x % 2 ^ m.toNat * 2 ^ (64 - m.toNat) ∧ fallen m.toNat (x % 2 ^ m.toNat * 2 ^ (64 - m.toNat)) := by
  obtain ⟨n, rfl⟩ := Int.eq_ofNat_of_zero_le hm0
  obtain ⟨X, rfl⟩ := Int.eq_ofNat_of_zero_le hx.1
  obtain ⟨k, hk, rfl⟩ := hc
  have hX := hx.2
  rw [W64_eq] at hX
  have e2 : (64 - (n : Int)).toNat = 64 - n := by omega
  have e3 : (n : Int).toNat = n := rfl
  rw [e3] at hk ⊢
  rw [e2]
  have hB : 2 ^ n * 2 ^ (64 - n) = 18446744073709551616 := by rw [← Nat.pow_add, show n + (64 - n) = 64 by omega]
  have hp : 0 < 2 ^ n := Nat.pow_pos (by decide)
  have hp2 : 0 < 2 ^ (64 - n) := Nat.pow_pos (by decide)
  have ep : (2 : Int) ^ n = ((2 ^ n : Nat) : Int) := by simp
  have ep2 : (2 : Int) ^ (64 - n) = ((2 ^ (64 - n) : Nat) : Int) := by simp
  have hq : X / 2 ^ n < 2 ^ (64 - n) := by rw [Nat.div_lt_iff_lt_mul hp, Nat.mul_comm, hB]; omega
  have hr := Nat.mod_lt X hp
  have hkk : k * 2 ^ (64 - n) + 2 ^ (64 - n) ≤ 18446744073709551616 := by
    have h1 : (k + 1) * 2 ^ (64 - n) ≤ 2 ^ n * 2 ^ (64 - n) := Nat.mul_le_mul_right _ hk
    rw [hB, Nat.add_mul, Nat.one_mul] at h1
    exact h1
  have hrr : X % 2 ^ n * 2 ^ (64 - n) < 18446744073709551616 := by
    have h1 : (X % 2 ^ n + 1) * 2 ^ (64 - n) ≤ 2 ^ n * 2 ^ (64 - n) := Nat.mul_le_mul_right _ hr
    rw [hB, Nat.add_mul, Nat.one_mul] at h1
    omega
  refine ⟨?_, ?_, ⟨X % 2 ^ n, hr, by rw [ep, ep2, Int.natCast_mul]; rfl⟩⟩
  · rw [ep]
    have e4 : ((X : Int) / ((2 ^ n : Nat) : Int)) = ((X / 2 ^ n : Nat) : Int) := by omega
    rw [e4, bits_or_u64_nat _ _ (by omega) (by omega)]
    have h2 := Nat.two_pow_add_eq_or_of_lt hq k
    rw [Nat.or_comm, Nat.mul_comm k, ← h2]
    omega
  · rw [ep, ep2]
    have e5 : ((X : Int) % ((2 ^ n : Nat) : Int)) = ((X % 2 ^ n : Nat) : Int) := by omega
    rw [e5, ← Int.natCast_mul, ← Int.natCast_mul]
    show ((X * 2 ^ (64 - n) % 18446744073709551616 : Nat) : Int) = _
    congr 1
    have hd := Nat.div_add_mod X (2 ^ n)
    generalize X / 2 ^ n = q at hd
    generalize X % 2 ^ n = r at hd hrr ⊢
    rw [← hd, Nat.add_mul, Nat.mul_right_comm, hB, Nat.mul_add_mod, Nat.mod_eq_of_lt hrr]
theorem fallen_zero (n : Nat) : fallen n 0 := ⟨0, Nat.pow_pos (by decide), by simp⟩
end Go.Proofs.Ytkkkbalefnileaa.Ex
/- The reference's shifts of a row by less than a word. -/
namespace Go.Proofs.Ytkkkbalefnileaa.Ex
open Go.RowKit Go.Proofs.YtkkkbalefnileaaW.PrintWords Go.Proofs.YtkkkbalefnileaaW.PrintLast Go.Proofs.YtkkkbalefnileaaW.PrintMore Go.Proofs.Ytkkkbalefnileaa.T
set_option linter.unusedVariables false
set_option linter.unusedSimpArgs false

/-- The reference's product of a row and a word is the program's. -/
theorem MulW_ev (x : List Int) (w : Int) (hx : inW x) (hw : isW w) (hn : x.length ≤ 4096) :
    Ev (fun k => (reckonerref01_Digits.f k x).bind fun t486 => ((reckonerref01_Times.f k t486 [w % H32, w / H32]).bind fun t492 => ((reckonerref01_Cut.f k t492 (x.length : Int)).bind fun bt495 => (some (bt495.1, bt495.2))))) (carryL (fun i c => moreS (x.getD i 0) w c 0) x.length 0 0) := by
  have d1 := Digits_ev x hx (by omega)
  obtain ⟨p, p1, p2, p3, p4⟩ := Times_ev (digitsL x) [w % H32, w / H32] (digitsL_in hx) (word_in _ hw) (by rw [digitsL_length]; omega) (by simp)
  rw [digitsL_val, word_val] at p4
  have hpl : p.length = 2 * x.length + 2 := by rw [p3, digitsL_length]; rfl
  obtain ⟨row, t, c1, c2, c3, c4, c5⟩ := Cut_ev x.length (by omega) p p2 (by omega)
  have hp0 := valB_nonneg H32_pos p2
  have hp1 := valB_lt H32_pos p2
  rw [hpl, show 2 * x.length + 2 = 2 * (x.length + 1) by omega, H32_pow, Int.pow_succ] at hp1
  rw [Int.emod_eq_of_lt hp0 hp1, p4] at c5
  obtain ⟨v1, v2, v3⟩ := mul_val x w 0 hx hw ⟨Int.le_refl 0, W64_pos⟩
  have hlen := carryL_length (fun i c => moreS (x.getD i 0) w c 0) x.length 0 0
  obtain ⟨z, u, hzu⟩ : ∃ z u, carryL (fun i c => moreS (x.getD i 0) w c 0) x.length 0 0 = (z, u) := ⟨_, _, rfl⟩
  rw [hzu] at v2 v3 hlen ⊢
  simp only at v2 v3 hlen
  rw [Int.add_zero, ← c5] at v3
  obtain ⟨e1, e2⟩ := row_eq v2 c2 hlen c3 v3
  rw [e1, e2]
  exact Ev.bind d1 (Ev.bind p1 (Ev.bind c1 (Ev.now (row, t))))
/-- The reference's shift to the left is the program's. -/
theorem Left_ev (x : List Int) (s : Int) (hx : inW x) (h0 : 0 ≤ s) (h1 : s ≤ 63) (hn : x.length ≤ 4096) :
    Ev (fun k => reckonerref01_Left.f k x s) (carryL (fun i c => moreS (x.getD i 0) (2 ^ s.toNat) c 0) x.length 0 0) := by
  have hw := pow2_lt s.toNat (by omega)
  have hs := shl_one s h0 h1
  generalize (2 : Int) ^ s.toNat = w at hw hs ⊢
  refine Ev.congr (fun k => ?_) (MulW_ev x w hx hw hn)
  show reckonerref01_Left.f k x s = _
  unfold reckonerref01_Left.f
  rw [hs, Word_some w hw]
  congr 1
  funext t
  rw [if_pos h0, Option.bind_some]
theorem right_sum (x c : Int) (n : Nat) (hx : isW x) (hn : n ≤ 63) (hc : fallen n c) : 0 ≤ c + x / 2 ^ n ∧ c + x / 2 ^ n < 18446744073709551616 := by
  obtain ⟨X, rfl⟩ := Int.eq_ofNat_of_zero_le hx.1
  obtain ⟨k, hk, rfl⟩ := hc
  have hX := hx.2
  rw [W64_eq] at hX
  have hB : 2 ^ n * 2 ^ (64 - n) = 18446744073709551616 := by rw [← Nat.pow_add, show n + (64 - n) = 64 by omega]
  have hp : 0 < 2 ^ n := Nat.pow_pos (by decide)
  have ep : (2 : Int) ^ n = ((2 ^ n : Nat) : Int) := by simp
  have hq : X / 2 ^ n < 2 ^ (64 - n) := by rw [Nat.div_lt_iff_lt_mul hp, Nat.mul_comm, hB]; omega
  have hkk : k * 2 ^ (64 - n) + 2 ^ (64 - n) ≤ 18446744073709551616 := by
    have h1 : (k + 1) * 2 ^ (64 - n) ≤ 2 ^ n * 2 ^ (64 - n) := Nat.mul_le_mul_right _ hk
    rw [hB, Nat.add_mul, Nat.one_mul] at h1
    exact h1
  rw [ep]
  have e4 : ((X : Int) / ((2 ^ n : Nat) : Int)) = ((X / 2 ^ n : Nat) : Int) := by omega
  rw [e4]
  generalize X / 2 ^ n = q at *
  generalize k * 2 ^ (64 - n) = kk at *
  generalize 2 ^ (64 - n) = e at *
  omega
theorem Right_loop (x : List Int) (s : Int) (hx : inW x) (h0 : 0 ≤ s) (h1 : s ≤ 63) (hn : x.length ≤ 1000000) : ∀ m (out : List Int) (c : Int), m ≤ x.length → out.length = x.length → fallen s.toNat c →
    Ev (fun k => reckonerref01_Right.l0 k x s out c ((m : Int) - 1)) ((downL (rightS s.toNat x) m c).1 ++ out.drop m, (downL (rightS s.toNat x) m c).2)
  | 0, out, c, _, _, _ => Ev.now' fun k => by
      have q1 : ¬ ((((0 : Nat) : Int) - 1) ≥ 0) := by decide
      rw [reckonerref01_Right.l0, if_neg q1]
      rfl
  | m + 1, out, c, hm, hol, hc => by
    have e0 : (((m + 1 : Nat) : Int) - 1) = (m : Int) := by omega
    have q1 : ((m : Int) ≥ 0) := by omega
    have q2 : (0 : Int) ≤ (m : Int) := by omega
    have q3 : (m : Int) < (x.length : Int) := by omega
    have q5 : (m : Int) < (out.length : Int) := by omega
    have e1 : wrap64 ((m : Int) - 1) = (m : Int) - 1 := w64_int _ (by omega) (by omega)
    have hxm := isW_get hx m
    obtain ⟨_, r2, r3⟩ := right_eq (x.getD m 0) c s hxm h0 h1 hc
    have rs := right_sum (x.getD m 0) c s.toNat hxm (by omega) hc
    have es : shr .u64 (x.getD m 0) s = x.getD m 0 / 2 ^ s.toNat := (shr_small rfl (show s ≤ ((64 : Nat) : Int) by omega)).symm
    have ew : IntKind.u64.wrap (c + x.getD m 0 / 2 ^ s.toNat) = x.getD m 0 / 2 ^ s.toNat + c := by rw [wrapW _ rs.1 rs.2, Int.add_comm]
    have ih := Right_loop x s hx h0 h1 hn m (out.set m (x.getD m 0 / 2 ^ s.toNat + c)) (x.getD m 0 % 2 ^ s.toNat * 2 ^ (64 - s.toNat)) (by omega) (by rw [List.length_set]; exact hol) r3
    have ed : (out.set m (x.getD m 0 / 2 ^ s.toNat + c)).drop m = (x.getD m 0 / 2 ^ s.toNat + c) :: out.drop (m + 1) := by
      rw [List.drop_eq_getElem_cons (by rw [List.length_set]; omega)]
      simp [List.drop_set]
    rw [ed] at ih
    have er : (downL (rightS s.toNat x) (m + 1) c).1 ++ out.drop (m + 1) = (downL (rightS s.toNat x) m (x.getD m 0 % 2 ^ s.toNat * 2 ^ (64 - s.toNat))).1 ++ (x.getD m 0 / 2 ^ s.toNat + c) :: out.drop (m + 1) := by
      show ((downL (rightS s.toNat x) m (x.getD m 0 % 2 ^ s.toNat * 2 ^ (64 - s.toNat))).1 ++ [x.getD m 0 / 2 ^ s.toNat + c]) ++ out.drop (m + 1) = _
      rw [List.append_assoc]
      rfl
    rw [er]
    refine Ev.step (fun k => ?_) ih
    rw [e0, reckonerref01_Right.l0, if_pos q1, if_pos q2, if_pos q3, if_pos h0, if_pos q5, rd_nat, es, ew, Option.bind_some, e1, Int.toNat_natCast]
    by_cases hs : s > 0
    · have e2 : wrap64 (64 - s) = 64 - s := w64_int _ (by omega) (by omega)
      have q6 : (0 : Int) ≤ 64 - s := by omega
      have el : shl .u64 (x.getD m 0) (64 - s) = x.getD m 0 % 2 ^ s.toNat * 2 ^ (64 - s.toNat) := by rw [← shl_small (rfl : shl .u64 (x.getD m 0) (64 - s) = _) (show 64 - s ≤ ((64 : Nat) : Int) by omega)]; exact r2
      rw [if_pos hs, e2, if_pos q6, el]
    · have hs0 : s = 0 := by omega
      subst hs0
      have el : x.getD m 0 % 2 ^ (0 : Int).toNat * 2 ^ (64 - (0 : Int).toNat) = 0 := by
        show x.getD m 0 % 2 ^ 0 * 2 ^ 64 = 0
        rw [Int.pow_zero, Int.emod_one, Int.zero_mul]
      rw [if_neg hs, el]
theorem Right_ev (x : List Int) (s : Int) (hx : inW x) (h0 : 0 ≤ s) (h1 : s ≤ 63) (hn : x.length ≤ 1000000) : Ev (fun k => reckonerref01_Right.f k x s) (downL (rightS s.toNat x) x.length 0) := by
  have h := Right_loop x s hx h0 h1 hn x.length (List.replicate x.length 0) 0 (Nat.le_refl _) (by simp) (fallen_zero _)
  rw [List.drop_of_length_le (by simp), List.append_nil] at h
  refine Ev.congr (fun k => ?_) h
  have q1 : (0 : Int) ≤ (x.length : Int) := by omega
  have q2 : x.length ≤ 35184372088832 := by omega
  have e1 : wrap64 ((x.length : Int) - 1) = (x.length : Int) - 1 := w64_int _ (by omega) (by omega)
  show reckonerref01_Right.f k x s = _
  unfold reckonerref01_Right.f
  rw [if_pos q1, Int.toNat_natCast, if_pos q2, e1]
end Go.Proofs.Ytkkkbalefnileaa.Ex
/- The reference's shifts of numbers. -/
namespace Go.Proofs.Ytkkkbalefnileaa.Ex
open Go.RowKit Go.Proofs.YtkkkbalefnileaaW.PrintWords Go.Proofs.YtkkkbalefnileaaW.PrintLast Go.Proofs.YtkkkbalefnileaaW.PrintMore Go.Proofs.Ytkkkbalefnileaa.T
set_option linter.unusedVariables false
set_option linter.unusedSimpArgs false

theorem pow_W64 (m : Nat) (hm : m ≤ 64) : (2 : Int) ^ m * 2 ^ (64 - m) = W64 := by rw [← Int.pow_add, show m + (64 - m) = 64 by omega]; decide
/-- The shift to the right, from the highest word on: what it makes of the value. -/
theorem right_val (x : List Int) (n : Nat) (hx : inW x) (hn : n ≤ 63) : ∀ (m : Nat) (t : Int), m ≤ x.length → 0 ≤ t → t < 2 ^ n →
    inW (downL (rightS n x) m (t * 2 ^ (64 - n))).1 ∧ valB W64 (downL (rightS n x) m (t * 2 ^ (64 - n))).1 = (valB W64 (x.take m) + W64 ^ m * t) / 2 ^ n
  | 0, t, _, h0, h1 => by
    refine ⟨inB_nil, ?_⟩
    show (0 : Int) = _
    rw [List.take_zero, Int.pow_zero, Int.one_mul]
    exact (Int.ediv_eq_zero_of_lt (by simp [valB]; omega) (by simp [valB]; omega)).symm
  | m + 1, t, hm, h0, h1 => by
    have hp := pow_posB (B := 2) (by decide) n
    have hq := pow_posB (B := 2) (by decide) (64 - n)
    have hW := pow_W64 n (by omega)
    have hxm := isW_get hx m
    have r0 := Int.emod_nonneg (x.getD m 0) (show (2 : Int) ^ n ≠ 0 by omega)
    have r1 := Int.emod_lt_of_pos (x.getD m 0) hp
    have e1 := Int.emod_add_mul_ediv (x.getD m 0) (2 ^ n)
    obtain ⟨ih1, ih2⟩ := right_val x n hx hn m (x.getD m 0 % 2 ^ n) (by omega) r0 r1
    have hl := downL_length (rightS n x) m (x.getD m 0 % 2 ^ n * 2 ^ (64 - n))
    have ed : (downL (rightS n x) (m + 1) (t * 2 ^ (64 - n))).1 = (downL (rightS n x) m (x.getD m 0 % 2 ^ n * 2 ^ (64 - n))).1 ++ [x.getD m 0 / 2 ^ n + t * 2 ^ (64 - n)] := rfl
    rw [ed, show inW = inB W64 from rfl, inB_append, valB_append, hl, ih2, valB_take_succ W64 x m (by omega)]
    have hv0 := valW_nonneg (inB_take hx m)
    generalize valB W64 (x.take m) = V at *
    generalize x.getD m 0 = a at *
    have hd0 : 0 ≤ a / 2 ^ n := Int.ediv_nonneg hxm.1 (by omega)
    have hd1 : a / 2 ^ n < 2 ^ (64 - n) := Int.ediv_lt_of_lt_mul hp (by rw [Int.mul_comm, hW]; exact hxm.2)
    refine ⟨⟨ih1, ?_⟩, ?_⟩
    · refine inB_cons.2 ⟨⟨?_, ?_⟩, inB_nil⟩
      · have := Int.mul_nonneg h0 (Int.le_of_lt hq); omega
      · have h2 : (t + 1) * 2 ^ (64 - n) ≤ 2 ^ n * 2 ^ (64 - n) := Int.mul_le_mul_of_nonneg_right (by omega) (Int.le_of_lt hq)
        rw [hW, Int.add_mul, Int.one_mul] at h2
        omega
    · have e2 : V + W64 ^ m * a + W64 ^ (m + 1) * t = (V + W64 ^ m * (a % 2 ^ n)) + 2 ^ n * (W64 ^ m * (a / 2 ^ n + t * 2 ^ (64 - n))) := by
        rw [Int.pow_succ]
        generalize W64 ^ m = P at *
        generalize hA : a % 2 ^ n = A at *
        generalize hB : a / 2 ^ n = B at *
        rw [← hW]
        subst e1
        generalize (2 : Int) ^ n = u at *
        generalize (2 : Int) ^ (64 - n) = v at *
        grind
      rw [e2, Int.add_mul_ediv_left _ _ (by omega)]
      simp [valB]
theorem tdiv64 (s : Int) (h0 : 0 ≤ s) (h1 : s ≤ 1000000) : wrap64 (Int.tdiv s 64) = ((s.toNat / 64 : Nat) : Int) ∧ Int.tmod s 64 = ((s.toNat % 64 : Nat) : Int) := by
  rw [Int.tdiv_eq_ediv_of_nonneg h0, Int.tmod_eq_emod_of_nonneg h0]
  refine ⟨?_, by omega⟩
  rw [w64_int _ (by omega) (by omega)]
  omega
theorem RRight_ev (x : List Int) (s : Int) (hx : inW x) (hn : x.length ≤ 4096) (h0 : 0 ≤ s) (h1 : s ≤ 1000000) : Ev (fun k => reckonerref02_Right.f k x s) (can (valB W64 x / 2 ^ s.toNat)) := by
  obtain ⟨e1, e2⟩ := tdiv64 s h0 h1
  have hs := Nat.mod_add_div s.toNat 64
  have hm : s.toNat % 64 ≤ 63 := by omega
  generalize s.toNat / 64 = q at *
  generalize s.toNat % 64 = m at *
  have hp : (2 : Int) ^ s.toNat = W64 ^ q * 2 ^ m := by rw [pow2_W, ← Int.pow_add]; congr 1; omega
  by_cases h : x.length ≤ q
  · have hz : valB W64 x / 2 ^ s.toNat = 0 := by
      refine Int.ediv_eq_zero_of_lt (valW_nonneg hx) ?_
      have h2 := valB_lt W64_pos hx
      have h3 := pow_mono (B := W64) (by decide) h
      have h4 := pow_mono (B := 2) (by decide) (show 64 * q ≤ s.toNat by omega)
      rw [pow2_W q] at h3
      omega
    rw [hz]
    refine Ev.now' fun k => ?_
    show reckonerref02_Right.f (k + 1) x s = _
    rw [reckonerref02_Right.f, e1, if_pos (show (q : Int) ≥ (x.length : Int) by omega)]
    rfl
  · have hl : (x.drop q).length = x.length - q := by simp
    have hr := Right_ev (x.drop q) (m : Int) (inB_drop hx q) (by omega) (by omega) (by omega)
    rw [Int.toNat_natCast] at hr
    have hv := right_val (x.drop q) m (inB_drop hx q) hm (x.drop q).length 0 (Nat.le_refl _) (Int.le_refl 0) (pow_posB (by decide) m)
    rw [Int.zero_mul, List.take_length, Int.mul_zero, Int.add_zero, valB_drop W64_pos hx q (by omega), div_div _ _ _ (valW_nonneg hx) (pow_posB W64_pos q) (pow_posB (by decide) m), ← hp] at hv
    have hlen := downL_length (rightS m (x.drop q)) (x.drop q).length 0
    obtain ⟨z, u, hzu⟩ : ∃ z u, downL (rightS m (x.drop q)) (x.drop q).length 0 = (z, u) := ⟨_, _, rfl⟩
    rw [hzu] at hr hv hlen
    simp only at hv hlen
    have ht := RTrim_ev z hv.1 (by omega)
    rw [hv.2] at ht
    refine Ev.congr (f := fun k => (reckonerref01_Right.f k (x.drop q) (m : Int)).bind fun bt595 => ((reckonerref02_Trim.f k bt595.1).bind fun t599 => (some t599))) (fun k => ?_) (Ev.bind hr (Ev.bind ht (Ev.now _)))
    show reckonerref02_Right.f k x s = _
    rw [reckonerref02_Right.f, e1, e2, if_neg (show ¬ (q : Int) ≥ (x.length : Int) by omega), if_pos (by omega), if_pos (by omega), Int.toNat_natCast]
theorem RLeft_ev (x : List Int) (s : Int) (hx : inW x) (hn : x.length ≤ 4096) (h0 : 0 ≤ s) (h1 : s ≤ 1000000) : Ev (fun k => reckonerref02_Left.f k x s) (can (valB W64 x * 2 ^ s.toNat)) := by
  obtain ⟨e1, e2⟩ := tdiv64 s h0 h1
  have hs := Nat.mod_add_div s.toNat 64
  have hm : s.toNat % 64 ≤ 63 := by omega
  have hq : s.toNat / 64 ≤ 20000 := by omega
  generalize s.toNat / 64 = q at *
  generalize s.toNat % 64 = m at *
  have hp : (2 : Int) ^ s.toNat = W64 ^ q * 2 ^ m := by rw [pow2_W, ← Int.pow_add]; congr 1; omega
  have hl := Left_ev x (m : Int) hx (by omega) (by omega) hn
  rw [Int.toNat_natCast] at hl
  obtain ⟨v1, v2, v3⟩ := mul_val x (2 ^ m) 0 hx (pow2_lt m hm) ⟨Int.le_refl 0, W64_pos⟩
  have hlen := carryL_length (fun i c => moreS (x.getD i 0) (2 ^ m) c 0) x.length 0 0
  obtain ⟨z, u, hzu⟩ : ∃ z u, carryL (fun i c => moreS (x.getD i 0) (2 ^ m) c 0) x.length 0 0 = (z, u) := ⟨_, _, rfl⟩
  rw [hzu] at hl v1 v2 v3 hlen
  simp only at v1 v2 v3 hlen
  have hin : inW (List.replicate q 0 ++ z ++ [u]) := inB_append.2 ⟨inB_append.2 ⟨inB_zeros W64_pos q, v2⟩, inB_cons.2 ⟨v1, inB_nil⟩⟩
  have ht := RTrim_ev (List.replicate q 0 ++ z ++ [u]) hin (by simp; omega)
  have hval : valB W64 (List.replicate q 0 ++ z ++ [u]) = valB W64 x * 2 ^ s.toNat := by
    rw [List.append_assoc, valB_append, valB_zeros, List.length_replicate, valB_append, hlen, hp]
    have : valB W64 [u] = u := by simp [valB]
    rw [this, v3, Int.add_zero, Int.zero_add, Int.mul_left_comm]
  rw [hval] at ht
  refine Ev.congr (f := fun k => (reckonerref01_Left.f k x (m : Int)).bind fun bt625 => (if 0 ≤ (q : Int) then (if (q : Int).toNat ≤ 35184372088832 then ((some (List.replicate (q : Int).toNat 0 : List Int)).bind fun y629 => (if y629.length + bt625.1.length < 17592186044416 then ((some (y629 ++ bt625.1 : List Int)).bind fun y632 => (if y632.length < 17592186044416 then ((reckonerref02_Trim.f k (y632 ++ [bt625.2])).bind fun t638 => (some t638)) else (none))) else (none))) else (none)) else (none))) (fun k => ?_) (Ev.bind hl (Ev.congr (fun k => ?_) (Ev.bind ht (Ev.now _))))
  · show reckonerref02_Left.f k x s = _
    rw [reckonerref02_Left.f, e1, e2]
  · show (if 0 ≤ (q : Int) then _ else _) = _
    have hr1 : (List.replicate q (0 : Int)).length + z.length < 17592186044416 := by simp; omega
    have hr2 : (List.replicate q (0 : Int) ++ z).length < 17592186044416 := by simp; omega
    rw [if_pos (by omega), Int.toNat_natCast, if_pos (by omega), Option.bind_some, if_pos hr1, Option.bind_some, if_pos hr2]
theorem RLow_fin (x out : List Int) (s i V : Int) (ho : inW out) (hl : out.length ≤ 5000) (hv : valB W64 out = V) : Ev (fun k => reckonerref02_Low.j1 k x s out i false) (can V) := by
  have ht := RTrim_ev out ho (by omega)
  rw [hv] at ht
  refine Ev.step (fun k => ?_) (Ev.bind ht (Ev.now _))
  rw [reckonerref02_Low.j1, if_neg (by decide)]
theorem set_last (l : List Int) (q : Nat) (v : Int) (h : q < l.length) : (l.take (q + 1)).set q v = l.take q ++ [v] := by
  rw [List.take_succ_eq_append_getElem h, List.set_append_right _ _ (by rw [List.length_take]; omega)]
  have : q - (l.take q).length = 0 := by rw [List.length_take]; omega
  rw [this]
  rfl
theorem RLow_end (x : List Int) (hx : inW x) (hn : x.length ≤ 4096) (s : Nat) (i : Nat) (hi : 64 * i ≤ s) (h : i = x.length ∨ i ≤ x.length ∧ s = 64 * i) : Ev (fun k => reckonerref02_Low.l0 k x (s : Int) (x.take i) (i : Int)) (can (valB W64 x % 2 ^ s)) := by
  have hw : wrap64 (64 * (i : Int)) = 64 * (i : Int) := w64_int _ (by omega) (by omega)
  have hv := low_out hx (q := s / 64) (m := s % 64) (p := i) (by omega) (by omega)
  rw [show 64 * (s / 64) + s % 64 = s by omega] at hv
  refine Ev.step (fun k => ?_) (RLow_fin x (x.take i) s i _ (inB_take hx i) (by rw [List.length_take]; omega) hv)
  rw [reckonerref02_Low.l0, hw]
  rcases h with h | ⟨h, h2⟩
  · rw [if_neg (by omega)]
  · rw [decide_eq_false (by omega), ite_self]
theorem RLow_loop (x : List Int) (hx : inW x) (hn : x.length ≤ 4096) (s : Nat) (h1 : s ≤ 1000000) : ∀ (d i : Nat), i + d = x.length → 64 * i ≤ s → Ev (fun k => reckonerref02_Low.l0 k x (s : Int) (x.take i) (i : Int)) (can (valB W64 x % 2 ^ s))
  | 0, i, hd, hi => RLow_end x hx hn s i hi (Or.inl (by omega))
  | d + 1, i, hd, hi => by
    by_cases h64 : s = 64 * i
    · exact RLow_end x hx hn s i hi (Or.inr ⟨by omega, h64⟩)
    have hw : wrap64 (64 * (i : Int)) = 64 * (i : Int) := w64_int _ (by omega) (by omega)
    have hs1 : wrap64 ((s : Int) - 64 * (i : Int)) = (s : Int) - 64 * (i : Int) := w64_int _ (by omega) (by omega)
    have hi1 : wrap64 ((i : Int) + 1) = ((i + 1 : Nat) : Int) := by rw [w64_int _ (by omega) (by omega)]; omega
    have hlen : (x.take i).length < 17592186044416 := by rw [List.length_take]; omega
    refine Ev.step (f := fun k => reckonerref02_Low.j1 k x (s : Int) (x.take i) (i : Int) true) (fun k => ?_) ?_
    · rw [reckonerref02_Low.l0, hw, if_pos (by omega), decide_eq_true (by omega)]
    by_cases hp : s < 64 * (i + 1)
    · obtain ⟨m, hm⟩ : ∃ m : Nat, s = 64 * i + m := ⟨s - 64 * i, by omega⟩
      have hsm : (s : Int) - 64 * (i : Int) = (m : Int) := by omega
      have hsh := shl_one (m : Int) (by omega) (by omega)
      rw [Int.toNat_natCast] at hsh
      have hpos := pow_posB (B := 2) (by decide) m
      obtain ⟨v1, v2⟩ := low_in hx (q := i) (m := m) (by omega) (by omega)
      rw [set_last x i _ (by omega)] at v1 v2
      rw [← hm] at v2
      refine Ev.step (f := fun k => reckonerref02_Low.l0 k x (s : Int) (x.take i ++ [x.getD i 0 % 2 ^ m]) ((i + 1 : Nat) : Int)) (fun k => ?_) ?_
      · rw [reckonerref02_Low.j1, hw, hs1, hsm, hsh, hi1, rd_nat, if_pos rfl, if_pos (by omega), if_pos (by omega), if_pos (by omega), if_pos (by omega), if_neg (by omega), if_pos hlen, Int.tmod_eq_emod_of_nonneg (isW_get hx i).1]
      · have hw2 : wrap64 (64 * ((i + 1 : Nat) : Int)) = 64 * ((i + 1 : Nat) : Int) := w64_int _ (by omega) (by omega)
        refine Ev.step (fun k => ?_) (RLow_fin x _ s ((i + 1 : Nat) : Int) _ v1 (by rw [List.length_append, List.length_take]; simp; omega) v2)
        rw [reckonerref02_Low.l0, hw2, decide_eq_false (by omega), ite_self]
    · have ih := RLow_loop x hx hn s h1 d (i + 1) (by omega) (by omega)
      refine Ev.step (fun k => ?_) ih
      have et : x.take (i + 1) = x.take i ++ [x.getD i 0] := by
        rw [List.take_succ_eq_append_getElem (by omega)]
        simp [List.getD_eq_getElem?_getD, List.getElem?_eq_getElem (show i < x.length by omega)]
      rw [reckonerref02_Low.j1, hw, hs1, hi1, rd_nat, if_pos rfl, if_pos (by omega), if_pos (by omega), if_neg (by omega), if_pos hlen, et]
theorem RLow_ev (x : List Int) (s : Int) (hx : inW x) (hn : x.length ≤ 4096) (h0 : 0 ≤ s) (h1 : s ≤ 1000000) : Ev (fun k => reckonerref02_Low.f k x s) (can (valB W64 x % 2 ^ s.toNat)) := by
  have h := RLow_loop x hx hn s.toNat (by omega) x.length 0 (by omega) (by omega)
  rw [List.take_zero, show ((s.toNat : Nat) : Int) = s by omega] at h
  exact h
end Go.Proofs.Ytkkkbalefnileaa.Ex
/- NatShifts: the plain law. -/
namespace Go.Proofs.Ytkkkbalefnileaa.Ex
open Go.RowKit Go.Proofs.YtkkkbalefnileaaW.PrintWords Go.Proofs.YtkkkbalefnileaaW.PrintLast Go.Proofs.YtkkkbalefnileaaW.PrintMore Go.Proofs.Ytkkkbalefnileaa.T
set_option linter.unusedVariables false
set_option linter.unusedSimpArgs false

theorem lenL_pos {v : Int} (h : 0 < v) : 1 ≤ lenL (can v) ∧ 2 ^ (lenL (can v) - 1).toNat ≤ v ∧ v < 2 ^ (lenL (can v)).toNat := by
  have h0 : can v ≠ [] := fun e => by have := (can_nil_iff (by omega)).1 e; omega
  obtain ⟨b1, b2, b3, b4, b5⟩ := lenL_bounds (can_canL (v := v) (by omega)) h0
  rw [can_val (by omega)] at b4 b5
  exact ⟨b1, b4, b5⟩
theorem fit_shift {v : Int} (s n : Nat) (h0 : 0 ≤ v) : (can (v * 2 ^ s)).length ≤ n ↔ v = 0 ∨ lenL (can v) + s ≤ 64 * (n : Int) := by
  have hp := pow_posB (B := 2) (by decide) s
  have hm : 0 ≤ v * 2 ^ s := Int.mul_nonneg h0 (by omega)
  rw [can_le_iff n hm, pow2_W]
  by_cases hv : v = 0
  · subst hv
    rw [Int.zero_mul]
    exact ⟨fun _ => Or.inl rfl, fun _ => pow_posB (by decide) _⟩
  · obtain ⟨b1, b4, b5⟩ := lenL_pos (v := v) (by omega)
    constructor
    · intro h
      refine Or.inr ?_
      rcases Int.lt_or_le (64 * (n : Int)) (lenL (can v) + s) with hc | hc
      · exfalso
        have h1 : (2 : Int) ^ (lenL (can v) - 1).toNat * 2 ^ s ≤ v * 2 ^ s := Int.mul_le_mul_of_nonneg_right b4 (by omega)
        rw [← Int.pow_add] at h1
        have h2 := pow_mono (B := 2) (by decide) (show 64 * n ≤ (lenL (can v) - 1).toNat + s by omega)
        exact absurd h (Int.not_lt.2 (Int.le_trans h2 h1))
      · exact hc
    · rintro (h | h)
      · exact (hv h).elim
      · have h1 : v * 2 ^ s < 2 ^ (lenL (can v)).toNat * 2 ^ s := Int.mul_lt_mul_of_pos_right b5 hp
        rw [← Int.pow_add] at h1
        exact Int.lt_of_lt_of_le h1 (pow_mono (B := 2) (by decide) (show (lenL (can v)).toNat + s ≤ 64 * n by omega))
theorem Shifts_round (a : List Int) (s r : Int) (ha : inW a) (hla : a.length ≤ 40) (hr : r < 2)
    (next : Ev (fun k => reckonerlaw02_NatShifts.l0 k (wrap64 (Int.tmod (IntKind.u64.wrap s) 3000)) a (wrap64 (r + 1))) true) : Ev (fun k => reckonerlaw02_NatShifts.l0 k s a r) true := by
  have va := valW_nonneg ha
  by_cases hs : 0 ≤ s ∧ s ≤ 262144
  · have hn : ¬ s < 0 := by omega
    have hd : decide (s > 262144) = false := decide_eq_false (by omega)
    have fl : nat_Left.f a s = some (fitV (valB W64 a * 2 ^ s.toNat)) := by unfold nat_Left.f; rw [if_pos ha, if_pos (by omega), if_pos hs]
    have fr : nat_Right.f a s = some (can (valB W64 a / 2 ^ s.toNat), 0) := by unfold nat_Right.f; rw [if_pos ha, if_pos (by omega), if_pos hs]
    have fw : nat_Low.f a s = some (can (valB W64 a % 2 ^ s.toNat), 0) := by unfold nat_Low.f; rw [if_pos ha, if_pos (by omega), if_pos hs]
    have rl := RLeft_ev a s ha (by omega) hs.1 (by omega)
    have rr := RRight_ev a s ha (by omega) hs.1 (by omega)
    have rw' := RLow_ev a s ha (by omega) hs.1 (by omega)
    have rn := RLen_ev a ha (by omega)
    have hf := fit_shift (v := valB W64 a) s.toNat 4096 va
    have hp := pow_posB (B := 2) (by decide) s.toNat
    have hlt := valB_lt W64_pos ha
    have hlt2 := pow_mono (B := W64) (by decide) hla
    have v1 : 0 ≤ valB W64 a / 2 ^ s.toNat := Int.ediv_nonneg va (by omega)
    have v2 : 0 ≤ valB W64 a % 2 ^ s.toNat := Int.emod_nonneg _ (by omega)
    have v3 : 0 ≤ valB W64 a * 2 ^ s.toNat := Int.mul_nonneg va (by omega)
    have l1 : valB W64 a / 2 ^ s.toNat ≤ valB W64 a := Int.ediv_le_self _ va
    have l2 : valB W64 a % 2 ^ s.toNat ≤ valB W64 a := by
      have h1 := Int.emod_add_mul_ediv (valB W64 a) (2 ^ s.toNat)
      have h2 := Int.mul_nonneg (Int.le_of_lt hp) v1
      omega
    have s1 := can_short v1 (Int.lt_of_le_of_lt l1 (Int.lt_of_lt_of_le hlt hlt2))
    have s2 := can_short v2 (Int.lt_of_le_of_lt l2 (Int.lt_of_lt_of_le hlt hlt2))
    have hz : valB W64 a = 0 ↔ ¬ lenL (can (valB W64 a)) > 0 := by
      constructor
      · intro h; rw [h]; show ¬ lenL (can 0) > 0; rw [show can 0 = [] from rfl]; decide
      · intro h
        rcases Int.lt_or_le 0 (valB W64 a) with h1 | h1
        · have := (lenL_pos h1).1; omega
        · omega
    have hlb : lenL (can (valB W64 a)) ≤ 2560 := by
      by_cases h0 : can (valB W64 a) = []
      · rw [h0]; decide
      · obtain ⟨b1, b2, b3, b4, b5⟩ := lenL_bounds (can_canL va) h0
        have := can_short va (Int.lt_of_lt_of_le hlt hlt2)
        omega
    generalize valB W64 a * 2 ^ s.toNat = M at *
    generalize valB W64 a / 2 ^ s.toNat = Q at *
    generalize valB W64 a % 2 ^ s.toNat = B at *
    generalize lenL (can (valB W64 a)) = L at *
    clear hlt hlt2 hp
    have i1 := RIs_ev (can Q) (can_in v1) (by omega) (can_val v1)
    have i2 := RIs_ev (can B) (can_in v2) (by omega) (can_val v2)
    -- the third part: the shift to the left
    have last : ∀ x7 x8, fitV M = (x7, x8) → Ev (fun k => reckonerlaw02_NatShifts.j2 k s a r x7 x8 false) true := by
      intro x7 x8 hx
      have hw : wrap64 (L + s) = L + s ∨ ¬ L > 0 := by
        rcases Int.lt_or_le 0 L with h | h
        · exact Or.inl (w64_int _ (by omega) (by omega))
        · exact Or.inr (by omega)
      by_cases hfit : (can M).length ≤ 4096
      · have hx' : x7 = can M ∧ x8 = 0 := by unfold fitV at hx; rw [if_pos hfit] at hx; injection hx with h1 h2; exact ⟨h1.symm, h2.symm⟩
        obtain ⟨rfl, rfl⟩ := hx'
        have i3 := RIs_ev (can M) (can_in v3) (by omega) (can_val v3)
        have fin : Ev (fun k => reckonerlaw02_NatShifts.j3 k s a r (can M) 0 false) true := by
          refine Ev.step (f := fun k => (reckonerref02_Left.f k a s).bind fun t667 => ((reckonerref02_Is.f k (can M) t667).bind fun t670 => (if t670 = true then (reckonerlaw02_NatShifts.l0 k (wrap64 (Int.tmod (IntKind.u64.wrap s) 3000)) a (wrap64 (r + 1))) else none))) (fun k => ?_) (Ev.bind rl (Ev.bind i3 (Ev.congr (fun k => if_pos rfl) next)))
          rw [reckonerlaw02_NatShifts.j3, if_neg (by decide), if_pos rfl]
        by_cases hL : L > 0
        · have hd2 : decide (L + s > 262144) = false := decide_eq_false (by
            rcases hf.1 hfit with h | h
            · exact absurd hL (hz.1 h)
            · omega)
          refine Ev.step (f := fun k => (reckonerref02_Len.f k a).bind fun t665 => (if t665 > 0 then ((reckonerref02_Len.f k a).bind fun t666 => (reckonerlaw02_NatShifts.j3 k s a r (can M) 0 (decide ((wrap64 (t666 + s)) > 262144)))) else (reckonerlaw02_NatShifts.j3 k s a r (can M) 0 false))) (fun k => ?_) (Ev.bind rn (Ev.congr (fun k => if_pos hL) (Ev.bind rn (Ev.congr (fun k => ?_) fin))))
          · rw [reckonerlaw02_NatShifts.j2, if_neg (by decide)]
          · rw [hw.resolve_right (fun h => h hL), hd2]
        · refine Ev.step (f := fun k => (reckonerref02_Len.f k a).bind fun t665 => (if t665 > 0 then ((reckonerref02_Len.f k a).bind fun t666 => (reckonerlaw02_NatShifts.j3 k s a r (can M) 0 (decide ((wrap64 (t666 + s)) > 262144)))) else (reckonerlaw02_NatShifts.j3 k s a r (can M) 0 false))) (fun k => ?_) (Ev.bind rn (Ev.congr (fun k => if_neg hL) fin))
          rw [reckonerlaw02_NatShifts.j2, if_neg (by decide)]
      · have hx' : x7 = [] ∧ x8 = 2 := by unfold fitV at hx; rw [if_neg hfit] at hx; injection hx with h1 h2; exact ⟨h1.symm, h2.symm⟩
        obtain ⟨rfl, rfl⟩ := hx'
        have hL : L > 0 := by
          rcases Int.lt_or_le 0 L with h | h
          · exact h
          · exact (hfit (hf.2 (Or.inl (hz.2 (by omega))))).elim
        have hd2 : decide (L + s > 262144) = true := decide_eq_true (by
          rcases Int.lt_or_le 262144 (L + s) with h | h
          · exact h
          · exact (hfit (hf.2 (Or.inr (by omega)))).elim)
        have fin : Ev (fun k => reckonerlaw02_NatShifts.j3 k s a r [] 2 true) true := by
          refine Ev.step (fun k => ?_) next
          rw [reckonerlaw02_NatShifts.j3, if_pos rfl, if_pos rfl, if_pos (by rfl)]
        refine Ev.step (f := fun k => (reckonerref02_Len.f k a).bind fun t665 => (if t665 > 0 then ((reckonerref02_Len.f k a).bind fun t666 => (reckonerlaw02_NatShifts.j3 k s a r [] 2 (decide ((wrap64 (t666 + s)) > 262144)))) else (reckonerlaw02_NatShifts.j3 k s a r [] 2 false))) (fun k => ?_) (Ev.bind rn (Ev.congr (fun k => if_pos hL) (Ev.bind rn (Ev.congr (fun k => ?_) fin))))
        · rw [reckonerlaw02_NatShifts.j2, if_neg (by decide)]
        · rw [hw.resolve_right (fun h => h hL), hd2]
    obtain ⟨x7, x8, hx⟩ : ∃ x7 x8, fitV M = (x7, x8) := ⟨_, _, rfl⟩
    have hl2 := last x7 x8 hx
    rw [hx] at fl
    refine Ev.step (f := fun k => reckonerlaw02_NatShifts.j1 k s a r x7 x8 (can Q) 0 (can B) 0 false) (fun k => ?_) ?_
    · rw [reckonerlaw02_NatShifts.l0, if_pos hr, fl, fr, fw, Option.bind_some, Option.bind_some, Option.bind_some, if_neg hn, hd]
    · refine Ev.step (f := fun k => (reckonerref02_Right.f k a s).bind fun t657 => ((reckonerref02_Is.f k (can Q) t657).bind fun t660 => (if t660 = true then ((reckonerref02_Low.f k a s).bind fun t661 => ((reckonerref02_Is.f k (can B) t661).bind fun t664 => (reckonerlaw02_NatShifts.j2 k s a r x7 x8 (!t664)))) else (reckonerlaw02_NatShifts.j2 k s a r x7 x8 true)))) (fun k => ?_) (Ev.bind rr (Ev.bind i1 (Ev.congr (fun k => if_pos rfl) (Ev.bind rw' (Ev.bind i2 hl2)))))
      rw [reckonerlaw02_NatShifts.j1, if_neg (by decide), if_pos rfl]
      simp only [eq_self, if_true]
  · have fl : nat_Left.f a s = some ([], 1) := by unfold nat_Left.f; rw [if_pos ha, if_pos (by omega), if_neg hs]
    have fr : nat_Right.f a s = some ([], 1) := by unfold nat_Right.f; rw [if_pos ha, if_pos (by omega), if_neg hs]
    have fw : nat_Low.f a s = some ([], 1) := by unfold nat_Low.f; rw [if_pos ha, if_pos (by omega), if_neg hs]
    have e0 : wrap64 (wrap64 ((([] : List Int).length : Int) + (([] : List Int).length : Int)) + (([] : List Int).length : Int)) = 0 := by
      have := w64_nat 0 (by decide)
      show wrap64 (wrap64 0 + 0) = 0
      rw [show wrap64 0 = 0 from this]
      exact this
    refine Ev.step (f := fun k => reckonerlaw02_NatShifts.j1 k s a r [] 1 [] 1 [] 1 true) (fun k => ?_) ?_
    · rw [reckonerlaw02_NatShifts.l0, if_pos hr, fl, fr, fw, Option.bind_some, Option.bind_some, Option.bind_some]
      by_cases hn : s < 0
      · rw [if_pos hn]
      · rw [if_neg hn, decide_eq_true (by omega)]
    · refine Ev.step (fun k => ?_) next
      rw [reckonerlaw02_NatShifts.j1, if_pos rfl, if_pos rfl, if_pos rfl, if_pos rfl, if_pos e0]
theorem pureNatShifts : reckonerlaw02_NatShifts.Pure := by
  intro l0 a1 _ h0 hw0 hw1
  have f0 := few_some l0 40 (by omega)
  have ha := inW_take (inW_of_wf hw0) 40
  have hla : (l0.take 40).length ≤ 40 := by rw [List.length_take]; omega
  generalize l0.take 40 = a at *
  rw [show ((40 : Nat) : Int) = 40 from rfl] at f0
  have e1 : wrap64 ((0 : Int) + 1) = 1 := w64_nat 1 (by decide)
  have e2 : wrap64 ((1 : Int) + 1) = 2 := w64_nat 2 (by decide)
  refine Ev.rounds (Ev.congr (f := fun k => reckonerlaw02_NatShifts.l0 k a1 a 0) (fun k => ?_) ?_)
  · show reckonerlaw02_NatShifts.f k l0 a1 = _
    unfold reckonerlaw02_NatShifts.f
    rw [f0, Option.bind_some]
  · refine Shifts_round a a1 0 ha hla (by decide) ?_
    rw [e1]
    refine Shifts_round a _ 1 ha hla (by decide) ?_
    rw [e2]
    refine Ev.step (f := fun k => (reckonerlaw02_awake.f k).bind fun t => some t) (fun k => ?_) (Ev.bind awake_ev (Ev.now true))
    rw [reckonerlaw02_NatShifts.l0, if_neg (by decide)]
end Go.Proofs.Ytkkkbalefnileaa.Ex
/- The plain law. -/
namespace Go.Proofs.Ytkkkbalefnileaa.Pure
theorem NatShifts : Go.Proofs.Ytkkkbalefnileaa.T.reckonerlaw02_NatShifts.Pure := Go.Proofs.Ytkkkbalefnileaa.Ex.pureNatShifts
end Go.Proofs.Ytkkkbalefnileaa.Pure
-- PRINTED BY print.sh 35421559b90ae4d0a3588c463048766b98c2df88dd9212a6774a882060cdf62d: not written by this session
-- PRINTED WORDS (module Derived/Print/Sized.lean): go-gate-2's, for the rows of laws over slices: an AI agent of Go's test side, Tue Nov 17 2026; no person has read it. Lean checks it.
namespace Go.Proofs.YtkkkbalefnileaaW.PrintWords
open Go.ChangeShapes Go.WideShapes
/-- A row's slice of whole numbers is no longer than its weight allows. -/
theorem sized_ints {H : Type} {enc : TypeId × Value → H} {P : Program} {W : World} {base : Nat} {spare : Nat → Bool} {held : Bool} {t e : TypeId} {k : IntKind} {a : Option Addr} {len cap : Nat} {d : DataW H} {ps : List MemPlace} {ts : List TypeId} {ds : List (DataW H)} {j : Nat}
    (hsz : (DataW.weightsEach P ts ds).all (· ≤ reachBytes) = true) (ht : ts[j]? = some t) (hd : ds[j]? = some d) (hu : P.underlying t = some (.slice e)) (he : P.underlying e = some (.int k)) (hc : P.cellsOf e = 1) {B : Nat} (hB : P.bytesOf e = B)
    (h : DataW.Trod enc P W base spare held t (.slice a len cap) d ps) : len * B ≤ 140737488351232 := by
  obtain ⟨fuel, hf⟩ := h
  rcases open_ints hu he hc hf with ⟨hcs, _⟩ | ⟨x, l, c, zs, hcs, _, hl, _, hz, hx, _, _⟩
  · simp [Value.cells] at hcs
    obtain ⟨rfl, rfl, rfl⟩ := hcs
    simp
  · simp [Value.cells] at hcs
    obtain ⟨rfl, rfl, rfl⟩ := hcs
    obtain ⟨hx, _⟩ := Prod.mk.inj hx
    subst hx
    have z := sized_slice hsz ht hd hu
    rw [hB] at z
    have hl2 : len ≤ zs.length := by
      rw [hz]
      split
      · exact hl
      · exact Nat.le_refl _
    have h1 : (lits (H := H) k (zs.take len)).length + (lits (H := H) k (zs.drop len)).length = zs.length := by
      simp [lits]
      omega
    rw [h1] at z
    exact Nat.le_trans (Nat.mul_le_mul_right _ hl2) z
end Go.Proofs.YtkkkbalefnileaaW.PrintWords
-- PRINTED by print.py: the row of the law reckonerlaw02_NatShifts, out of its Pure (the session's) and the printed walk. Not trusted: Lean checks it.
namespace Go.Proofs.Ytkkkbalefnileaa.natShifts
open Go.ChangeShapes Go.WideShapes Go.ChangeAt Go.RowKit
open Go.ChangeMaps (open_string shut_string)
set_option linter.unusedVariables false
theorem own : ownKnob Try.prog.godebug = none := by kernel_rfl
theorem laidOut : laidOutB Try.prog = true := by kernel_rfl
def IsRow (k : IntKind) (w : World) (a : Option Addr) (len cap : Nat) (zs : List Int) : Prop :=
  (a = none ∧ len = 0 ∧ cap = 0 ∧ zs = []) ∨
  ∃ x, a = some x ∧ len ≤ cap ∧ cap ≤ maxLen ∧ zs.length = cap ∧ (∀ i, i < zs.length → w.cell? (x.add i) = some (.int k (zs.getD i 0))) ∧ ∀ n ∈ zs, (Lit.int k n).wf = true
set_option maxRecDepth 100000 in
theorem lifted (os : Os) (started : os.Started) (H : Type) (enc : TypeId × Value → H) :
    ReturnsInHanded {} Try.checked os 8 .any (Rows.natShiftsSpec.pre6 enc Try.prog Try.f8 Rows.natShiftsRow.domain false) (Rows.natShiftsSpec.post enc Try.prog Try.f8 false true false false) := by
  refine returnsInHanded_of_change_sized (C := Try.checked) own started (by kernel_rfl) Try.func8
    (ChangeSpec.witness6 (enc := enc) (C := Try.checked) false ⟨#[], #[.slice none 0 0, .int .i64 0], []⟩ 8 (by kernel_rfl) (by kernel_rfl) (by kernel_rfl) (by kernel_rfl)) ?_
  intro W base args ds gs before hval0 hW hcnd hsz0 _
  have hsz : (DataW.weightsEach Try.prog (Try.f8.params.toList ++ Rows.natShiftsSpec.plain.varTypes Try.prog) (ds ++ gs)).all (· ≤ reachBytes) = true := hsz0
  have hval : ∀ (j : Nat) t v, Try.f8.params[j]? = some t → args[j]? = some v → Value.okWide Try.prog W .any base t v := hval0
  have hW' := hW
  obtain ⟨p, q, hA0, hV, rfl, hfz, hnd⟩ := hW
  have hA : DataW.TrodAll enc Try.prog W 0 (fun _ => true) true Try.f8.params.toList args.toList ds p := hA0
  rw [Try.params8] at hA hval hsz
  obtain ⟨v0, vs0, d0, ds0, p0, q0, hargs, rfl, rfl, h0, r0⟩ := trodAll_cons hA
  obtain ⟨v1, vs1, d1, ds1, p1, q1, rfl, rfl, rfl, h1, r1⟩ := trodAll_cons r0
  obtain ⟨rfl, rfl, rfl⟩ := trodAll_nil r1
  obtain rfl : args = #[v0, v1] := by cases args; simp_all
  obtain ⟨rfl, rfl⟩ := trodVars_none hV
  obtain ⟨a0, len0, cap0, rfl⟩ := okWide_slice Try.underlying23 (hval 0 23 v0 rfl rfl)
  have k0 := h0
  have lt0 : ∀ x ∈ p0, x.block < W.heap.size := by obtain ⟨m, hm⟩ := k0; exact DataW.trod_lt m _ _ _ hm
  obtain ⟨z0, w0⟩ : ∃ zs, IsRow .u64 W a0 len0 cap0 zs := by
    obtain ⟨fuel, hf⟩ := h0
    rcases open_ints Try.underlying23 Try.underlying33 (by kernel_rfl) hf with ⟨hcs, _⟩ | ⟨x, l, c, zs, hcs, _, hl, hm, hz, _, hcell, hwz⟩
    · simp [Value.cells] at hcs
      obtain ⟨rfl, rfl, rfl⟩ := hcs
      exact ⟨[], .inl ⟨rfl, rfl, rfl, rfl⟩⟩
    · simp [Value.cells] at hcs
      obtain ⟨rfl, rfl, rfl⟩ := hcs
      exact ⟨zs, .inr ⟨_, rfl, hl, hm, by simpa using hz, hcell, hwz⟩⟩
  have y0 : len0 * 8 ≤ 140737488351232 := Go.Proofs.YtkkkbalefnileaaW.PrintWords.sized_ints hsz (j := 0) (t := 23) rfl rfl Try.underlying23 Try.underlying33 (by kernel_rfl) (by kernel_rfl) h0
  obtain ⟨a1, rfl, rfl, rfl, w1⟩ := open_int Try.underlying3 (hval 1 3 v1 rfl rfl) h1
  clear hA0 hval0 hsz0 hsz
  refine (T.reckonerlaw02_NatShifts.walk Pure.NatShifts a0 len0 cap0 z0 a1 W w0 y0 w1).mono fun e W' ⟨he, bel⟩ => ?_
  subst he
  exact ⟨_, rfl, _, _, _, [], _, [], hW', trodAll_mk1 (shut_bool Try.underlying4 _), (trodAll_cons_mk (Below.trod laidOut (by kernel_rfl) (of_decide_eq_true (by kernel_rfl)) k0 bel lt0) (trodAll_cons_mk (shut_int Try.underlying3 w1) trodAll_mk0)), rfl, bel.frame _, fun h => by cases h⟩
theorem over : Rows.natShiftsRow.holds Try.pinned (OpenSpec.ofChange Rows.natShiftsSpec) :=
  OpenClaim.holds_of_wide 8 Try.f8 rfl rfl rfl rfl rfl rfl rfl ⟨rfl, rfl, rfl, rfl, rfl⟩ rfl rfl rfl rfl rfl (by kernel_rfl) Try.func8 (by kernel_rfl)
    (of_decide_eq_true (by kernel_rfl)) (by unfold Func.isWrapper; first | (rw [if_pos (by decide +kernel)]; kernel_rfl) | (rw [if_neg (by decide +kernel)]; exact ⟨rfl, rfl⟩))
    (fun os started H enc _ => lifted os started H enc)
theorem proved : Rows.NatShiftsSaid := over
#print axioms proved
end Go.Proofs.Ytkkkbalefnileaa.natShifts
namespace Go.Proofs.Ytkkkbalefnileaa
/-- The row, under a short name, for the claim. -/
theorem natShifts_holds : Rows.NatShiftsSaid := natShifts.proved
end Go.Proofs.Ytkkkbalefnileaa
