/- WordsShifts, for every input: a row shifted by any number of bits, or ErrArg. (Part 3 of 3.) -/
import Derived.Test.YtldefhhfcbmbpaaDoorRows
import Derived.Test.YtldefhhfcbmbpaaDoorTie
import Derived.Test.YtldefhhfcbmbpaaDoorCards
import Derived.Deep.DeepHandedRow
import Derived.Lib.LaidTab
import Derived.SevenTiedAt
import Derived.LaidLaws
import Derived.WalkKit
import Derived.ProofKit
import Derived.OpenShut
import Derived.ShutString
import Derived.ChangeOld
import Derived.Below
import Derived.SizedLaws
import Derived.Test.YtldefhhfcbmbpaaDoorWSized
import Derived.Test.YtldefhhfcbmbpaaDoorCShifts1
/- The reference's Word and Times (printed in Tx4, Tx5). -/
namespace Go.Proofs.YtldefhhfcbmbpaaDoor.Ex
open Go.RowKit Go.Proofs.YtldefhhfcbmbpaaDoorW.PrintWords Go.Proofs.YtldefhhfcbmbpaaDoorW.PrintLast Go.Proofs.YtldefhhfcbmbpaaDoorW.PrintMore Go.Proofs.YtldefhhfcbmbpaaDoor.T
set_option linter.unusedVariables false
set_option linter.unusedSimpArgs false

theorem w64_add (a b : Nat) (h : a + b < 4611686018427387904) : wrap64 ((a : Int) + (b : Int)) = ((a + b : Nat) : Int) := by rw [← Int.natCast_add]; exact w64_nat (a + b) h
theorem w64_suc (n : Nat) (h : n + 1 < 4611686018427387904) : wrap64 ((n : Int) + 1) = ((n + 1 : Nat) : Int) := by rw [← w64_nat (n + 1) h]; rfl
theorem lin5 (u v o c p : Int) (h : u + v = c + o + p) : (u - o) + v = c + p := by omega
theorem Word_some (w : Int) (hw : isW w) : reckonerref01_Word.f w = some [w % H32, w / H32] := by
  have h0 := hw.1
  have h1 := hw.2
  rw [W64_eq] at h1
  have q : 0 ≤ w / H32 ∧ w / H32 < 18446744073709551616 := by rw [H32_eq]; omega
  unfold reckonerref01_Word.f
  rw [tmodH _ h0, tdivH _ h0, wrapW _ q.1 q.2]
theorem word_in (w : Int) (hw : isW w) : inB H32 [w % H32, w / H32] := digitsL_in (inW_cons.2 ⟨hw, inW_nil⟩)
theorem word_val (w : Int) : valB H32 [w % H32, w / H32] = w := by
  have h := digitsL_val [w]
  simpa [digitsL, valB] using h
/-- What holds of a product's digits between two rounds. -/
structure Prod (a b out : List Int) (i : Nat) : Prop where
  len : out.length = a.length + b.length
  dig : inB H32 out
  zero : ∀ j, i + b.length ≤ j → out.getD j 0 = 0
theorem getD_set (l : List Int) (i j : Nat) (x : Int) : (l.set i x).getD j 0 = if i = j ∧ i < l.length then x else l.getD j 0 := by
  simp only [List.getD_eq_getElem?_getD, List.getElem?_set]
  by_cases h : i = j
  · subst h
    by_cases h1 : i < l.length
    · simp [h1]
    · simp [h1]
  · simp [h]
def Good (a b r : List Int) : Prop := inB H32 r ∧ r.length = a.length + b.length ∧ valB H32 r = valB H32 a * valB H32 b
theorem Times_inner (a b : List Int) (ha : inB H32 a) (hb : inB H32 b) (hn : a.length ≤ 1000000) (hm : b.length ≤ 1000000) (i : Nat) (hi : i < a.length)
    (hO : ∀ out, Prod a b out (i + 1) → valB H32 out = valB H32 (a.take (i + 1)) * valB H32 b → ∃ r, Ev (fun k => reckonerref01_Times.l0 k a b out ((i + 1 : Nat) : Int)) r ∧ Good a b r) :
    ∀ (n kk : Nat) (out : List Int) (c : Int), kk + n = b.length → Prod a b out i → (0 ≤ c ∧ c < H32) → valB H32 out + H32 ^ (i + kk) * c = valB H32 (a.take i) * valB H32 b + H32 ^ i * (a.getD i 0 * valB H32 (b.take kk)) →
      ∃ r, Ev (fun k => reckonerref01_Times.l1 k a b out (i : Int) c (kk : Int)) r ∧ Good a b r
  | 0, kk, out, c, hk, hP, hc, hv => by
    have HV := Aside0.mk hv
    clear hv
    obtain rfl : kk = b.length := by omega
    have hlen := hP.len
    have q1 : i + b.length < out.length := by omega
    have q2 : ¬ (b.length : Int) < (b.length : Int) := by omega
    have q3 : (0 : Int) ≤ ((i + b.length : Nat) : Int) := by omega
    have q4 : ((i + b.length : Nat) : Int) < (out.length : Int) := by omega
    have e1 : wrap64 ((i : Int) + (b.length : Int)) = ((i + b.length : Nat) : Int) := w64_add i b.length (by omega)
    have e2 : wrap64 ((i : Int) + 1) = ((i + 1 : Nat) : Int) := by rw [← w64_nat (i + 1) (by omega)]; rfl
    have hz := hP.zero (i + b.length) (Nat.le_refl _)
    obtain ⟨r, h1, h2⟩ := hO (out.set (i + b.length) c) ⟨by rw [List.length_set]; exact hlen, inB_set hP.dig _ hc, fun j hj => by
        rw [getD_set, if_neg (by omega)]
        exact hP.zero j (by omega)⟩ (by
        rw [valB_set H32 out _ c q1, hz, Int.sub_zero, HV.out, valB_take_succ H32 a i hi, List.take_of_length_le (Nat.le_refl _), Int.add_mul, Int.mul_assoc])
    refine ⟨r, Ev.step (fun k => ?_) h1, h2⟩
    rw [reckonerref01_Times.l1, if_neg q2, e1, if_pos q3, if_pos q4, Int.toNat_natCast, e2]
  | n + 1, kk, out, c, hk, hP, hc, hv => by
    have HV := Aside0.mk hv
    clear hv
    have hlen := hP.len
    have hk' : kk + 1 + n = b.length := by omega
    have hjj : ∀ j, i + b.length ≤ j → ¬ (i + kk = j ∧ i + kk < out.length) := by omega
    have hkb : kk < b.length := by omega
    have e1 : wrap64 ((i : Int) + (kk : Int)) = ((i + kk : Nat) : Int) := w64_add i kk (by omega)
    have e2 : wrap64 ((kk : Int) + 1) = ((kk + 1 : Nat) : Int) := by rw [← w64_nat (kk + 1) (by omega)]; rfl
    have q1 : (kk : Int) < (b.length : Int) := by omega
    have q2 : (0 : Int) ≤ ((i + kk : Nat) : Int) := by omega
    have q3 : ((i + kk : Nat) : Int) < (out.length : Int) := by omega
    have q4 : (0 : Int) ≤ (i : Int) := by omega
    have q5 : (i : Int) < (a.length : Int) := by omega
    have q6 : (0 : Int) ≤ (kk : Int) := by omega
    have q7 : i + kk < out.length := by omega
    have h1 := inB_getD H32_pos ha i
    have h2 := inB_getD H32_pos hb kk
    have h3 := inB_getD H32_pos hP.dig (i + kk)
    rw [H32_eq] at h1 h2 h3 hc
    have hmul : a.getD i 0 * b.getD kk 0 ≤ 18446744065119617025 := Int.le_trans (Int.mul_le_mul (show a.getD i 0 ≤ 4294967295 by omega) (show b.getD kk 0 ≤ 4294967295 by omega) h2.1 (by decide)) (by decide)
    have hmul0 : 0 ≤ a.getD i 0 * b.getD kk 0 := Int.mul_nonneg h1.1 h2.1
    obtain ⟨p, hp⟩ : ∃ p, p = a.getD i 0 * b.getD kk 0 := ⟨_, rfl⟩
    rw [← hp] at hmul hmul0
    have HPP := Aside0.mk hp
    clear hp
    have w1 : IntKind.u64.wrap (c + out.getD (i + kk) 0) = c + out.getD (i + kk) 0 := wrapW _ (by omega) (by omega)
    have w2 : IntKind.u64.wrap p = p := wrapW _ (by omega) (by omega)
    have w3 : 0 ≤ c + out.getD (i + kk) 0 + p ∧ c + out.getD (i + kk) 0 + p < 18446744073709551616 := by omega
    have w4 : 0 ≤ (c + out.getD (i + kk) 0 + p) / H32 ∧ (c + out.getD (i + kk) 0 + p) / H32 < 4294967296 := by rw [H32_eq]; omega
    have w5 : (c + out.getD (i + kk) 0 + p) / H32 < 18446744073709551616 := by omega
    have w6 : 0 ≤ (c + out.getD (i + kk) 0 + p) % H32 ∧ (c + out.getD (i + kk) 0 + p) % H32 < H32 := by rw [H32_eq]; omega
    have hdm := Int.emod_add_mul_ediv (c + out.getD (i + kk) 0 + p) H32
    obtain ⟨r, k1, k2⟩ := Times_inner a b ha hb hn hm i hi hO n (kk + 1) (out.set (i + kk) ((c + out.getD (i + kk) 0 + p) % H32)) ((c + out.getD (i + kk) 0 + p) / H32) hk'
      ⟨by rw [List.length_set]; exact hlen, inB_set hP.dig _ w6, fun j hj => by rw [getD_set, if_neg (hjj j hj)]; exact hP.zero j hj⟩ w4 (by
        rw [valB_set H32 out _ _ q7, valB_take_succ H32 b kk hkb, Int.mul_add (a.getD i 0), Int.mul_add (H32 ^ i), ← Int.add_assoc, ← HV.out]
        have e4 : H32 ^ i * (a.getD i 0 * (H32 ^ kk * b.getD kk 0)) = H32 ^ (i + kk) * p := by
          rw [HPP.out, Int.pow_add, Int.mul_left_comm (a.getD i 0), ← Int.mul_assoc]
        have e5 : H32 ^ (i + (kk + 1)) = H32 ^ (i + kk) * H32 := by rw [← Nat.add_assoc, Int.pow_succ]
        have e6 : H32 ^ (i + kk) * ((c + out.getD (i + kk) 0 + p) % H32 - out.getD (i + kk) 0) + H32 ^ (i + kk) * H32 * ((c + out.getD (i + kk) 0 + p) / H32) = H32 ^ (i + kk) * c + H32 ^ (i + kk) * p := by
          rw [Int.mul_assoc, ← Int.mul_add, ← Int.mul_add, lin5 _ _ _ _ _ hdm]
        rw [e4, e5, Int.add_assoc (valB H32 out), e6, ← Int.add_assoc])
    refine ⟨r, Ev.step (fun k => ?_) k1, k2⟩
    rw [reckonerref01_Times.l1, if_pos q1, e1, if_pos q2, if_pos q3, if_pos q4, if_pos q5, if_pos q6, rd_nat, rd_nat, rd_nat, ← HPP.out, w1, w2, wrapW _ w3.1 w3.2, tmodH _ w3.1, tdivH _ w3.1, wrapW _ w4.1 w5, e2, Int.toNat_natCast]
theorem Times_outer (a b : List Int) (ha : inB H32 a) (hb : inB H32 b) (hn : a.length ≤ 1000000) (hm : b.length ≤ 1000000) : ∀ (m i : Nat) (out : List Int), i + m = a.length → Prod a b out i → valB H32 out = valB H32 (a.take i) * valB H32 b →
      ∃ r, Ev (fun k => reckonerref01_Times.l0 k a b out (i : Int)) r ∧ Good a b r
  | 0, i, out, hi, hP, hv => by
    have q0 : a.length ≤ i := by clear hv; omega
    have q1 : ¬ (i : Int) < (a.length : Int) := by clear hv; omega
    rw [List.take_of_length_le q0] at hv
    exact ⟨out, Ev.now' fun k => by rw [reckonerref01_Times.l0, if_neg q1], hP.dig, hP.len, hv⟩
  | m + 1, i, out, hi, hP, hv => by
    have q1 : (i : Int) < (a.length : Int) := by clear hv; omega
    have q2 : i < a.length := by clear hv; omega
    have q3 : i + 1 + m = a.length := by clear hv; omega
    obtain ⟨r, h1, h2⟩ := Times_inner a b ha hb hn hm i q2 (fun out hP hv => Times_outer a b ha hb hn hm m (i + 1) out q3 hP hv) b.length 0 out 0 (Nat.zero_add _) hP ⟨Int.le_refl 0, H32_pos⟩ (by
      rw [List.take_zero]
      simp [valB, hv])
    exact ⟨r, Ev.step (fun k => by rw [reckonerref01_Times.l0, if_pos q1]; rfl) h1, h2⟩
/-- A product of digits. -/
theorem Times_ev (a b : List Int) (ha : inB H32 a) (hb : inB H32 b) (hn : a.length ≤ 1000000) (hm : b.length ≤ 1000000) : ∃ r, Ev (fun k => reckonerref01_Times.f k a b) r ∧ Good a b r := by
  obtain ⟨r, h1, h2⟩ := Times_outer a b ha hb hn hm a.length 0 (List.replicate (a.length + b.length) 0) (by omega)
    ⟨by simp, inB_zeros H32_pos _, fun j _ => by
        simp only [List.getD_eq_getElem?_getD, List.getElem?_replicate]
        split <;> rfl⟩ (by rw [valB_zeros, List.take_zero]; simp [valB])
  have e1 : wrap64 ((a.length : Int) + (b.length : Int)) = ((a.length + b.length : Nat) : Int) := w64_add a.length b.length (by omega)
  have q1 : (0 : Int) ≤ ((a.length + b.length : Nat) : Int) := by omega
  have q2 : a.length + b.length ≤ 35184372088832 := by omega
  refine ⟨r, Ev.congr (fun k => ?_) h1, h2⟩
  show reckonerref01_Times.f k a b = _
  unfold reckonerref01_Times.f
  rw [e1, if_pos q1, Int.toNat_natCast, if_pos q2]
  rfl
end Go.Proofs.YtldefhhfcbmbpaaDoor.Ex
/- What every law asks beside: awake; the law's few and equal. -/
namespace Go.Proofs.YtldefhhfcbmbpaaDoor.Ex
open Go.RowKit Go.Proofs.YtldefhhfcbmbpaaDoorW.PrintWords Go.Proofs.YtldefhhfcbmbpaaDoorW.PrintLast Go.Proofs.YtldefhhfcbmbpaaDoorW.PrintMore Go.Proofs.YtldefhhfcbmbpaaDoor.T
set_option linter.unusedVariables false
set_option linter.unusedSimpArgs false

theorem isW_of_wf {x : Int} (h : (Lit.int .u64 x).wf = true) : isW x := by
  have h1 : 0 ≤ x ∧ x ≤ 18446744073709551615 := by
    simp [Lit.wf, IntKind.min, IntKind.max, IntKind.signed, IntKind.bits] at h
    omega
  unfold isW
  rw [W64_eq]
  omega
theorem inW_of_wf {l : List Int} (h : ∀ x ∈ l, (Lit.int .u64 x).wf = true) : inW l := fun x hx => isW_of_wf (h x hx)
theorem inW_take {l : List Int} (h : inW l) (n : Nat) : inW (l.take n) := fun x hx => h x (List.mem_of_mem_take hx)
theorem few_some (l : List Int) (n : Nat) (h : l.length ≤ 17592186044415) : reckonerlaw01_few.f l (n : Int) = some (l.take n) := by
  unfold reckonerlaw01_few.f
  rw [if_pos ⟨by omega, h⟩, Int.toNat_natCast]
theorem aw1 : words_Add.f [18446744073709551615] [1] 0 = some ([0], 1, 0) := by kernel_rfl
theorem aw2 : words_Sub.f [0] [1] 0 = some ([18446744073709551615], 1, 0) := by kernel_rfl
theorem aw3 : words_MulWord.f [18446744073709551615] 18446744073709551615 18446744073709551615 = some ([0], 18446744073709551615, 0) := by kernel_rfl
theorem aw4 : words_DivWord.f [0] 3 1 = some ([6148914691236517205], 1, 0) := by kernel_rfl
theorem aw5 : words_Right.f [3] 1 = some ([1], 9223372036854775808, 0) := by kernel_rfl
theorem aw6 : words_Inverse.f 3 = some (12297829382473034411, 0) := by kernel_rfl
theorem aw7 : words_Reciprocal.f 9223372036854775808 = some (18446744073709551615, 0) := by kernel_rfl
theorem awake_ev : Ev (fun k => reckonerlaw01_awake.f k) true := by
  obtain ⟨k1, h1⟩ := same_true (a := [0]) (b := [0]) rfl (by decide)
  obtain ⟨k2, h2⟩ := same_true (a := [18446744073709551615]) (b := [18446744073709551615]) rfl (by decide)
  obtain ⟨k3, h3⟩ := same_true (a := [6148914691236517205]) (b := [6148914691236517205]) rfl (by decide)
  obtain ⟨k4, h4⟩ := same_true (a := [1]) (b := [1]) rfl (by decide)
  refine ⟨max (max k1 k2) (max k3 k4), fun k hk => ?_⟩
  have e1 : reckonerlaw01_same.f k [0] [0] = some true := h1 k (by omega)
  have e2 : reckonerlaw01_same.f k [18446744073709551615] [18446744073709551615] = some true := h2 k (by omega)
  have e3 : reckonerlaw01_same.f k [6148914691236517205] [6148914691236517205] = some true := h3 k (by omega)
  have e4 : reckonerlaw01_same.f k [1] [1] = some true := h4 k (by omega)
  show reckonerlaw01_awake.f k = some true
  unfold reckonerlaw01_awake.f
  simp only [aw1, aw2, aw3, aw4, aw5, aw6, aw7, Option.bind_some, e1, e2, e3, e4, if_true]
  rfl
end Go.Proofs.YtldefhhfcbmbpaaDoor.Ex
/- WordsShifts: the plain law. -/
namespace Go.Proofs.YtldefhhfcbmbpaaDoor.Ex
open Go.RowKit Go.Proofs.YtldefhhfcbmbpaaDoorW.PrintWords Go.Proofs.YtldefhhfcbmbpaaDoorW.PrintLast Go.Proofs.YtldefhhfcbmbpaaDoorW.PrintMore Go.Proofs.YtldefhhfcbmbpaaDoor.T
set_option linter.unusedVariables false
set_option linter.unusedSimpArgs false

theorem pow2_lt (n : Nat) (h : n ≤ 63) : isW ((2 : Int) ^ n) := by
  have h1 : 2 ^ n < 2 ^ 64 := Nat.pow_lt_pow_right (by decide) (by omega)
  have h2 : (2 : Int) ^ n = ((2 ^ n : Nat) : Int) := by simp
  have h3 : 2 ^ n < 18446744073709551616 := h1
  unfold isW
  rw [h2, W64_eq]
  exact ⟨Int.natCast_nonneg _, Int.ofNat_lt.2 h3⟩
theorem shl_one (s : Int) (h0 : 0 ≤ s) (h1 : s ≤ 63) : shl .u64 1 s = 2 ^ s.toNat := by
  have h := pow2_lt s.toNat (by omega)
  have h2 := h.2
  rw [W64_eq] at h2
  rw [← shl_small (rfl : shl .u64 1 s = shl .u64 1 s) (show s ≤ ((64 : Nat) : Int) by omega), Int.one_mul]
  exact wrapW _ h.1 h2
/-- The reference's product of a row and a word is the program's. -/
theorem MulW_ev (x : List Int) (w : Int) (hx : inW x) (hw : isW w) (hn : x.length ≤ 4096) :
    Ev (fun k => (reckonerref01_Digits.f k x).bind fun t486 => ((reckonerref01_Times.f k t486 [w % H32, w / H32]).bind fun t492 => ((reckonerref01_Cut.f k t492 (x.length : Int)).bind fun bt495 => (some (bt495.1, bt495.2))))) (carryL (fun i c => moreS (x.getD i 0) w c 0) x.length 0 0) := by
  have d1 := Digits_ev x hx (by omega)
  obtain ⟨p, p1, p2, p3, p4⟩ := Times_ev (digitsL x) [w % H32, w / H32] (digitsL_in hx) (word_in _ hw) (by rw [digitsL_length]; omega) (by simp)
  rw [digitsL_val, word_val] at p4
  have hpl : p.length = 2 * x.length + 2 := by rw [p3, digitsL_length]; rfl
  obtain ⟨row, t, c1, c2, c3, c4, c5⟩ := Cut_ev x.length (by omega) p p2 (by omega)
  have hp0 := valB_nonneg H32_pos p2
  have hp1 := valB_lt H32_pos p2
  rw [hpl, show 2 * x.length + 2 = 2 * (x.length + 1) by omega, H32_pow, Int.pow_succ] at hp1
  rw [Int.emod_eq_of_lt hp0 hp1, p4] at c5
  obtain ⟨v1, v2, v3⟩ := mul_val x w 0 hx hw ⟨Int.le_refl 0, W64_pos⟩
  have hlen := carryL_length (fun i c => moreS (x.getD i 0) w c 0) x.length 0 0
  obtain ⟨z, u, hzu⟩ : ∃ z u, carryL (fun i c => moreS (x.getD i 0) w c 0) x.length 0 0 = (z, u) := ⟨_, _, rfl⟩
  rw [hzu] at v2 v3 hlen ⊢
  simp only at v2 v3 hlen
  rw [Int.add_zero, ← c5] at v3
  obtain ⟨e1, e2⟩ := row_eq v2 c2 hlen c3 v3
  rw [e1, e2]
  exact Ev.bind d1 (Ev.bind p1 (Ev.bind c1 (Ev.now (row, t))))
/-- The reference's shift to the left is the program's. -/
theorem Left_ev (x : List Int) (s : Int) (hx : inW x) (h0 : 0 ≤ s) (h1 : s ≤ 63) (hn : x.length ≤ 4096) :
    Ev (fun k => reckonerref01_Left.f k x s) (carryL (fun i c => moreS (x.getD i 0) (2 ^ s.toNat) c 0) x.length 0 0) := by
  have hw := pow2_lt s.toNat (by omega)
  have hs := shl_one s h0 h1
  generalize (2 : Int) ^ s.toNat = w at hw hs ⊢
  refine Ev.congr (fun k => ?_) (MulW_ev x w hx hw hn)
  show reckonerref01_Left.f k x s = _
  unfold reckonerref01_Left.f
  rw [hs, Word_some w hw]
  congr 1
  funext t
  rw [if_pos h0, Option.bind_some]
theorem right_sum (x c : Int) (n : Nat) (hx : isW x) (hn : n ≤ 63) (hc : fallen n c) : 0 ≤ c + x / 2 ^ n ∧ c + x / 2 ^ n < 18446744073709551616 := by
  obtain ⟨X, rfl⟩ := Int.eq_ofNat_of_zero_le hx.1
  obtain ⟨k, hk, rfl⟩ := hc
  have hX := hx.2
  rw [W64_eq] at hX
  have hB : 2 ^ n * 2 ^ (64 - n) = 18446744073709551616 := by rw [← Nat.pow_add, show n + (64 - n) = 64 by omega]
  have hp : 0 < 2 ^ n := Nat.pow_pos (by decide)
  have ep : (2 : Int) ^ n = ((2 ^ n : Nat) : Int) := by simp
  have hq : X / 2 ^ n < 2 ^ (64 - n) := by rw [Nat.div_lt_iff_lt_mul hp, Nat.mul_comm, hB]; omega
  have hkk : k * 2 ^ (64 - n) + 2 ^ (64 - n) ≤ 18446744073709551616 := by
    have h1 : (k + 1) * 2 ^ (64 - n) ≤ 2 ^ n * 2 ^ (64 - n) := Nat.mul_le_mul_right _ hk
    rw [hB, Nat.add_mul, Nat.one_mul] at h1
    exact h1
  rw [ep]
  have e4 : ((X : Int) / ((2 ^ n : Nat) : Int)) = ((X / 2 ^ n : Nat) : Int) := by omega
  rw [e4]
  generalize X / 2 ^ n = q at *
  generalize k * 2 ^ (64 - n) = kk at *
  generalize 2 ^ (64 - n) = e at *
  omega
theorem Right_loop (x : List Int) (s : Int) (hx : inW x) (h0 : 0 ≤ s) (h1 : s ≤ 63) (hn : x.length ≤ 1000000) : ∀ m (out : List Int) (c : Int), m ≤ x.length → out.length = x.length → fallen s.toNat c →
    Ev (fun k => reckonerref01_Right.l0 k x s out c ((m : Int) - 1)) ((downL (rightS s.toNat x) m c).1 ++ out.drop m, (downL (rightS s.toNat x) m c).2)
  | 0, out, c, _, _, _ => Ev.now' fun k => by
      have q1 : ¬ ((((0 : Nat) : Int) - 1) ≥ 0) := by decide
      rw [reckonerref01_Right.l0, if_neg q1]
      rfl
  | m + 1, out, c, hm, hol, hc => by
    have e0 : (((m + 1 : Nat) : Int) - 1) = (m : Int) := by omega
    have q1 : ((m : Int) ≥ 0) := by omega
    have q2 : (0 : Int) ≤ (m : Int) := by omega
    have q3 : (m : Int) < (x.length : Int) := by omega
    have q5 : (m : Int) < (out.length : Int) := by omega
    have e1 : wrap64 ((m : Int) - 1) = (m : Int) - 1 := w64_int _ (by omega) (by omega)
    have hxm := isW_get hx m
    obtain ⟨_, r2, r3⟩ := right_eq (x.getD m 0) c s hxm h0 h1 hc
    have rs := right_sum (x.getD m 0) c s.toNat hxm (by omega) hc
    have es : shr .u64 (x.getD m 0) s = x.getD m 0 / 2 ^ s.toNat := (shr_small rfl (show s ≤ ((64 : Nat) : Int) by omega)).symm
    have ew : IntKind.u64.wrap (c + x.getD m 0 / 2 ^ s.toNat) = x.getD m 0 / 2 ^ s.toNat + c := by rw [wrapW _ rs.1 rs.2, Int.add_comm]
    have ih := Right_loop x s hx h0 h1 hn m (out.set m (x.getD m 0 / 2 ^ s.toNat + c)) (x.getD m 0 % 2 ^ s.toNat * 2 ^ (64 - s.toNat)) (by omega) (by rw [List.length_set]; exact hol) r3
    have ed : (out.set m (x.getD m 0 / 2 ^ s.toNat + c)).drop m = (x.getD m 0 / 2 ^ s.toNat + c) :: out.drop (m + 1) := by
      rw [List.drop_eq_getElem_cons (by rw [List.length_set]; omega)]
      simp [List.drop_set]
    rw [ed] at ih
    have er : (downL (rightS s.toNat x) (m + 1) c).1 ++ out.drop (m + 1) = (downL (rightS s.toNat x) m (x.getD m 0 % 2 ^ s.toNat * 2 ^ (64 - s.toNat))).1 ++ (x.getD m 0 / 2 ^ s.toNat + c) :: out.drop (m + 1) := by
      show ((downL (rightS s.toNat x) m (x.getD m 0 % 2 ^ s.toNat * 2 ^ (64 - s.toNat))).1 ++ [x.getD m 0 / 2 ^ s.toNat + c]) ++ out.drop (m + 1) = _
      rw [List.append_assoc]
      rfl
    rw [er]
    refine Ev.step (fun k => ?_) ih
    rw [e0, reckonerref01_Right.l0, if_pos q1, if_pos q2, if_pos q3, if_pos h0, if_pos q5, rd_nat, es, ew, Option.bind_some, e1, Int.toNat_natCast]
    by_cases hs : s > 0
    · have e2 : wrap64 (64 - s) = 64 - s := w64_int _ (by omega) (by omega)
      have q6 : (0 : Int) ≤ 64 - s := by omega
      have el : shl .u64 (x.getD m 0) (64 - s) = x.getD m 0 % 2 ^ s.toNat * 2 ^ (64 - s.toNat) := by rw [← shl_small (rfl : shl .u64 (x.getD m 0) (64 - s) = _) (show 64 - s ≤ ((64 : Nat) : Int) by omega)]; exact r2
      rw [if_pos hs, e2, if_pos q6, el]
    · have hs0 : s = 0 := by omega
      subst hs0
      have el : x.getD m 0 % 2 ^ (0 : Int).toNat * 2 ^ (64 - (0 : Int).toNat) = 0 := by
        show x.getD m 0 % 2 ^ 0 * 2 ^ 64 = 0
        rw [Int.pow_zero, Int.emod_one, Int.zero_mul]
      rw [if_neg hs, el]
theorem Right_ev (x : List Int) (s : Int) (hx : inW x) (h0 : 0 ≤ s) (h1 : s ≤ 63) (hn : x.length ≤ 1000000) : Ev (fun k => reckonerref01_Right.f k x s) (downL (rightS s.toNat x) x.length 0) := by
  have h := Right_loop x s hx h0 h1 hn x.length (List.replicate x.length 0) 0 (Nat.le_refl _) (by simp) (fallen_zero _)
  rw [List.drop_of_length_le (by simp), List.append_nil] at h
  refine Ev.congr (fun k => ?_) h
  have q1 : (0 : Int) ≤ (x.length : Int) := by omega
  have q2 : x.length ≤ 35184372088832 := by omega
  have e1 : wrap64 ((x.length : Int) - 1) = (x.length : Int) - 1 := w64_int _ (by omega) (by omega)
  show reckonerref01_Right.f k x s = _
  unfold reckonerref01_Right.f
  rw [if_pos q1, Int.toNat_natCast, if_pos q2, e1]
theorem Shifts_loop : ∀ (m r : Nat), r + m = 2 → ∀ (a : List Int) (s : Int), inW a → a.length ≤ 40 → Ev (fun k => reckonerlaw01_WordsShifts.l0 k s a (r : Int)) true
  | 0, r, hr, a, s, ha, hla => by
    have hr3 : ¬ (r : Int) < 2 := by omega
    refine Ev.step (f := fun k => (reckonerlaw01_awake.f k).bind fun t => some t) (fun k => ?_) (Ev.bind awake_ev (Ev.now true))
    show reckonerlaw01_WordsShifts.l0 (k + 1) s a (r : Int) = _
    rw [reckonerlaw01_WordsShifts.l0, if_neg hr3]
  | m + 1, r, hr, a, s, ha, hla => by
    have hr3 : (r : Int) < 2 := by omega
    have ih := Shifts_loop m (r + 1) (by omega) a (wrap64 (Int.tmod (IntKind.u64.wrap (s)) 64)) ha hla
    have er := w64_suc r (by omega)
    by_cases hs : 0 ≤ s ∧ s ≤ 63
    · have fl : words_Left.f a s = some ((carryL (fun i c => moreS (a.getD i 0) (2 ^ s.toNat) c 0) a.length 0 0).1, (carryL (fun i c => moreS (a.getD i 0) (2 ^ s.toNat) c 0) a.length 0 0).2, 0) := by unfold words_Left.f; rw [if_pos ha, if_pos (by omega), if_pos hs]
      have fr : words_Right.f a s = some ((downL (rightS s.toNat a) a.length 0).1, (downL (rightS s.toNat a) a.length 0).2, 0) := by unfold words_Right.f; rw [if_pos ha, if_pos (by omega), if_pos hs]
      have rl := Left_ev a s ha hs.1 hs.2 (by omega)
      have rr := Right_ev a s ha hs.1 hs.2 (by omega)
      have ll := carryL_length (fun i c => moreS (a.getD i 0) (2 ^ s.toNat) c 0) a.length 0 0
      have lr := downL_length (rightS s.toNat a) a.length 0
      obtain ⟨z, u, hzu⟩ : ∃ z u, carryL (fun i c => moreS (a.getD i 0) (2 ^ s.toNat) c 0) a.length 0 0 = (z, u) := ⟨_, _, rfl⟩
      obtain ⟨y, v, hyv⟩ : ∃ y v, downL (rightS s.toNat a) a.length 0 = (y, v) := ⟨_, _, rfl⟩
      rw [hzu] at fl rl ll
      rw [hyv] at fr rr lr
      simp only at fl fr ll lr
      have sa := same_true (a := z) (b := z) rfl (by omega)
      have ss := same_true (a := y) (b := y) rfl (by omega)
      have hd : decide (s > 63) = false := decide_eq_false (by omega)
      have hn : ¬ s < 0 := by omega
      refine Ev.step (f := fun k => reckonerlaw01_WordsShifts.j1 k s a (r : Int) z u 0 y v 0 false) (fun k => ?_) ?_
      · show reckonerlaw01_WordsShifts.l0 (k + 1) s a (r : Int) = _
        rw [reckonerlaw01_WordsShifts.l0, if_pos hr3, fl, fr, Option.bind_some, Option.bind_some, if_neg hn, hd]
      · refine Ev.step (f := fun k => (reckonerref01_Left.f k a s).bind fun p => (reckonerref01_Right.f k a s).bind fun q => (reckonerlaw01_same.f k z p.1).bind fun t => if t = true then (if u = p.2 then ((reckonerlaw01_same.f k y q.1).bind fun t' => (if t' = true then (if v = q.2 then (reckonerlaw01_WordsShifts.l0 k (wrap64 (Int.tmod (IntKind.u64.wrap (s)) 64)) a (wrap64 ((r : Int) + 1))) else none) else none)) else none) else none) (fun k => rfl) ?_
        refine Ev.bind rl (Ev.bind rr (Ev.bind sa ?_))
        simp only [if_true]
        refine Ev.bind ss ?_
        simp only [if_true, er]
        exact ih
    · have fl : words_Left.f a s = some ([], 0, 1) := by unfold words_Left.f; rw [if_pos ha, if_pos (by omega), if_neg hs]
      have fr : words_Right.f a s = some ([], 0, 1) := by unfold words_Right.f; rw [if_pos ha, if_pos (by omega), if_neg hs]
      refine Ev.step (f := fun k => reckonerlaw01_WordsShifts.j1 k s a (r : Int) [] 0 1 [] 0 1 true) (fun k => ?_) (Ev.step (fun k => ?_) ih)
      · show reckonerlaw01_WordsShifts.l0 (k + 1) s a (r : Int) = _
        rw [reckonerlaw01_WordsShifts.l0, if_pos hr3, fl, fr, Option.bind_some, Option.bind_some]
        by_cases hn : s < 0
        · rw [if_pos hn]
        · have hd : decide (s > 63) = true := decide_eq_true (by omega)
          rw [if_neg hn, hd]
      · show reckonerlaw01_WordsShifts.j1 (k + 1) s a (r : Int) [] 0 1 [] 0 1 true = _
        rw [reckonerlaw01_WordsShifts.j1, if_pos rfl, if_pos rfl, if_pos rfl, if_pos (by kernel_rfl), er]
        repeat rw [if_pos rfl]
theorem pureShifts : reckonerlaw01_WordsShifts.Pure := by
  intro l0 a1 _ h0 hw0 _
  have f0 := few_some l0 40 (by omega)
  obtain ⟨k, hk⟩ := (Shifts_loop 2 0 rfl (l0.take 40) a1 (inW_take (inW_of_wf hw0) 40) (by rw [List.length_take]; omega)).rounds
  refine ⟨k, ?_⟩
  unfold reckonerlaw01_WordsShifts.f
  have e40 : ((40 : Nat) : Int) = 40 := rfl
  rw [e40] at f0
  rw [f0]
  exact hk
end Go.Proofs.YtldefhhfcbmbpaaDoor.Ex
-- PRINTED by print.py: the row of the law reckonerlaw01_WordsShifts, out of its Pure (the session's) and the printed walk. Not trusted: Lean checks it.
namespace Go.Proofs.YtldefhhfcbmbpaaDoor.wordsShifts
open Go.Proofs.YtldefhhfcbmbpaaDoor.Ex
open Go.ChangeShapes Go.WideShapes Go.ChangeAt Go.RowKit
open Go.ChangeMaps (open_string shut_string)
set_option linter.unusedVariables false
theorem own : ownKnob Tryd.prog.godebug = none := by kernel_rfl
theorem laidOut : laidOutB Tryd.prog = true := by kernel_rfl
def IsRow (k : IntKind) (w : World) (a : Option Addr) (len cap : Nat) (zs : List Int) : Prop :=
  (a = none ∧ len = 0 ∧ cap = 0 ∧ zs = []) ∨
  ∃ x, a = some x ∧ len ≤ cap ∧ cap ≤ maxLen ∧ zs.length = cap ∧ (∀ i, i < zs.length → w.cell? (x.add i) = some (.int k (zs.getD i 0))) ∧ ∀ n ∈ zs, (Lit.int k n).wf = true
theorem gT : Tryd.prog.globalNamed "reckoner/words.small" = some 0 := by kernel_rfl
theorem gTType : (Tryd.prog.globals[0]?).map (·.type) = some 82 := by kernel_rfl
theorem gCellsE : Tryd.prog.cellsOf 23 = 1 := by kernel_rfl
theorem gCells : Tryd.prog.cellsOf 82 = 16 := by kernel_rfl
/-- A world in which the table lies as its initialiser lays it. -/
noncomputable def laidWorld (os : Os) : World :=
  { World.holding Tryd.prog os ⟨#[], #[], []⟩ with heap := (World.holding Tryd.prog os ⟨#[], #[], []⟩).heap.modify 0 fun
      | .cells _ t frozen => .cells (smalls.map fun z => Value.int .u64 z).toArray t frozen
      | o => o }
theorem laid_met (os : Os) (args : Array Value) : laidMet Tryd.prog Rows.wordsShiftsRow.laid ((laidWorld os).forCall (fun _ _ => 0) ⟨#[], args, []⟩).memory :=
  laidMet_of_run' 8 (by kernel_rfl) (by kernel_rfl)
theorem witness_row (os : Os) {H : Type} (enc : TypeId × Value → H) :
    (OpenSpec.ofChange Rows.wordsShiftsSpec).preRow enc Tryd.prog Tryd.f5 Rows.wordsShiftsRow.domain false Rows.wordsShiftsRow.laid ((laidWorld os).forCall (fun _ _ => 0) ⟨#[], #[.slice none 0 0, .int .i64 0], []⟩).memory #[.slice none 0 0, .int .i64 0] := by
  have hw : (DataW.whole enc Tryd.prog ((laidWorld os).forCall (fun _ _ => 0) ⟨#[], #[.slice none 0 0, .int .i64 0], []⟩).memory Tryd.f5.params.toList (OpenSpec.ofChange Rows.wordsShiftsSpec).vars false (#[.slice none 0 0, .int .i64 0] : Array Value).toList 8).map (fun x => (x.1, x.2.1)) =
      some ([.nil, .lit (.int .i64 0)], []) := by kernel_rfl
  obtain ⟨⟨x1, x2, x3⟩, hx, hx1⟩ := Option.map_eq_some_iff.1 hw
  simp only [Prod.mk.injEq] at hx1
  obtain ⟨rfl, rfl⟩ := hx1
  exact OpenSpec.preRow_of_cond 8 hx (by kernel_rfl) (fun k hk => by cases hk) (by kernel_rfl) (laid_met os _)
set_option maxRecDepth 100000 in
theorem lifted (os : Os) (started : os.Started) (H : Type) (enc : TypeId × Value → H) (F : Stop.Interp) :
    ReturnsInHanded {} Tryd.checked os 5 .any ((OpenSpec.ofChange Rows.wordsShiftsSpec).preRow enc Tryd.prog Tryd.f5 Rows.wordsShiftsRow.domain false Rows.wordsShiftsRow.laid) (((OpenSpec.ofChange Rows.wordsShiftsSpec).at F).post enc Tryd.prog Tryd.f5 false true false false) := by
  refine returnsInHanded_of_row (C := Tryd.checked) (s := OpenSpec.ofChange Rows.wordsShiftsSpec) own started (by kernel_rfl) Tryd.func5
    (witness_row_at (enc := enc) (C := Tryd.checked) false (laidWorld os) #[.slice none 0 0, .int .i64 0] rfl (by kernel_rfl) (by kernel_rfl) (by kernel_rfl) (witness_row os enc)) ?_
  intro W base args ds gs before hval0 hW hcnd _ hsz0 hL _ _
  have htab : Lib.TabIs Tryd.prog W "reckoner/words.small" .u64 smalls := Lib.tabIs_of_head gT gTType Tryd.underlying82 Tryd.underlying23 gCellsE gCells hL
  have hg : Laid W := fun i hi => htab.cell gT i hi
  have hsz : (DataW.weightsEach Tryd.prog (Tryd.f5.params.toList ++ (OpenSpec.ofChange Rows.wordsShiftsSpec).bare.plain.varTypes Tryd.prog) (ds ++ gs)).all (· ≤ reachBytes) = true := hsz0
  have hval : ∀ (j : Nat) t v, Tryd.f5.params[j]? = some t → args[j]? = some v → Value.okWide Tryd.prog W .any base t v := hval0
  have hW' := hW
  obtain ⟨p, q, hA0, hV, rfl, hfz, hnd⟩ := hW
  have hA : DataW.TrodAll enc Tryd.prog W 0 (fun _ => true) true Tryd.f5.params.toList args.toList ds p := hA0
  rw [Tryd.params5] at hA hval hsz
  obtain ⟨v0, vs0, d0, ds0, p0, q0, hargs, rfl, rfl, h0, r0⟩ := trodAll_cons hA
  obtain ⟨v1, vs1, d1, ds1, p1, q1, rfl, rfl, rfl, h1, r1⟩ := trodAll_cons r0
  obtain ⟨rfl, rfl, rfl⟩ := trodAll_nil r1
  obtain rfl : args = #[v0, v1] := by cases args; simp_all
  obtain ⟨rfl, rfl⟩ := trodVars_none hV
  obtain ⟨a0, len0, cap0, rfl⟩ := okWide_slice Tryd.underlying22 (hval 0 22 v0 rfl rfl)
  have k0 := h0
  have lt0 : ∀ x ∈ p0, x.block < W.heap.size := by obtain ⟨m, hm⟩ := k0; exact DataW.trod_lt m _ _ _ hm
  obtain ⟨z0, w0⟩ : ∃ zs, IsRow .u64 W a0 len0 cap0 zs := by
    obtain ⟨fuel, hf⟩ := h0
    rcases open_ints Tryd.underlying22 Tryd.underlying23 (by kernel_rfl) hf with ⟨hcs, _⟩ | ⟨x, l, c, zs, hcs, _, hl, hm, hz, _, hcell, hwz⟩
    · simp [Value.cells] at hcs
      obtain ⟨rfl, rfl, rfl⟩ := hcs
      exact ⟨[], .inl ⟨rfl, rfl, rfl, rfl⟩⟩
    · simp [Value.cells] at hcs
      obtain ⟨rfl, rfl, rfl⟩ := hcs
      exact ⟨zs, .inr ⟨_, rfl, hl, hm, by simpa using hz, hcell, hwz⟩⟩
  have y0 : len0 * 8 ≤ 140737488351232 := Go.Proofs.YtldefhhfcbmbpaaDoorW.PrintWords.sized_ints hsz (j := 0) (t := 22) rfl rfl Tryd.underlying22 Tryd.underlying23 (by kernel_rfl) (by kernel_rfl) h0
  obtain ⟨a1, rfl, rfl, rfl, w1⟩ := open_int Tryd.underlying3 (hval 1 3 v1 rfl rfl) h1
  clear hA0 hval0 hsz0 hsz
  refine (T.reckonerlaw01_WordsShifts.walk pureShifts a0 len0 cap0 z0 a1 W w0 y0 w1 hg).mono fun e W' ⟨he, bel⟩ => ?_
  subst he
  exact ⟨_, rfl, _, _, _, [], _, [], hW', trodAll_mk1 (shut_bool Tryd.underlying4 _), (trodAll_cons_mk (Below.trod laidOut (by kernel_rfl) (of_decide_eq_true (by kernel_rfl)) k0 bel lt0) (trodAll_cons_mk (shut_int Tryd.underlying3 w1) trodAll_mk0)), rfl, bel.frame _, fun h => by cases h⟩
theorem over : Rows.wordsShiftsRow.holds Tryd.pinned (OpenSpec.ofChange Rows.wordsShiftsSpec) :=
  OpenClaim.holds_of_cond 5 Tryd.f5 rfl rfl rfl rfl rfl rfl rfl ⟨rfl, rfl, rfl, rfl, rfl⟩ rfl rfl rfl rfl rfl (by kernel_rfl) Tryd.func5 (by kernel_rfl)
    (of_decide_eq_true (by kernel_rfl)) (by unfold Func.isWrapper; first | (rw [if_pos (by decide +kernel)]; kernel_rfl) | (rw [if_neg (by decide +kernel)]; exact ⟨rfl, rfl⟩))
    (fun os started H enc _ F0 => by rw [OpenClaim.pre_eq_preRow]; exact lifted os started H enc F0)
theorem proved : Rows.WordsShiftsSaid := over
end Go.Proofs.YtldefhhfcbmbpaaDoor.wordsShifts
namespace Go.Proofs.YtldefhhfcbmbpaaDoor
/-- The row, under a short name, for the claim. -/
theorem wordsShifts_holds : Rows.WordsShiftsSaid := wordsShifts.proved
/-- THE TIED CARD. -/
theorem wordsShiftsCard_holds : Rows.WordsShiftsCardSaid :=
  Claim7.holds_tied_plain_at .later [] [.data] true (true, "2504ff196f4791dceee85039294dceef7a5defc03cfdfb7972b2fd1a548768f6") false
    wordsShifts_holds (fun _ h => by cases h) (by kernel_rfl) (fun _ h => by cases h) wordsShifts_row_tie rfl ⟨rfl, rfl⟩ (by kernel_rfl) rfl
    (fun f fn hf hfn => by
      obtain rfl : f = 5 := Option.some.inj ((show Tryd.prog.funcNamed Rows.wordsShiftsRow.func = some 5 by kernel_rfl).symm.trans hf) |>.symm
      obtain rfl : fn = Tryd.f5 := (Option.some.inj (Tryd.func5.symm.trans hfn)).symm
      exact ⟨by kernel_rfl, fun j t ht => by
        rw [Tryd.params5] at ht
        have h3 : Tryd.prog.wantsStandIn t = false := by
          rcases j with (_ | (_ | j))
          · obtain rfl := Option.some.inj ht.symm
            kernel_rfl
          · obtain rfl := Option.some.inj ht.symm
            kernel_rfl
          · simp at ht
        exact h3⟩)
    (by kernel_rfl)
end Go.Proofs.YtldefhhfcbmbpaaDoor
