/- Proof of NatRing: sums, products, squares and quotients of numbers obey the laws of a ring. (Part 5 of 5.) -/
import Derived.SizedLaws
import Derived.ChangeSlices
import Derived.Test.YtkkkbalefnileaaRows
import Derived.WalkKit
import Derived.ProofKit
import Derived.OpenShut
import Derived.ShutString
import Derived.ChangeOld
import Derived.Below
import Derived.Test.YtkkkbalefnileaaMNatRing3
/- The reference's functions on numbers. -/
namespace Go.Proofs.Ytkkkbalefnileaa.Ex
open Go.RowKit Go.Proofs.YtkkkbalefnileaaW.PrintWords Go.Proofs.YtkkkbalefnileaaW.PrintLast Go.Proofs.YtkkkbalefnileaaW.PrintMore Go.Proofs.Ytkkkbalefnileaa.T
set_option linter.unusedVariables false
set_option linter.unusedSimpArgs false

theorem isW_of_wf {x : Int} (h : (Lit.int .u64 x).wf = true) : isW x := by
  have h1 : 0 ≤ x ∧ x ≤ 18446744073709551615 := by
    simp [Lit.wf, IntKind.min, IntKind.max, IntKind.signed, IntKind.bits] at h
    omega
  unfold isW
  rw [W64_eq]
  omega
theorem inW_of_wf {l : List Int} (h : ∀ x ∈ l, (Lit.int .u64 x).wf = true) : inW l := fun x hx => isW_of_wf (h x hx)
theorem inW_take {l : List Int} (h : inW l) (n : Nat) : inW (l.take n) := fun x hx => h x (List.mem_of_mem_take hx)
theorem few_some (l : List Int) (n : Nat) (h : l.length ≤ 17592186044415) : reckonerlaw02_few.f l (n : Int) = some (l.take n) := by
  unfold reckonerlaw02_few.f
  rw [if_pos ⟨by omega, h⟩, Int.toNat_natCast]
/-- A row of n words whose value has n words is the value's. -/
theorem can_of_len {r : List Int} (hr : inW r) (h : r = [] ∨ W64 ^ (r.length - 1) ≤ valB W64 r) : r = can (valB W64 r) := by
  have h0 := valW_nonneg hr
  rcases h with h | h
  · rw [h]; rfl
  · have h1 := can_high h0 h
    have h2 := can_le hr
    exact valB_inj W64_pos hr (can_in h0) (by omega) (can_val h0).symm
theorem RNat_ev (d : List Int) (hd : inB H32 d) (hm : d.length ≤ 1000000) : Ev (fun k => reckonerref02_nat.f k d) (can (valB H32 d)) := by
  obtain ⟨m, hm1, hs, hv, hnz⟩ := Short_ev d (by omega)
  have hdm : inB H32 (d.take m) := inB_take hd m
  have hlm : (d.take m).length = m := by rw [List.length_take]; omega
  obtain ⟨r, t, hc, hr1, hr2, hr3, hr4⟩ := Cut_ev ((m + 1) / 2) (by omega) (d.take m) hdm (by omega)
  have hlt := valB_lt H32_pos hdm
  have h0 := valB_nonneg H32_pos hdm
  rw [hlm] at hlt
  have hp : H32 ^ m ≤ W64 ^ ((m + 1) / 2) := by rw [← H32_pow]; exact pow_leB (by omega)
  have hpp := pow_posB W64_pos ((m + 1) / 2)
  have hmod : valB H32 (d.take m) % (W64 ^ ((m + 1) / 2) * W64) = valB H32 (d.take m) := by
    refine Int.emod_eq_of_lt h0 ?_
    have h1 : W64 ^ ((m + 1) / 2) * 1 ≤ W64 ^ ((m + 1) / 2) * W64 := Int.mul_le_mul_of_nonneg_left (by decide) (Int.le_of_lt hpp)
    rw [Int.mul_one] at h1
    omega
  rw [hmod, hv] at hr4
  rw [hv] at hlt h0
  have hrl := valB_lt W64_pos hr1
  have hr0 := valB_nonneg W64_pos hr1
  rw [hr2] at hrl
  have ht : t = 0 := by
    by_cases ht : t ≤ 0
    · have := hr3.1; omega
    · have h1 : W64 ^ ((m + 1) / 2) * 1 ≤ W64 ^ ((m + 1) / 2) * t := Int.mul_le_mul_of_nonneg_left (by omega) (Int.le_of_lt hpp)
      rw [Int.mul_one] at h1
      omega
  rw [ht, Int.mul_zero, Int.add_zero] at hr4
  have hcan : r = can (valB H32 d) := by
    have h1 := can_of_len hr1 (by
      rw [hr2]
      by_cases hm0 : m = 0
      · left; rw [hm0] at hr2; exact List.eq_nil_of_length_eq_zero hr2
      · right
        rw [hr4, ← hv]
        have h2 := valB_take_succ H32 d (m - 1) (by omega)
        rw [show m - 1 + 1 = m by omega] at h2
        rw [h2]
        have h3 := valB_nonneg H32_pos (inB_take hd (m - 1))
        have h4 : 1 ≤ d.getD (m - 1) 0 := by
          have h5 := (inB_getD H32_pos hd (m - 1)).1
          rcases hnz with h | h
          · exact (hm0 h).elim
          · omega
        have h6 : H32 ^ (m - 1) * 1 ≤ H32 ^ (m - 1) * d.getD (m - 1) 0 := Int.mul_le_mul_of_nonneg_left h4 (Int.le_of_lt (pow_posB H32_pos _))
        rw [Int.mul_one] at h6
        have h7 : W64 ^ ((m + 1) / 2 - 1) ≤ H32 ^ (m - 1) := by rw [← H32_pow]; exact pow_leB (by omega)
        omega)
    rw [hr4] at h1
    exact h1
  have e : wrap64 (Int.tdiv (wrap64 (((d.take m).length : Int) + 1)) 2) = (((m + 1) / 2 : Nat) : Int) := by
    rw [hlm, show ((m : Int) + 1) = ((m + 1 : Nat) : Int) by omega, w64_nat (m + 1) (by omega)]
    exact w64_nat ((m + 1) / 2) (by omega)
  refine Ev.bind hs ?_
  simp only [e]
  refine Ev.bind hc ?_
  rw [← hcan]
  exact Ev.now _
theorem RTrim_ev (x : List Int) (hx : inW x) (hn : x.length ≤ 400000) : Ev (fun k => reckonerref02_Trim.f k x) (can (valB W64 x)) := by
  have h := RNat_ev (digitsL x) (digitsL_in hx) (by rw [digitsL_length]; omega)
  rw [digitsL_val] at h
  exact Ev.bind (Digits_ev x hx (by omega)) (Ev.bind h (Ev.now _))
theorem RCan_some {x : List Int} (h : canL x) (hn : x.length ≤ 400000) : reckonerref02_Canonical.f x = some true := by
  unfold reckonerref02_Canonical.f
  by_cases h0 : x = []
  · subst h0; rfl
  · have hp : 0 < x.length := List.length_pos_iff.2 h0
    have e : wrap64 ((x.length : Int) - 1) = ((x.length - 1 : Nat) : Int) := by rw [← w64_nat (x.length - 1) (by omega)]; congr 1; omega
    have hl : x.getD (x.length - 1) 0 ≠ 0 := by
      intro e
      have h1 := canL_low h h0
      have h2 := valB_take_succ W64 x (x.length - 1) (by omega)
      rw [List.take_of_length_le (by omega), e, Int.mul_zero, Int.add_zero] at h2
      have h3 := valB_lt W64_pos (inB_take (canL_in h) (x.length - 1))
      rw [List.length_take, Nat.min_eq_left (by omega)] at h3
      omega
    rw [if_neg (by omega), e, if_pos (by omega), if_pos (by omega), rd_nat, bne_iff_ne.2 hl]
theorem RIs_ev {v : Int} (y : List Int) (hy : inW y) (hn : y.length ≤ 400000) (h : valB W64 y = v) : Ev (fun k => reckonerref02_Is.f k (can v) y) true := by
  have hv : 0 ≤ v := by rw [← h]; exact valW_nonneg hy
  have hl := can_le hy
  rw [h] at hl
  have ht := RTrim_ev y hy hn
  rw [h] at ht
  have hs := RSame_ev (can v) (can v) (by omega)
  rw [decide_eq_true rfl] at hs
  refine Ev.congr (f := fun k => (reckonerref02_Trim.f k y).bind fun t => (reckonerref01_Same.f k (can v) t).bind fun t => some t) (fun k => ?_) (Ev.bind ht (Ev.bind hs (Ev.now true)))
  show reckonerref02_Is.f k (can v) y = _
  unfold reckonerref02_Is.f
  rw [RCan_some (can_canL hv) (by omega), Option.bind_some, if_pos rfl]
theorem RWord_ev (w : Int) (hw : isW w) : Ev (fun k => reckonerref02_FromWord.f k w) (can w) := by
  have h := RNat_ev [w % H32, w / H32] (word_in w hw) (by simp)
  rw [word_val] at h
  refine Ev.congr (f := fun k => (reckonerref02_nat.f k [w % H32, w / H32]).bind fun t => some t) (fun k => ?_) (Ev.bind h (Ev.now _))
  show reckonerref02_FromWord.f k w = _
  unfold reckonerref02_FromWord.f
  rw [Word_some w hw, Option.bind_some]
theorem RAdd_ev (x y : List Int) (hx : inW x) (hy : inW y) (hn : x.length ≤ 400000) (hm : y.length ≤ 400000) : Ev (fun k => reckonerref02_Add.f k x y) (can (valB W64 x + valB W64 y)) := by
  obtain ⟨p, hp1, hp2, hp3, hp4⟩ := Plus_ev (digitsL x) (digitsL y) (digitsL_in hx) (digitsL_in hy) (by rw [digitsL_length]; omega) (by rw [digitsL_length]; omega)
  rw [digitsL_length, digitsL_length] at hp3
  rw [digitsL_val, digitsL_val] at hp4
  have h := RNat_ev p hp2 (by omega)
  rw [hp4] at h
  exact Ev.bind (Digits_ev x hx (by omega)) (Ev.bind (Digits_ev y hy (by omega)) (Ev.bind hp1 (Ev.bind h (Ev.now _))))
theorem RMul_ev (x y : List Int) (hx : inW x) (hy : inW y) (hn : x.length ≤ 200000) (hm : y.length ≤ 200000) : Ev (fun k => reckonerref02_Mul.f k x y) (can (valB W64 x * valB W64 y)) := by
  obtain ⟨p, hp1, hp2, hp3, hp4⟩ := Times_ev (digitsL x) (digitsL y) (digitsL_in hx) (digitsL_in hy) (by rw [digitsL_length]; omega) (by rw [digitsL_length]; omega)
  rw [digitsL_length, digitsL_length] at hp3
  rw [digitsL_val, digitsL_val] at hp4
  have h := RNat_ev p hp2 (by omega)
  rw [hp4] at h
  exact Ev.bind (Digits_ev x hx (by omega)) (Ev.bind (Digits_ev y hy (by omega)) (Ev.bind hp1 (Ev.bind h (Ev.now _))))
end Go.Proofs.Ytkkkbalefnileaa.Ex
/- The reference's Parse; what every law asks beside: awake. -/
namespace Go.Proofs.Ytkkkbalefnileaa.Ex
open Go.RowKit Go.Proofs.YtkkkbalefnileaaW.PrintWords Go.Proofs.YtkkkbalefnileaaW.PrintLast Go.Proofs.YtkkkbalefnileaaW.PrintMore Go.Proofs.Ytkkkbalefnileaa.T
set_option linter.unusedVariables false
set_option linter.unusedSimpArgs false

/-- The number of the digits from place i on, behind v. -/
def pv (s : ByteArray) : Nat → Nat → Int → Int
  | _, 0, v => v
  | i, n + 1, v => pv s (i + 1) n (v * 10 + (bt s (i : Int) - 48) % 256)
theorem Parse_loop (s : ByteArray) (hs : s.size ≤ 1000) (n : Nat) : ∀ (i : Nat) (v : Int), i + n = s.size → 0 ≤ v → v < W64 ^ (i + 1) → Ev (fun k => reckonerref02_Parse.l0 k s (can v) (i : Int)) (can (pv s i n v)) := by
  induction n with
  | zero =>
    intro i v hi h0 h1
    refine Ev.now' fun k => ?_
    rw [reckonerref02_Parse.l0, if_neg (by omega)]
    rfl
  | succ n IH =>
    intro i v hi h0 h1
    have e1 : wrap64 ((i : Int) + 1) = ((i + 1 : Nat) : Int) := by rw [← w64_nat (i + 1) (by omega)]; rfl
    have hd0 : 0 ≤ (bt s (i : Int) - 48) % 256 := Int.emod_nonneg _ (by decide)
    have hd1 : (bt s (i : Int) - 48) % 256 < 256 := Int.emod_lt_of_pos _ (by decide)
    have hdw : isW ((bt s (i : Int) - 48) % 256) := by unfold isW; rw [W64_eq]; omega
    have htw : isW 10 := by decide
    have hl := can_short h0 h1
    have r1 := RWord_ev 10 htw
    have r2 := RMul_ev (can v) (can 10) (can_in h0) (can_in (by decide)) (by omega) (by decide)
    rw [can_val h0, can_val (by decide)] at r2
    have r3 := RWord_ev _ hdw
    have hp := pow_posB W64_pos (i + 1)
    have hb : v * 10 + (bt s (i : Int) - 48) % 256 < W64 ^ (i + 1 + 1) := by
      rw [Int.pow_succ _ (i + 1)]
      have h2 : W64 ^ (i + 1) * 1000 ≤ W64 ^ (i + 1) * W64 := Int.mul_le_mul_of_nonneg_left (by decide) (Int.le_of_lt hp)
      omega
    have hm0 : 0 ≤ v * 10 := by omega
    have hm1 : v * 10 < W64 ^ (i + 1 + 1) := by omega
    have hml := can_short hm0 hm1
    have hwl : (can ((bt s (i : Int) - 48) % 256)).length ≤ 1 := can_short hd0 (by rw [Int.pow_succ, Int.pow_zero, Int.one_mul]; exact hdw.2)
    have r4 := RAdd_ev (can (v * 10)) (can ((bt s (i : Int) - 48) % 256)) (can_in hm0) (can_in hd0) (by omega) (by omega)
    rw [can_val hm0, can_val hd0] at r4
    have ih := IH (i + 1) (v * 10 + (bt s (i : Int) - 48) % 256) (by omega) (by omega) hb
    refine Ev.step (f := fun k => (reckonerref02_FromWord.f k 10).bind fun t => (reckonerref02_Mul.f k (can v) t).bind fun t2 => (reckonerref02_FromWord.f k ((bt s (i : Int) - 48) % 256)).bind fun t3 => (reckonerref02_Add.f k t2 t3).bind fun t4 => reckonerref02_Parse.l0 k s t4 ((i + 1 : Nat) : Int)) (fun k => ?_) (Ev.bind r1 (Ev.bind r2 (Ev.bind r3 (Ev.bind r4 ih))))
    show reckonerref02_Parse.l0 (k + 1) s (can v) (i : Int) = _
    rw [reckonerref02_Parse.l0, if_pos (by omega)]
    simp only [if_pos (show (0 : Int) ≤ (i : Int) by omega), e1]
theorem Parse_ev (s : ByteArray) (hs : s.size ≤ 1000) (v : Int) (h : pv s 0 s.size 0 = v) : Ev (fun k => reckonerref02_Parse.f k s) (can v) := by
  have h1 := Parse_loop s hs s.size 0 0 (by omega) (Int.le_refl 0) (by decide)
  rw [h] at h1
  exact h1
theorem aw1 : nat_Pow.f [10] 20 = some (can 100000000000000000000, 0) := by
  have e : valB W64 [10] ^ (20 : Int).toNat = 100000000000000000000 := by decide
  have hl : (can 100000000000000000000).length ≤ 4096 := Nat.le_trans (can_short (n := 2) (by decide) (by decide)) (by decide)
  unfold nat_Pow.f
  rw [if_pos (by decide), if_pos (by decide), if_neg (by decide), e]
  unfold fitV
  rw [if_pos hl]
theorem aw2 : nat_Square.f [18446744073709551615] = some (can 340282366920938463426481119284349108225, 0) := by
  have e : valB W64 [18446744073709551615] * valB W64 [18446744073709551615] = 340282366920938463426481119284349108225 := by decide
  have hl : (can 340282366920938463426481119284349108225).length ≤ 4096 := Nat.le_trans (can_short (n := 2) (by decide) (by decide)) (by decide)
  unfold nat_Square.f
  rw [if_pos (by decide), if_pos (by decide), e]
  unfold fitV
  rw [if_pos hl]
theorem aw3 : nat_DivMod.f [7766279631452241920, 5] [3] = some (can 33333333333333333333, can 1, 0) := by
  have e1 : valB W64 [7766279631452241920, 5] / valB W64 [3] = 33333333333333333333 := by decide
  have e2 : valB W64 [7766279631452241920, 5] % valB W64 [3] = 1 := by decide
  unfold nat_DivMod.f
  rw [if_pos (by decide), if_pos (by decide), if_neg (by decide), e1, e2]
theorem aw4 : nat_Sub.f [1] [2] = some ([], 8) := by
  unfold nat_Sub.f
  rw [if_pos (by decide), if_pos (by decide), if_pos (by decide)]
theorem awake_ev : Ev (fun k => reckonerlaw02_awake.f k) true := by
  have p1 := Parse_ev ⟨#[49, 48, 48, 48, 48, 48, 48, 48, 48, 48, 48, 48, 48, 48, 48, 48, 48, 48, 48, 48, 48]⟩ (by decide) 100000000000000000000 (by decide +kernel)
  have p2 := Parse_ev ⟨#[51, 51, 51, 51, 51, 51, 51, 51, 51, 51, 51, 51, 51, 51, 51, 51, 51, 51, 51, 51]⟩ (by decide) 33333333333333333333 (by decide +kernel)
  have l1 : (can 100000000000000000000).length ≤ 2 := can_short (by decide) (by decide)
  have l2 : (can 33333333333333333333).length ≤ 2 := can_short (by decide) (by decide)
  have i1 := RIs_ev (can 100000000000000000000) (can_in (by decide)) (by omega) (can_val (by decide))
  have i2 := RIs_ev (v := 340282366920938463426481119284349108225) [1, 18446744073709551614] (by decide) (by decide) (by decide)
  have i3 := RIs_ev (can 33333333333333333333) (can_in (by decide)) (by omega) (can_val (by decide))
  have i4 := RIs_ev (v := 1) [1] (by decide) (by decide) (by decide)
  refine Ev.congr (f := fun k => (reckonerref02_Parse.f k (⟨#[49, 48, 48, 48, 48, 48, 48, 48, 48, 48, 48, 48, 48, 48, 48, 48, 48, 48, 48, 48, 48]⟩ : ByteArray)).bind fun t280 => ((reckonerref02_Is.f k (can 100000000000000000000) t280).bind fun t283 => (if t283 = true then ((reckonerref02_Is.f k (can 340282366920938463426481119284349108225) (([1, 18446744073709551614] : List Int))).bind fun t287 => (if t287 = true then ((reckonerref02_Parse.f k (⟨#[51, 51, 51, 51, 51, 51, 51, 51, 51, 51, 51, 51, 51, 51, 51, 51, 51, 51, 51, 51]⟩ : ByteArray)).bind fun t288 => ((reckonerref02_Is.f k (can 33333333333333333333) t288).bind fun t291 => (if t291 = true then ((reckonerref02_Is.f k (can 1) (([1] : List Int))).bind fun t295 => (if t295 = true then (some ((8 : Int) == 8)) else (none))) else (none)))) else (none))) else (none)))) (fun k => ?_) (Ev.bind p1 (Ev.bind i1 ?_))
  · show reckonerlaw02_awake.f k = _
    unfold reckonerlaw02_awake.f
    rw [aw1, aw2, aw3, aw4]
    rfl
  · simp only [if_true]
    refine Ev.bind i2 ?_
    simp only [if_true]
    refine Ev.bind p2 (Ev.bind i3 ?_)
    simp only [if_true]
    refine Ev.bind i4 ?_
    simp only [if_true]
    exact Ev.now true
end Go.Proofs.Ytkkkbalefnileaa.Ex
/- NatSums: the plain law. -/
namespace Go.Proofs.Ytkkkbalefnileaa.Ex
open Go.RowKit Go.Proofs.YtkkkbalefnileaaW.PrintWords Go.Proofs.YtkkkbalefnileaaW.PrintLast Go.Proofs.YtkkkbalefnileaaW.PrintMore Go.Proofs.Ytkkkbalefnileaa.T
set_option linter.unusedVariables false
set_option linter.unusedSimpArgs false

theorem fitV_small {v : Int} (h0 : 0 ≤ v) (n : Nat) (h : v < W64 ^ n) (hn : n ≤ 4096) : fitV v = (can v, 0) := by
  have := can_short h0 h
  unfold fitV
  rw [if_pos (by omega)]
theorem sum_small {a b : List Int} (ha : inW a) (hb : inW b) (n : Nat) (hla : a.length ≤ n) (hlb : b.length ≤ n) : valB W64 a + valB W64 b < W64 ^ (n + 1) := by
  have h1 := valB_lt W64_pos ha
  have h2 := valB_lt W64_pos hb
  have h3 := pow_mono (B := W64) (by decide) hla
  have h4 := pow_mono (B := W64) (by decide) hlb
  have h5 := pow_posB W64_pos n
  rw [Int.pow_succ]
  have h6 : W64 ^ n * 2 ≤ W64 ^ n * W64 := Int.mul_le_mul_of_nonneg_left (by decide) (Int.le_of_lt h5)
  omega
end Go.Proofs.Ytkkkbalefnileaa.Ex
/- NatProducts: the plain law. -/
namespace Go.Proofs.Ytkkkbalefnileaa.Ex
open Go.RowKit Go.Proofs.YtkkkbalefnileaaW.PrintWords Go.Proofs.YtkkkbalefnileaaW.PrintLast Go.Proofs.YtkkkbalefnileaaW.PrintMore Go.Proofs.Ytkkkbalefnileaa.T
set_option linter.unusedVariables false
set_option linter.unusedSimpArgs false

theorem mul_small {a b : List Int} (ha : inW a) (hb : inW b) (n m : Nat) (hla : a.length ≤ n) (hlb : b.length ≤ m) : valB W64 a * valB W64 b < W64 ^ (n + m) := by
  have h1 := valB_lt W64_pos ha
  have h2 := valB_lt W64_pos hb
  have h3 := pow_mono (B := W64) (by decide) hla
  have h4 := pow_mono (B := W64) (by decide) hlb
  have h5 := valB_nonneg W64_pos hb
  rw [Int.pow_add]
  exact Int.lt_of_le_of_lt (Int.mul_le_mul_of_nonneg_right (by omega : valB W64 a ≤ W64 ^ n) h5) (Int.mul_lt_mul_of_pos_left (by omega) (pow_posB W64_pos n))
theorem NMul_some {a b : List Int} (ha : inW a) (hb : inW b) (hla : a.length ≤ 1000) (hlb : b.length ≤ 1000) : nat_Mul.f a b = some (can (valB W64 a * valB W64 b), 0) := by
  unfold nat_Mul.f
  rw [if_pos ⟨ha, hb⟩, if_pos ⟨by omega, by omega⟩, fitV_small (Int.mul_nonneg (valW_nonneg ha) (valW_nonneg hb)) _ (mul_small ha hb 1000 1000 hla hlb) (by decide)]
theorem NSquare_some {a : List Int} (ha : inW a) (hla : a.length ≤ 1000) : nat_Square.f a = some (can (valB W64 a * valB W64 a), 0) := by
  unfold nat_Square.f
  rw [if_pos ha, if_pos (by omega), fitV_small (Int.mul_nonneg (valW_nonneg ha) (valW_nonneg ha)) _ (mul_small ha ha 1000 1000 hla hla) (by decide)]
end Go.Proofs.Ytkkkbalefnileaa.Ex
/- NatRing: the plain law, by the numbers' values. -/
namespace Go.Proofs.Ytkkkbalefnileaa.Ex
open Go.RowKit Go.Proofs.YtkkkbalefnileaaW.PrintWords Go.Proofs.YtkkkbalefnileaaW.PrintLast Go.Proofs.YtkkkbalefnileaaW.PrintMore Go.Proofs.Ytkkkbalefnileaa.T
set_option linter.unusedVariables false
set_option linter.unusedSimpArgs false

theorem NAdd_len {x y : List Int} (hx : inW x) (hy : inW y) (n : Nat) (h1 : x.length ≤ n) (h2 : y.length ≤ n) (hn : n ≤ 1000) : nat_Add.f x y = some (can (valB W64 x + valB W64 y), 0) ∧ (can (valB W64 x + valB W64 y)).length ≤ n + 1 := by
  have v0 : 0 ≤ valB W64 x + valB W64 y := by have := valW_nonneg hx; have := valW_nonneg hy; omega
  have hs := sum_small hx hy n h1 h2
  unfold nat_Add.f
  rw [if_pos ⟨hx, hy⟩, if_pos ⟨by omega, by omega⟩, fitV_small v0 (n + 1) hs (by omega)]
  exact ⟨rfl, can_short v0 hs⟩
theorem NMul_len {x y : List Int} (hx : inW x) (hy : inW y) (n m : Nat) (h1 : x.length ≤ n) (h2 : y.length ≤ m) (hn : n ≤ 1000) (hm : m ≤ 1000) : nat_Mul.f x y = some (can (valB W64 x * valB W64 y), 0) ∧ (can (valB W64 x * valB W64 y)).length ≤ n + m :=
  ⟨NMul_some hx hy (by omega) (by omega), can_short (Int.mul_nonneg (valW_nonneg hx) (valW_nonneg hy)) (mul_small hx hy n m h1 h2)⟩
theorem NCmp_same {x y : List Int} (hx : inW x) (hy : inW y) (h1 : x.length ≤ 1000) (h2 : y.length ≤ 1000) (h : valB W64 x = valB W64 y) : nat_Cmp.f x y = some 0 := by
  unfold nat_Cmp.f
  rw [if_pos ⟨hx, hy, by omega, by omega⟩, h]
  unfold cmpI
  rw [if_neg (Int.lt_irrefl _), if_neg (Int.lt_irrefl _)]
theorem NSum_three {x y z : List Int} (hx : inW x) (hy : inW y) (hz : inW z) (n : Nat) (h1 : x.length ≤ n) (h2 : y.length ≤ n) (h3 : z.length ≤ n) (hn : n ≤ 1000) :
    nat_Sum.f [x, y, z] = some (can (valB W64 x + valB W64 y + valB W64 z), 0) ∧ (can (valB W64 x + valB W64 y + valB W64 z)).length ≤ n + 1 := by
  have m1 : ∀ t ∈ [x, y, z], inW t := by intro t ht; simp at ht; rcases ht with rfl | rfl | rfl <;> assumption
  have m2 : ∀ t ∈ [x, y, z], t.length ≤ n := by intro t ht; simp at ht; rcases ht with rfl | rfl | rfl <;> assumption
  have hs := sumV_short n [x, y, z] m1 m2 (by simp)
  have e : sumV [x, y, z] = valB W64 x + valB W64 y + valB W64 z := by rw [sumV_cons, sumV_cons, sumV_cons, sumV_nil]; omega
  rw [e] at hs
  refine ⟨?_, hs⟩
  unfold nat_Sum.f
  rw [if_pos m1, if_pos (by simp), if_pos (fun t ht => Nat.le_trans (m2 t ht) (by omega)), e]
  unfold fitV
  rw [if_pos (by omega)]
theorem pureNatRing : reckonerlaw02_NatRing.Pure := by
  intro l0 l1 l2 _ h0 hw0 _ h1 hw1 _ h2 hw2
  have f0 := few_some l0 12 (by omega)
  have f1 := few_some l1 12 (by omega)
  have f2 := few_some l2 12 (by omega)
  rw [show ((12 : Nat) : Int) = 12 from rfl] at f0 f1 f2
  have ha := inW_take (inW_of_wf hw0) 12
  have hb := inW_take (inW_of_wf hw1) 12
  have hc := inW_take (inW_of_wf hw2) 12
  have hla : (l0.take 12).length ≤ 12 := by rw [List.length_take]; omega
  have hlb : (l1.take 12).length ≤ 12 := by rw [List.length_take]; omega
  have hlc : (l2.take 12).length ≤ 12 := by rw [List.length_take]; omega
  generalize l0.take 12 = a at *
  generalize l1.take 12 = b at *
  generalize l2.take 12 = c at *
  have va := valW_nonneg ha
  have vb := valW_nonneg hb
  have vc := valW_nonneg hc
  have h1w : inW [1] := inB_cons.2 ⟨⟨by decide, by decide⟩, inB_nil⟩
  have v1 : valB W64 [1] = 1 := by simp [valB]
  -- the sums and products
  obtain ⟨e1, k1⟩ := NAdd_len ha hb 12 hla hlb (by omega)
  obtain ⟨e2, k2⟩ := NAdd_len hb ha 12 hlb hla (by omega)
  have w1 : 0 ≤ valB W64 a + valB W64 b := by omega
  have w2 : 0 ≤ valB W64 b + valB W64 a := by omega
  obtain ⟨e3, k3⟩ := NMul_len (can_in w1) hc 13 12 k1 hlc (by omega) (by omega)
  obtain ⟨e4, k4⟩ := NMul_len ha hc 12 12 hla hlc (by omega) (by omega)
  obtain ⟨e5, k5⟩ := NMul_len hc hb 12 12 hlc hlb (by omega) (by omega)
  have w4 : 0 ≤ valB W64 a * valB W64 c := Int.mul_nonneg va vc
  have w5 : 0 ≤ valB W64 c * valB W64 b := Int.mul_nonneg vc vb
  obtain ⟨e6, k6⟩ := NAdd_len (can_in w4) (can_in w5) 24 k4 k5 (by omega)
  rw [can_val w1] at e3 k3
  rw [can_val w4, can_val w5] at e6 k6
  have w3 : 0 ≤ (valB W64 a + valB W64 b) * valB W64 c := Int.mul_nonneg w1 vc
  have w6 : 0 ≤ valB W64 a * valB W64 c + valB W64 c * valB W64 b := by omega
  have e7 := NCmp_same (can_in w1) (can_in w2) (by omega) (by omega) (by rw [can_val w1, can_val w2]; omega)
  have e8 := NCmp_same (can_in w3) (can_in w6) (by omega) (by omega) (by rw [can_val w3, can_val w6, Int.add_mul, Int.mul_comm (valB W64 c)])
  -- the square of a number and 1
  obtain ⟨e9, k9⟩ := NAdd_len ha h1w 12 hla (by simp) (by omega)
  rw [v1] at e9 k9
  have w9 : 0 ≤ valB W64 a + 1 := by omega
  have e10 := NSquare_some (can_in w9) (by omega)
  have k10 := can_short (Int.mul_nonneg (valW_nonneg (can_in w9)) (valW_nonneg (can_in w9))) (mul_small (can_in w9) (can_in w9) 13 13 k9 k9)
  rw [can_val w9] at e10 k10
  have w10 : 0 ≤ (valB W64 a + 1) * (valB W64 a + 1) := Int.mul_nonneg w9 w9
  have e11 := NSquare_some ha (by omega)
  have k11 := can_short (Int.mul_nonneg va va) (mul_small ha ha 12 12 hla hla)
  have w11 : 0 ≤ valB W64 a * valB W64 a := Int.mul_nonneg va va
  have w12 : 0 ≤ valB W64 a * 2 := by omega
  have s12 : valB W64 a * 2 < W64 ^ 13 := by
    have h3 := valB_lt W64_pos ha
    have h4 := pow_mono (B := W64) (by decide) hla
    rw [show (13 : Nat) = 12 + 1 from rfl, Int.pow_succ]
    have hp := pow_posB W64_pos 12
    have : W64 ^ 12 * 2 ≤ W64 ^ 12 * W64 := Int.mul_le_mul_of_nonneg_left (by decide) (Int.le_of_lt hp)
    generalize W64 ^ 12 = P at *
    generalize W64 ^ a.length = Q at *
    omega
  have k12 := can_short w12 s12
  have e12 : nat_Left.f a 1 = some (can (valB W64 a * 2), 0) := by
    unfold nat_Left.f
    rw [if_pos ha, if_pos (by omega), if_pos (by decide), show (2 : Int) ^ (1 : Int).toNat = 2 by decide, fitV_small w12 13 s12 (by omega)]
  obtain ⟨e13, k13⟩ := NSum_three (can_in w11) (can_in w12) h1w 26 (by omega) (by omega) (by simp) (by omega)
  rw [can_val w11, can_val w12, v1] at e13 k13
  have w13 : 0 ≤ valB W64 a * valB W64 a + valB W64 a * 2 + 1 := by omega
  have e14 := NCmp_same (can_in w10) (can_in w13) (by omega) (by omega) (by rw [can_val w10, can_val w13, Int.add_mul, Int.mul_add]; omega)
  -- a quotient and a remainder
  obtain ⟨e15, k15⟩ := NSum_three hb hc h1w 12 hlb hlc (by simp) (by omega)
  rw [v1] at e15 k15
  have w15 : 0 ≤ valB W64 b + valB W64 c + 1 := by omega
  obtain ⟨e16, k16⟩ := NMul_len ha (can_in w15) 12 13 hla k15 (by omega) (by omega)
  rw [can_val w15] at e16 k16
  have w16 : 0 ≤ valB W64 a * (valB W64 b + valB W64 c + 1) := Int.mul_nonneg va w15
  obtain ⟨e17, k17⟩ := NAdd_len (can_in w16) hb 25 k16 (by omega) (by omega)
  rw [can_val w16] at e17 k17
  have w17 : 0 ≤ valB W64 a * (valB W64 b + valB W64 c + 1) + valB W64 b := by omega
  have q : (valB W64 a * (valB W64 b + valB W64 c + 1) + valB W64 b) / (valB W64 b + valB W64 c + 1) = valB W64 a := by
    rw [Int.add_comm, Int.add_mul_ediv_right _ _ (by omega), Int.ediv_eq_zero_of_lt vb (by omega), Int.zero_add]
  have r : (valB W64 a * (valB W64 b + valB W64 c + 1) + valB W64 b) % (valB W64 b + valB W64 c + 1) = valB W64 b := by
    rw [Int.add_comm, Int.add_mul_emod_self_right, Int.emod_eq_of_lt vb (by omega)]
  have e18 : nat_DivMod.f (can (valB W64 a * (valB W64 b + valB W64 c + 1) + valB W64 b)) (can (valB W64 b + valB W64 c + 1)) = some (can (valB W64 a), can (valB W64 b), 0) := by
    unfold nat_DivMod.f
    rw [if_pos ⟨can_in w17, can_in w15⟩, if_pos ⟨by omega, by omega⟩, can_val w17, can_val w15, if_neg (by omega), q, r]
  have e19 := NCmp_same (can_in va) ha (Nat.le_trans (can_le ha) (by omega)) (by omega) (can_val va)
  have e20 := NCmp_same (can_in vb) hb (Nat.le_trans (can_le hb) (by omega)) (by omega) (can_val vb)
  refine Ev.rounds (Ev.congr (f := fun k => reckonerlaw02_NatRing.j0 k a b c false) (fun k => ?_) ?_)
  · show reckonerlaw02_NatRing.f k l0 l1 l2 = _
    unfold reckonerlaw02_NatRing.f
    rw [f0, Option.bind_some, f1, Option.bind_some, f2, Option.bind_some, e1, Option.bind_some, e2, Option.bind_some, e3, Option.bind_some, e4, Option.bind_some, e5, Option.bind_some, e6, Option.bind_some,
      if_pos rfl, if_pos rfl, if_pos rfl, if_pos rfl, if_pos rfl, if_pos rfl, e7, Option.bind_some, if_pos rfl, e8, Option.bind_some]
    rfl
  refine Ev.step (f := fun k => reckonerlaw02_NatRing.j1 k a b c false) (fun k => ?_) ?_
  · rw [reckonerlaw02_NatRing.j0, if_neg (by decide), e9, Option.bind_some, e10, Option.bind_some, e11, Option.bind_some, e12, Option.bind_some, e13, Option.bind_some,
      if_pos rfl, if_pos rfl, if_pos rfl, if_pos rfl, if_pos rfl, e14, Option.bind_some]
    rfl
  refine Ev.step (f := fun k => (reckonerlaw02_awake.f k).bind fun t => some t) (fun k => ?_) (Ev.bind awake_ev (Ev.now true))
  rw [reckonerlaw02_NatRing.j1, if_neg (by decide), e15, Option.bind_some, e16, Option.bind_some, e17, Option.bind_some, e18, Option.bind_some,
    if_pos rfl, if_pos rfl, if_pos rfl, if_pos rfl, e19, Option.bind_some, if_pos rfl, e20, Option.bind_some, if_pos rfl]
end Go.Proofs.Ytkkkbalefnileaa.Ex
/- The plain law. -/
namespace Go.Proofs.Ytkkkbalefnileaa.Pure
theorem NatRing : Go.Proofs.Ytkkkbalefnileaa.T.reckonerlaw02_NatRing.Pure := Go.Proofs.Ytkkkbalefnileaa.Ex.pureNatRing
end Go.Proofs.Ytkkkbalefnileaa.Pure
-- PRINTED BY print.sh 35421559b90ae4d0a3588c463048766b98c2df88dd9212a6774a882060cdf62d: not written by this session
-- PRINTED WORDS (module Derived/Print/Sized.lean): go-gate-2's, for the rows of laws over slices: an AI agent of Go's test side, Tue Nov 17 2026; no person has read it. Lean checks it.
namespace Go.Proofs.YtkkkbalefnileaaW.PrintWords
open Go.ChangeShapes Go.WideShapes
/-- A row's slice of whole numbers is no longer than its weight allows. -/
theorem sized_ints {H : Type} {enc : TypeId × Value → H} {P : Program} {W : World} {base : Nat} {spare : Nat → Bool} {held : Bool} {t e : TypeId} {k : IntKind} {a : Option Addr} {len cap : Nat} {d : DataW H} {ps : List MemPlace} {ts : List TypeId} {ds : List (DataW H)} {j : Nat}
    (hsz : (DataW.weightsEach P ts ds).all (· ≤ reachBytes) = true) (ht : ts[j]? = some t) (hd : ds[j]? = some d) (hu : P.underlying t = some (.slice e)) (he : P.underlying e = some (.int k)) (hc : P.cellsOf e = 1) {B : Nat} (hB : P.bytesOf e = B)
    (h : DataW.Trod enc P W base spare held t (.slice a len cap) d ps) : len * B ≤ 140737488351232 := by
  obtain ⟨fuel, hf⟩ := h
  rcases open_ints hu he hc hf with ⟨hcs, _⟩ | ⟨x, l, c, zs, hcs, _, hl, _, hz, hx, _, _⟩
  · simp [Value.cells] at hcs
    obtain ⟨rfl, rfl, rfl⟩ := hcs
    simp
  · simp [Value.cells] at hcs
    obtain ⟨rfl, rfl, rfl⟩ := hcs
    obtain ⟨hx, _⟩ := Prod.mk.inj hx
    subst hx
    have z := sized_slice hsz ht hd hu
    rw [hB] at z
    have hl2 : len ≤ zs.length := by
      rw [hz]
      split
      · exact hl
      · exact Nat.le_refl _
    have h1 : (lits (H := H) k (zs.take len)).length + (lits (H := H) k (zs.drop len)).length = zs.length := by
      simp [lits]
      omega
    rw [h1] at z
    exact Nat.le_trans (Nat.mul_le_mul_right _ hl2) z
end Go.Proofs.YtkkkbalefnileaaW.PrintWords
-- PRINTED by print.py: the row of the law reckonerlaw02_NatRing, out of its Pure (the session's) and the printed walk. Not trusted: Lean checks it.
namespace Go.Proofs.Ytkkkbalefnileaa.natRing
open Go.ChangeShapes Go.WideShapes Go.ChangeAt Go.RowKit
open Go.ChangeMaps (open_string shut_string)
set_option linter.unusedVariables false
theorem own : ownKnob Try.prog.godebug = none := by kernel_rfl
theorem laidOut : laidOutB Try.prog = true := by kernel_rfl
def IsRow (k : IntKind) (w : World) (a : Option Addr) (len cap : Nat) (zs : List Int) : Prop :=
  (a = none ∧ len = 0 ∧ cap = 0 ∧ zs = []) ∨
  ∃ x, a = some x ∧ len ≤ cap ∧ cap ≤ maxLen ∧ zs.length = cap ∧ (∀ i, i < zs.length → w.cell? (x.add i) = some (.int k (zs.getD i 0))) ∧ ∀ n ∈ zs, (Lit.int k n).wf = true
set_option maxRecDepth 100000 in
theorem lifted (os : Os) (started : os.Started) (H : Type) (enc : TypeId × Value → H) :
    ReturnsInHanded {} Try.checked os 9 .any (Rows.natRingSpec.pre6 enc Try.prog Try.f9 Rows.natRingRow.domain false) (Rows.natRingSpec.post enc Try.prog Try.f9 false true false false) := by
  refine returnsInHanded_of_change_sized (C := Try.checked) own started (by kernel_rfl) Try.func9
    (ChangeSpec.witness6 (enc := enc) (C := Try.checked) false ⟨#[], #[.slice none 0 0, .slice none 0 0, .slice none 0 0], []⟩ 8 (by kernel_rfl) (by kernel_rfl) (by kernel_rfl) (by kernel_rfl)) ?_
  intro W base args ds gs before hval0 hW hcnd hsz0 _
  have hsz : (DataW.weightsEach Try.prog (Try.f9.params.toList ++ Rows.natRingSpec.plain.varTypes Try.prog) (ds ++ gs)).all (· ≤ reachBytes) = true := hsz0
  have hval : ∀ (j : Nat) t v, Try.f9.params[j]? = some t → args[j]? = some v → Value.okWide Try.prog W .any base t v := hval0
  have hW' := hW
  obtain ⟨p, q, hA0, hV, rfl, hfz, hnd⟩ := hW
  have hA : DataW.TrodAll enc Try.prog W 0 (fun _ => true) true Try.f9.params.toList args.toList ds p := hA0
  rw [Try.params9] at hA hval hsz
  obtain ⟨v0, vs0, d0, ds0, p0, q0, hargs, rfl, rfl, h0, r0⟩ := trodAll_cons hA
  obtain ⟨v1, vs1, d1, ds1, p1, q1, rfl, rfl, rfl, h1, r1⟩ := trodAll_cons r0
  obtain ⟨v2, vs2, d2, ds2, p2, q2, rfl, rfl, rfl, h2, r2⟩ := trodAll_cons r1
  obtain ⟨rfl, rfl, rfl⟩ := trodAll_nil r2
  obtain rfl : args = #[v0, v1, v2] := by cases args; simp_all
  obtain ⟨rfl, rfl⟩ := trodVars_none hV
  obtain ⟨a0, len0, cap0, rfl⟩ := okWide_slice Try.underlying23 (hval 0 23 v0 rfl rfl)
  have k0 := h0
  have lt0 : ∀ x ∈ p0, x.block < W.heap.size := by obtain ⟨m, hm⟩ := k0; exact DataW.trod_lt m _ _ _ hm
  obtain ⟨z0, w0⟩ : ∃ zs, IsRow .u64 W a0 len0 cap0 zs := by
    obtain ⟨fuel, hf⟩ := h0
    rcases open_ints Try.underlying23 Try.underlying33 (by kernel_rfl) hf with ⟨hcs, _⟩ | ⟨x, l, c, zs, hcs, _, hl, hm, hz, _, hcell, hwz⟩
    · simp [Value.cells] at hcs
      obtain ⟨rfl, rfl, rfl⟩ := hcs
      exact ⟨[], .inl ⟨rfl, rfl, rfl, rfl⟩⟩
    · simp [Value.cells] at hcs
      obtain ⟨rfl, rfl, rfl⟩ := hcs
      exact ⟨zs, .inr ⟨_, rfl, hl, hm, by simpa using hz, hcell, hwz⟩⟩
  have y0 : len0 * 8 ≤ 140737488351232 := Go.Proofs.YtkkkbalefnileaaW.PrintWords.sized_ints hsz (j := 0) (t := 23) rfl rfl Try.underlying23 Try.underlying33 (by kernel_rfl) (by kernel_rfl) h0
  obtain ⟨a1, len1, cap1, rfl⟩ := okWide_slice Try.underlying23 (hval 1 23 v1 rfl rfl)
  have k1 := h1
  have lt1 : ∀ x ∈ p1, x.block < W.heap.size := by obtain ⟨m, hm⟩ := k1; exact DataW.trod_lt m _ _ _ hm
  obtain ⟨z1, w1⟩ : ∃ zs, IsRow .u64 W a1 len1 cap1 zs := by
    obtain ⟨fuel, hf⟩ := h1
    rcases open_ints Try.underlying23 Try.underlying33 (by kernel_rfl) hf with ⟨hcs, _⟩ | ⟨x, l, c, zs, hcs, _, hl, hm, hz, _, hcell, hwz⟩
    · simp [Value.cells] at hcs
      obtain ⟨rfl, rfl, rfl⟩ := hcs
      exact ⟨[], .inl ⟨rfl, rfl, rfl, rfl⟩⟩
    · simp [Value.cells] at hcs
      obtain ⟨rfl, rfl, rfl⟩ := hcs
      exact ⟨zs, .inr ⟨_, rfl, hl, hm, by simpa using hz, hcell, hwz⟩⟩
  have y1 : len1 * 8 ≤ 140737488351232 := Go.Proofs.YtkkkbalefnileaaW.PrintWords.sized_ints hsz (j := 1) (t := 23) rfl rfl Try.underlying23 Try.underlying33 (by kernel_rfl) (by kernel_rfl) h1
  obtain ⟨a2, len2, cap2, rfl⟩ := okWide_slice Try.underlying23 (hval 2 23 v2 rfl rfl)
  have k2 := h2
  have lt2 : ∀ x ∈ p2, x.block < W.heap.size := by obtain ⟨m, hm⟩ := k2; exact DataW.trod_lt m _ _ _ hm
  obtain ⟨z2, w2⟩ : ∃ zs, IsRow .u64 W a2 len2 cap2 zs := by
    obtain ⟨fuel, hf⟩ := h2
    rcases open_ints Try.underlying23 Try.underlying33 (by kernel_rfl) hf with ⟨hcs, _⟩ | ⟨x, l, c, zs, hcs, _, hl, hm, hz, _, hcell, hwz⟩
    · simp [Value.cells] at hcs
      obtain ⟨rfl, rfl, rfl⟩ := hcs
      exact ⟨[], .inl ⟨rfl, rfl, rfl, rfl⟩⟩
    · simp [Value.cells] at hcs
      obtain ⟨rfl, rfl, rfl⟩ := hcs
      exact ⟨zs, .inr ⟨_, rfl, hl, hm, by simpa using hz, hcell, hwz⟩⟩
  have y2 : len2 * 8 ≤ 140737488351232 := Go.Proofs.YtkkkbalefnileaaW.PrintWords.sized_ints hsz (j := 2) (t := 23) rfl rfl Try.underlying23 Try.underlying33 (by kernel_rfl) (by kernel_rfl) h2
  clear hA0 hval0 hsz0 hsz
  refine (T.reckonerlaw02_NatRing.walk Pure.NatRing a0 len0 cap0 z0 a1 len1 cap1 z1 a2 len2 cap2 z2 W w0 y0 w1 y1 w2 y2).mono fun e W' ⟨he, bel⟩ => ?_
  subst he
  exact ⟨_, rfl, _, _, _, [], _, [], hW', trodAll_mk1 (shut_bool Try.underlying4 _), (trodAll_cons_mk (Below.trod laidOut (by kernel_rfl) (of_decide_eq_true (by kernel_rfl)) k0 bel lt0) (trodAll_cons_mk (Below.trod laidOut (by kernel_rfl) (of_decide_eq_true (by kernel_rfl)) k1 bel lt1) (trodAll_cons_mk (Below.trod laidOut (by kernel_rfl) (of_decide_eq_true (by kernel_rfl)) k2 bel lt2) trodAll_mk0))), rfl, bel.frame _, fun h => by cases h⟩
theorem over : Rows.natRingRow.holds Try.pinned (OpenSpec.ofChange Rows.natRingSpec) :=
  OpenClaim.holds_of_wide 9 Try.f9 rfl rfl rfl rfl rfl rfl rfl ⟨rfl, rfl, rfl, rfl, rfl⟩ rfl rfl rfl rfl rfl (by kernel_rfl) Try.func9 (by kernel_rfl)
    (of_decide_eq_true (by kernel_rfl)) (by unfold Func.isWrapper; first | (rw [if_pos (by decide +kernel)]; kernel_rfl) | (rw [if_neg (by decide +kernel)]; exact ⟨rfl, rfl⟩))
    (fun os started H enc _ => lifted os started H enc)
theorem proved : Rows.NatRingSaid := over
#print axioms proved
end Go.Proofs.Ytkkkbalefnileaa.natRing
namespace Go.Proofs.Ytkkkbalefnileaa
/-- The row, under a short name, for the claim. -/
theorem natRing_holds : Rows.NatRingSaid := natRing.proved
end Go.Proofs.Ytkkkbalefnileaa
