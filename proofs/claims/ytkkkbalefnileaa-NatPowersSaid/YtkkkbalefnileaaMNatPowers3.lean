/- The law NatPowers: powers of any number, or the specified error, are the ones of the reference; it holds of all inputs that fit in memory. (Part 4 of 4.) -/
import Derived.Lib.BitFns
import Derived.Lib.TrailingZeros
import Derived.Shelf.Spec.TrailingZeros
import Derived.Test.YtkkkbalefnileaaRows
import Derived.WalkKit
import Derived.ProofKit
import Derived.OpenShut
import Derived.ShutString
import Derived.ChangeOld
import Derived.Below
import Derived.SizedLaws
import Derived.Test.YtkkkbalefnileaaWSized
import Derived.Test.YtkkkbalefnileaaMNatPowers2
/- The reference's functions on numbers. -/
namespace Go.Proofs.Ytkkkbalefnileaa.Ex
open Go.RowKit Go.Proofs.YtkkkbalefnileaaW.PrintWords Go.Proofs.YtkkkbalefnileaaW.PrintLast Go.Proofs.YtkkkbalefnileaaW.PrintMore Go.Proofs.Ytkkkbalefnileaa.T
set_option linter.unusedVariables false
set_option linter.unusedSimpArgs false

theorem isW_of_wf {x : Int} (h : (Lit.int .u64 x).wf = true) : isW x := by
  have h1 : 0 ≤ x ∧ x ≤ 18446744073709551615 := by
    simp [Lit.wf, IntKind.min, IntKind.max, IntKind.signed, IntKind.bits] at h
    omega
  unfold isW
  rw [W64_eq]
  omega
theorem inW_of_wf {l : List Int} (h : ∀ x ∈ l, (Lit.int .u64 x).wf = true) : inW l := fun x hx => isW_of_wf (h x hx)
theorem inW_take {l : List Int} (h : inW l) (n : Nat) : inW (l.take n) := fun x hx => h x (List.mem_of_mem_take hx)
theorem few_some (l : List Int) (n : Nat) (h : l.length ≤ 17592186044415) : reckonerlaw02_few.f l (n : Int) = some (l.take n) := by
  unfold reckonerlaw02_few.f
  rw [if_pos ⟨by omega, h⟩, Int.toNat_natCast]
/-- A row of n words whose value has n words is the value's. -/
theorem can_of_len {r : List Int} (hr : inW r) (h : r = [] ∨ W64 ^ (r.length - 1) ≤ valB W64 r) : r = can (valB W64 r) := by
  have h0 := valW_nonneg hr
  rcases h with h | h
  · rw [h]; rfl
  · have h1 := can_high h0 h
    have h2 := can_le hr
    exact valB_inj W64_pos hr (can_in h0) (by omega) (can_val h0).symm
theorem RNat_ev (d : List Int) (hd : inB H32 d) (hm : d.length ≤ 1000000) : Ev (fun k => reckonerref02_nat.f k d) (can (valB H32 d)) := by
  obtain ⟨m, hm1, hs, hv, hnz⟩ := Short_ev d (by omega)
  have hdm : inB H32 (d.take m) := inB_take hd m
  have hlm : (d.take m).length = m := by rw [List.length_take]; omega
  obtain ⟨r, t, hc, hr1, hr2, hr3, hr4⟩ := Cut_ev ((m + 1) / 2) (by omega) (d.take m) hdm (by omega)
  have hlt := valB_lt H32_pos hdm
  have h0 := valB_nonneg H32_pos hdm
  rw [hlm] at hlt
  have hp : H32 ^ m ≤ W64 ^ ((m + 1) / 2) := by rw [← H32_pow]; exact pow_leB (by omega)
  have hpp := pow_posB W64_pos ((m + 1) / 2)
  have hmod : valB H32 (d.take m) % (W64 ^ ((m + 1) / 2) * W64) = valB H32 (d.take m) := by
    refine Int.emod_eq_of_lt h0 ?_
    have h1 : W64 ^ ((m + 1) / 2) * 1 ≤ W64 ^ ((m + 1) / 2) * W64 := Int.mul_le_mul_of_nonneg_left (by decide) (Int.le_of_lt hpp)
    rw [Int.mul_one] at h1
    omega
  rw [hmod, hv] at hr4
  rw [hv] at hlt h0
  have hrl := valB_lt W64_pos hr1
  have hr0 := valB_nonneg W64_pos hr1
  rw [hr2] at hrl
  have ht : t = 0 := by
    by_cases ht : t ≤ 0
    · have := hr3.1; omega
    · have h1 : W64 ^ ((m + 1) / 2) * 1 ≤ W64 ^ ((m + 1) / 2) * t := Int.mul_le_mul_of_nonneg_left (by omega) (Int.le_of_lt hpp)
      rw [Int.mul_one] at h1
      omega
  rw [ht, Int.mul_zero, Int.add_zero] at hr4
  have hcan : r = can (valB H32 d) := by
    have h1 := can_of_len hr1 (by
      rw [hr2]
      by_cases hm0 : m = 0
      · left; rw [hm0] at hr2; exact List.eq_nil_of_length_eq_zero hr2
      · right
        rw [hr4, ← hv]
        have h2 := valB_take_succ H32 d (m - 1) (by omega)
        rw [show m - 1 + 1 = m by omega] at h2
        rw [h2]
        have h3 := valB_nonneg H32_pos (inB_take hd (m - 1))
        have h4 : 1 ≤ d.getD (m - 1) 0 := by
          have h5 := (inB_getD H32_pos hd (m - 1)).1
          rcases hnz with h | h
          · exact (hm0 h).elim
          · omega
        have h6 : H32 ^ (m - 1) * 1 ≤ H32 ^ (m - 1) * d.getD (m - 1) 0 := Int.mul_le_mul_of_nonneg_left h4 (Int.le_of_lt (pow_posB H32_pos _))
        rw [Int.mul_one] at h6
        have h7 : W64 ^ ((m + 1) / 2 - 1) ≤ H32 ^ (m - 1) := by rw [← H32_pow]; exact pow_leB (by omega)
        omega)
    rw [hr4] at h1
    exact h1
  have e : wrap64 (Int.tdiv (wrap64 (((d.take m).length : Int) + 1)) 2) = (((m + 1) / 2 : Nat) : Int) := by
    rw [hlm, show ((m : Int) + 1) = ((m + 1 : Nat) : Int) by omega, w64_nat (m + 1) (by omega)]
    exact w64_nat ((m + 1) / 2) (by omega)
  refine Ev.bind hs ?_
  simp only [e]
  refine Ev.bind hc ?_
  rw [← hcan]
  exact Ev.now _
theorem RTrim_ev (x : List Int) (hx : inW x) (hn : x.length ≤ 400000) : Ev (fun k => reckonerref02_Trim.f k x) (can (valB W64 x)) := by
  have h := RNat_ev (digitsL x) (digitsL_in hx) (by rw [digitsL_length]; omega)
  rw [digitsL_val] at h
  exact Ev.bind (Digits_ev x hx (by omega)) (Ev.bind h (Ev.now _))
theorem RCan_some {x : List Int} (h : canL x) (hn : x.length ≤ 400000) : reckonerref02_Canonical.f x = some true := by
  unfold reckonerref02_Canonical.f
  by_cases h0 : x = []
  · subst h0; rfl
  · have hp : 0 < x.length := List.length_pos_iff.2 h0
    have e : wrap64 ((x.length : Int) - 1) = ((x.length - 1 : Nat) : Int) := by rw [← w64_nat (x.length - 1) (by omega)]; congr 1; omega
    have hl : x.getD (x.length - 1) 0 ≠ 0 := by
      intro e
      have h1 := canL_low h h0
      have h2 := valB_take_succ W64 x (x.length - 1) (by omega)
      rw [List.take_of_length_le (by omega), e, Int.mul_zero, Int.add_zero] at h2
      have h3 := valB_lt W64_pos (inB_take (canL_in h) (x.length - 1))
      rw [List.length_take, Nat.min_eq_left (by omega)] at h3
      omega
    rw [if_neg (by omega), e, if_pos (by omega), if_pos (by omega), rd_nat, bne_iff_ne.2 hl]
theorem RIs_ev {v : Int} (y : List Int) (hy : inW y) (hn : y.length ≤ 400000) (h : valB W64 y = v) : Ev (fun k => reckonerref02_Is.f k (can v) y) true := by
  have hv : 0 ≤ v := by rw [← h]; exact valW_nonneg hy
  have hl := can_le hy
  rw [h] at hl
  have ht := RTrim_ev y hy hn
  rw [h] at ht
  have hs := RSame_ev (can v) (can v) (by omega)
  rw [decide_eq_true rfl] at hs
  refine Ev.congr (f := fun k => (reckonerref02_Trim.f k y).bind fun t => (reckonerref01_Same.f k (can v) t).bind fun t => some t) (fun k => ?_) (Ev.bind ht (Ev.bind hs (Ev.now true)))
  show reckonerref02_Is.f k (can v) y = _
  unfold reckonerref02_Is.f
  rw [RCan_some (can_canL hv) (by omega), Option.bind_some, if_pos rfl]
theorem RWord_ev (w : Int) (hw : isW w) : Ev (fun k => reckonerref02_FromWord.f k w) (can w) := by
  have h := RNat_ev [w % H32, w / H32] (word_in w hw) (by simp)
  rw [word_val] at h
  refine Ev.congr (f := fun k => (reckonerref02_nat.f k [w % H32, w / H32]).bind fun t => some t) (fun k => ?_) (Ev.bind h (Ev.now _))
  show reckonerref02_FromWord.f k w = _
  unfold reckonerref02_FromWord.f
  rw [Word_some w hw, Option.bind_some]
theorem RAdd_ev (x y : List Int) (hx : inW x) (hy : inW y) (hn : x.length ≤ 400000) (hm : y.length ≤ 400000) : Ev (fun k => reckonerref02_Add.f k x y) (can (valB W64 x + valB W64 y)) := by
  obtain ⟨p, hp1, hp2, hp3, hp4⟩ := Plus_ev (digitsL x) (digitsL y) (digitsL_in hx) (digitsL_in hy) (by rw [digitsL_length]; omega) (by rw [digitsL_length]; omega)
  rw [digitsL_length, digitsL_length] at hp3
  rw [digitsL_val, digitsL_val] at hp4
  have h := RNat_ev p hp2 (by omega)
  rw [hp4] at h
  exact Ev.bind (Digits_ev x hx (by omega)) (Ev.bind (Digits_ev y hy (by omega)) (Ev.bind hp1 (Ev.bind h (Ev.now _))))
theorem RMul_ev (x y : List Int) (hx : inW x) (hy : inW y) (hn : x.length ≤ 200000) (hm : y.length ≤ 200000) : Ev (fun k => reckonerref02_Mul.f k x y) (can (valB W64 x * valB W64 y)) := by
  obtain ⟨p, hp1, hp2, hp3, hp4⟩ := Times_ev (digitsL x) (digitsL y) (digitsL_in hx) (digitsL_in hy) (by rw [digitsL_length]; omega) (by rw [digitsL_length]; omega)
  rw [digitsL_length, digitsL_length] at hp3
  rw [digitsL_val, digitsL_val] at hp4
  have h := RNat_ev p hp2 (by omega)
  rw [hp4] at h
  exact Ev.bind (Digits_ev x hx (by omega)) (Ev.bind (Digits_ev y hy (by omega)) (Ev.bind hp1 (Ev.bind h (Ev.now _))))
end Go.Proofs.Ytkkkbalefnileaa.Ex
/- The reference's Parse; what every law asks beside: awake. -/
namespace Go.Proofs.Ytkkkbalefnileaa.Ex
open Go.RowKit Go.Proofs.YtkkkbalefnileaaW.PrintWords Go.Proofs.YtkkkbalefnileaaW.PrintLast Go.Proofs.YtkkkbalefnileaaW.PrintMore Go.Proofs.Ytkkkbalefnileaa.T
set_option linter.unusedVariables false
set_option linter.unusedSimpArgs false

/-- The number of the digits from place i on, behind v. -/
def pv (s : ByteArray) : Nat → Nat → Int → Int
  | _, 0, v => v
  | i, n + 1, v => pv s (i + 1) n (v * 10 + (bt s (i : Int) - 48) % 256)
theorem Parse_loop (s : ByteArray) (hs : s.size ≤ 1000) (n : Nat) : ∀ (i : Nat) (v : Int), i + n = s.size → 0 ≤ v → v < W64 ^ (i + 1) → Ev (fun k => reckonerref02_Parse.l0 k s (can v) (i : Int)) (can (pv s i n v)) := by
  induction n with
  | zero =>
    intro i v hi h0 h1
    refine Ev.now' fun k => ?_
    rw [reckonerref02_Parse.l0, if_neg (by omega)]
    rfl
  | succ n IH =>
    intro i v hi h0 h1
    have e1 : wrap64 ((i : Int) + 1) = ((i + 1 : Nat) : Int) := by rw [← w64_nat (i + 1) (by omega)]; rfl
    have hd0 : 0 ≤ (bt s (i : Int) - 48) % 256 := Int.emod_nonneg _ (by decide)
    have hd1 : (bt s (i : Int) - 48) % 256 < 256 := Int.emod_lt_of_pos _ (by decide)
    have hdw : isW ((bt s (i : Int) - 48) % 256) := by unfold isW; rw [W64_eq]; omega
    have htw : isW 10 := by decide
    have hl := can_short h0 h1
    have r1 := RWord_ev 10 htw
    have r2 := RMul_ev (can v) (can 10) (can_in h0) (can_in (by decide)) (by omega) (by decide)
    rw [can_val h0, can_val (by decide)] at r2
    have r3 := RWord_ev _ hdw
    have hp := pow_posB W64_pos (i + 1)
    have hb : v * 10 + (bt s (i : Int) - 48) % 256 < W64 ^ (i + 1 + 1) := by
      rw [Int.pow_succ _ (i + 1)]
      have h2 : W64 ^ (i + 1) * 1000 ≤ W64 ^ (i + 1) * W64 := Int.mul_le_mul_of_nonneg_left (by decide) (Int.le_of_lt hp)
      omega
    have hm0 : 0 ≤ v * 10 := by omega
    have hm1 : v * 10 < W64 ^ (i + 1 + 1) := by omega
    have hml := can_short hm0 hm1
    have hwl : (can ((bt s (i : Int) - 48) % 256)).length ≤ 1 := can_short hd0 (by rw [Int.pow_succ, Int.pow_zero, Int.one_mul]; exact hdw.2)
    have r4 := RAdd_ev (can (v * 10)) (can ((bt s (i : Int) - 48) % 256)) (can_in hm0) (can_in hd0) (by omega) (by omega)
    rw [can_val hm0, can_val hd0] at r4
    have ih := IH (i + 1) (v * 10 + (bt s (i : Int) - 48) % 256) (by omega) (by omega) hb
    refine Ev.step (f := fun k => (reckonerref02_FromWord.f k 10).bind fun t => (reckonerref02_Mul.f k (can v) t).bind fun t2 => (reckonerref02_FromWord.f k ((bt s (i : Int) - 48) % 256)).bind fun t3 => (reckonerref02_Add.f k t2 t3).bind fun t4 => reckonerref02_Parse.l0 k s t4 ((i + 1 : Nat) : Int)) (fun k => ?_) (Ev.bind r1 (Ev.bind r2 (Ev.bind r3 (Ev.bind r4 ih))))
    show reckonerref02_Parse.l0 (k + 1) s (can v) (i : Int) = _
    rw [reckonerref02_Parse.l0, if_pos (by omega)]
    simp only [if_pos (show (0 : Int) ≤ (i : Int) by omega), e1]
theorem Parse_ev (s : ByteArray) (hs : s.size ≤ 1000) (v : Int) (h : pv s 0 s.size 0 = v) : Ev (fun k => reckonerref02_Parse.f k s) (can v) := by
  have h1 := Parse_loop s hs s.size 0 0 (by omega) (Int.le_refl 0) (by decide)
  rw [h] at h1
  exact h1
theorem aw1 : nat_Pow.f [10] 20 = some (can 100000000000000000000, 0) := by
  have e : valB W64 [10] ^ (20 : Int).toNat = 100000000000000000000 := by decide
  have hl : (can 100000000000000000000).length ≤ 4096 := Nat.le_trans (can_short (n := 2) (by decide) (by decide)) (by decide)
  unfold nat_Pow.f
  rw [if_pos (by decide), if_pos (by decide), if_neg (by decide), e]
  unfold fitV
  rw [if_pos hl]
theorem aw2 : nat_Square.f [18446744073709551615] = some (can 340282366920938463426481119284349108225, 0) := by
  have e : valB W64 [18446744073709551615] * valB W64 [18446744073709551615] = 340282366920938463426481119284349108225 := by decide
  have hl : (can 340282366920938463426481119284349108225).length ≤ 4096 := Nat.le_trans (can_short (n := 2) (by decide) (by decide)) (by decide)
  unfold nat_Square.f
  rw [if_pos (by decide), if_pos (by decide), e]
  unfold fitV
  rw [if_pos hl]
theorem aw3 : nat_DivMod.f [7766279631452241920, 5] [3] = some (can 33333333333333333333, can 1, 0) := by
  have e1 : valB W64 [7766279631452241920, 5] / valB W64 [3] = 33333333333333333333 := by decide
  have e2 : valB W64 [7766279631452241920, 5] % valB W64 [3] = 1 := by decide
  unfold nat_DivMod.f
  rw [if_pos (by decide), if_pos (by decide), if_neg (by decide), e1, e2]
theorem aw4 : nat_Sub.f [1] [2] = some ([], 8) := by
  unfold nat_Sub.f
  rw [if_pos (by decide), if_pos (by decide), if_pos (by decide)]
theorem awake_ev : Ev (fun k => reckonerlaw02_awake.f k) true := by
  have p1 := Parse_ev ⟨#[49, 48, 48, 48, 48, 48, 48, 48, 48, 48, 48, 48, 48, 48, 48, 48, 48, 48, 48, 48, 48]⟩ (by decide) 100000000000000000000 (by decide +kernel)
  have p2 := Parse_ev ⟨#[51, 51, 51, 51, 51, 51, 51, 51, 51, 51, 51, 51, 51, 51, 51, 51, 51, 51, 51, 51]⟩ (by decide) 33333333333333333333 (by decide +kernel)
  have l1 : (can 100000000000000000000).length ≤ 2 := can_short (by decide) (by decide)
  have l2 : (can 33333333333333333333).length ≤ 2 := can_short (by decide) (by decide)
  have i1 := RIs_ev (can 100000000000000000000) (can_in (by decide)) (by omega) (can_val (by decide))
  have i2 := RIs_ev (v := 340282366920938463426481119284349108225) [1, 18446744073709551614] (by decide) (by decide) (by decide)
  have i3 := RIs_ev (can 33333333333333333333) (can_in (by decide)) (by omega) (can_val (by decide))
  have i4 := RIs_ev (v := 1) [1] (by decide) (by decide) (by decide)
  refine Ev.congr (f := fun k => (reckonerref02_Parse.f k (⟨#[49, 48, 48, 48, 48, 48, 48, 48, 48, 48, 48, 48, 48, 48, 48, 48, 48, 48, 48, 48, 48]⟩ : ByteArray)).bind fun t280 => ((reckonerref02_Is.f k (can 100000000000000000000) t280).bind fun t283 => (if t283 = true then ((reckonerref02_Is.f k (can 340282366920938463426481119284349108225) (([1, 18446744073709551614] : List Int))).bind fun t287 => (if t287 = true then ((reckonerref02_Parse.f k (⟨#[51, 51, 51, 51, 51, 51, 51, 51, 51, 51, 51, 51, 51, 51, 51, 51, 51, 51, 51, 51]⟩ : ByteArray)).bind fun t288 => ((reckonerref02_Is.f k (can 33333333333333333333) t288).bind fun t291 => (if t291 = true then ((reckonerref02_Is.f k (can 1) (([1] : List Int))).bind fun t295 => (if t295 = true then (some ((8 : Int) == 8)) else (none))) else (none)))) else (none))) else (none)))) (fun k => ?_) (Ev.bind p1 (Ev.bind i1 ?_))
  · show reckonerlaw02_awake.f k = _
    unfold reckonerlaw02_awake.f
    rw [aw1, aw2, aw3, aw4]
    rfl
  · simp only [if_true]
    refine Ev.bind i2 ?_
    simp only [if_true]
    refine Ev.bind p2 (Ev.bind i3 ?_)
    simp only [if_true]
    refine Ev.bind i4 ?_
    simp only [if_true]
    exact Ev.now true
end Go.Proofs.Ytkkkbalefnileaa.Ex
/- The bits of a word: what the library's OnesCount64 calculates; what is counted bit by bit. No program here. -/
namespace Go.Proofs.Ytkkkbalefnileaa.Ex
open Go Go.Lib
set_option linter.unusedVariables false

def f1 (b : Nat) : Nat := (b / 2 &&& 85) + (b &&& 85)
def f2 (b : Nat) : Nat := (b / 4 &&& 51) + (b &&& 51)
theorem popAux_add : ∀ (m n x : Nat), popAux (m + n) x = popAux m (x % 2 ^ m) + popAux n (x / 2 ^ m)
  | 0, n, x => by simp [popAux]
  | m + 1, n, x => by
    have h1 : x % 2 ^ (m + 1) % 2 = x % 2 := Nat.mod_mod_of_dvd x ⟨2 ^ m, by rw [Nat.pow_succ, Nat.mul_comm]⟩
    have h2 : x % 2 ^ (m + 1) / 2 = x / 2 % 2 ^ m := by rw [Nat.pow_succ, Nat.mul_comm, Nat.mod_mul_right_div_self]
    have h3 : x / 2 / 2 ^ m = x / 2 ^ (m + 1) := by rw [Nat.div_div_eq_div_mul, Nat.pow_succ, Nat.mul_comm]
    rw [show m + 1 + n = (m + n) + 1 by omega]
    show x % 2 + popAux (m + n) (x / 2) = (x % 2 ^ (m + 1) % 2 + popAux m (x % 2 ^ (m + 1) / 2)) + popAux n (x / 2 ^ (m + 1))
    rw [h1, h2, popAux_add m n (x / 2), h3]
    omega
end Go.Proofs.Ytkkkbalefnileaa.Ex
/- The bits of a word, one by one: what the reference counts. -/
namespace Go.Proofs.Ytkkkbalefnileaa.Ex
open Go.RowKit Go.Proofs.YtkkkbalefnileaaW.PrintWords Go.Proofs.YtkkkbalefnileaaW.PrintLast Go.Proofs.YtkkkbalefnileaaW.PrintMore Go.Proofs.Ytkkkbalefnileaa.T
set_option linter.unusedVariables false
set_option linter.unusedSimpArgs false

/-! ### bit by bit -/
theorem two_adic {k c m n : Nat} (h : 2 ^ k * (2 * m + 1) = 2 ^ c * (2 * n + 1)) : k = c := by
  rcases Nat.lt_trichotomy k c with h1 | h1 | h1
  · exfalso
    obtain ⟨d, rfl⟩ : ∃ d, c = k + 1 + d := ⟨c - k - 1, by omega⟩
    have h2 : 2 ^ (k + 1 + d) = 2 ^ k * (2 * 2 ^ d) := by rw [Nat.pow_add, Nat.pow_succ, Nat.mul_assoc]
    rw [h2, Nat.mul_assoc] at h
    have h3 := Nat.eq_of_mul_eq_mul_left (Nat.pow_pos (by decide)) h
    rw [Nat.mul_assoc] at h3
    generalize 2 ^ d * (2 * n + 1) = z at h3
    omega
  · exact h1
  · exfalso
    obtain ⟨d, rfl⟩ : ∃ d, k = c + 1 + d := ⟨k - c - 1, by omega⟩
    have h2 : 2 ^ (c + 1 + d) = 2 ^ c * (2 * 2 ^ d) := by rw [Nat.pow_add, Nat.pow_succ, Nat.mul_assoc]
    rw [h2, Nat.mul_assoc] at h
    have h3 := Nat.eq_of_mul_eq_mul_left (Nat.pow_pos (by decide)) h
    rw [Nat.mul_assoc] at h3
    generalize 2 ^ d * (2 * m + 1) = z at h3
    omega
theorem ctz_spec {x : Nat} (h0 : x ≠ 0) (h : x < 2 ^ 64) : ∃ m, x = 2 ^ Lib.ctz 64 x * (2 * m + 1) := by
  obtain ⟨m, h1, _⟩ := Lib.ctzFrom_spec 64 x (by omega) h
  refine ⟨m, ?_⟩
  unfold Lib.ctz
  rw [if_neg h0]
  exact h1
theorem ctz_unique {x k m : Nat} (h : x < 2 ^ 64) (he : x = 2 ^ k * (2 * m + 1)) : Lib.ctz 64 x = k := by
  have h0 : x ≠ 0 := by
    rw [he]
    exact Nat.ne_of_gt (Nat.mul_pos (Nat.pow_pos (by decide)) (by omega))
  obtain ⟨n, hn⟩ := ctz_spec h0 h
  rw [hn] at he
  exact two_adic he
theorem ctz_lt {y i : Nat} (h0 : y ≠ 0) (hi : i ≤ 64) (h : y < 2 ^ i) : Lib.ctz 64 y < i := by
  have h64 : y < 2 ^ 64 := Nat.lt_of_lt_of_le h (Nat.pow_le_pow_right (by decide) hi)
  obtain ⟨m, hm⟩ := ctz_spec h0 h64
  rcases Nat.lt_or_ge (Lib.ctz 64 y) i with h1 | h1
  · exact h1
  · exfalso
    have h2 : 2 ^ i ≤ 2 ^ Lib.ctz 64 y := Nat.pow_le_pow_right (by decide) h1
    have h3 : 2 ^ Lib.ctz 64 y * 1 ≤ 2 ^ Lib.ctz 64 y * (2 * m + 1) := Nat.mul_le_mul_left _ (by omega)
    omega
theorem ctz_more {y i : Nat} (hi : i < 64) (h : y < 2 ^ i) : Lib.ctz 64 (y + 2 ^ i) = min (Lib.ctz 64 y) i := by
  have hp : 2 ^ (i + 1) ≤ 2 ^ 64 := Nat.pow_le_pow_right (by decide) (by omega)
  rw [Nat.pow_succ] at hp
  have h64 : y + 2 ^ i < 2 ^ 64 := by omega
  by_cases h0 : y = 0
  · subst h0
    have h1 : Lib.ctz 64 0 = 64 := rfl
    rw [h1, Nat.min_eq_right (by omega)]
    exact ctz_unique (m := 0) h64 (by omega)
  · have hl := ctz_lt h0 (by omega) h
    obtain ⟨m, hm⟩ := ctz_spec h0 (by omega)
    rw [Nat.min_eq_left (by omega)]
    generalize Lib.ctz 64 y = c at *
    obtain ⟨d, rfl⟩ : ∃ d, i = c + 1 + d := ⟨i - c - 1, by omega⟩
    refine ctz_unique (m := m + 2 ^ d) h64 ?_
    have h2 : 2 ^ (c + 1 + d) = 2 ^ c * (2 * 2 ^ d) := by rw [Nat.pow_add, Nat.pow_succ, Nat.mul_assoc]
    rw [h2, hm, ← Nat.mul_add]
    congr 1
    omega
theorem len_more {y i : Nat} (hi : i < 64) (h : y < 2 ^ i) : Lib.bitLen (y + 2 ^ i) = i + 1 := by
  have hp : 2 ^ (i + 1) ≤ 2 ^ 64 := Nat.pow_le_pow_right (by decide) (by omega)
  rw [Nat.pow_succ] at hp
  rw [Lib.bitLen_shift i (y + 2 ^ i) (by omega) (by omega)]
  have h1 : (y + 2 ^ i) / 2 ^ i = 1 := by
    rw [Nat.add_div_right _ (Nat.pow_pos (by decide)), Nat.div_eq_of_lt h]
  rw [h1]
  rfl
theorem popAux_zero : ∀ n, Lib.popAux n 0 = 0
  | 0 => rfl
  | n + 1 => by show 0 % 2 + Lib.popAux n (0 / 2) = 0; rw [Nat.zero_div, popAux_zero n]
theorem pop_more {y i : Nat} (hi : i < 64) (h : y < 2 ^ i) : Lib.onesCount (y + 2 ^ i) = Lib.onesCount y + 1 := by
  obtain ⟨n, hn⟩ : ∃ n, 64 = i + (n + 1) := ⟨63 - i, by omega⟩
  unfold Lib.onesCount
  rw [hn, popAux_add, popAux_add i (n + 1) y]
  have h1 : (y + 2 ^ i) / 2 ^ i = 1 := by
    rw [Nat.add_div_right _ (Nat.pow_pos (by decide)), Nat.div_eq_of_lt h]
  have h2 : (y + 2 ^ i) % 2 ^ i = y % 2 ^ i := Nat.add_mod_right _ _
  rw [h1, h2, Nat.div_eq_of_lt h, popAux_zero]
  show _ + (1 % 2 + Lib.popAux n (1 / 2)) = _
  rw [show 1 / 2 = 0 by decide, popAux_zero]
theorem Count_loop (x : Nat) (hx : x < 2 ^ 64) : ∀ (m i : Nat), i + m = 64 →
    Ev (fun k => reckonerref01_Count.l0 k (x : Int) (64 - (Lib.bitLen (x % 2 ^ i) : Int)) (Lib.ctz 64 (x % 2 ^ i) : Int) (Lib.onesCount (x % 2 ^ i) : Int) (i : Int)) (64 - (Lib.bitLen x : Int), (Lib.ctz 64 x : Int), (Lib.onesCount x : Int))
  | 0, i, hi => by
    obtain rfl : i = 64 := by omega
    rw [Nat.mod_eq_of_lt hx]
    refine Ev.now' fun k => ?_
    rw [reckonerref01_Count.l0, if_neg (by decide)]
  | m + 1, i, hi => by
    have q1 : ((i : Int) < 64) := by omega
    have q2 : (0 : Int) ≤ (i : Int) := by omega
    have e1 := w64_suc i (by omega)
    have hs : shr .u64 (x : Int) (i : Int) = ((x / 2 ^ i : Nat) : Int) := by
      rw [← shr_small (rfl : shr .u64 (x : Int) (i : Int) = _) (show (i : Int) ≤ ((64 : Nat) : Int) by omega)]
      show (x : Int) / 2 ^ i = _
      simp
    have ht : Int.tmod ((x / 2 ^ i : Nat) : Int) 2 = ((x / 2 ^ i % 2 : Nat) : Int) := by rw [Int.tmod_eq_emod_of_nonneg (Int.natCast_nonneg _)]; rfl
    have hy : x % 2 ^ i < 2 ^ i := Nat.mod_lt _ (Nat.pow_pos (by decide))
    have hmod : x % 2 ^ (i + 1) = x % 2 ^ i + 2 ^ i * (x / 2 ^ i % 2) := Nat.mod_pow_succ
    have ih := Count_loop x hx m (i + 1) (by omega)
    by_cases hb : x / 2 ^ i % 2 = 1
    · rw [hb, Nat.mul_one] at hmod
      have hl := len_more (by omega) hy
      have hc := ctz_more (by omega) hy
      have hp := pop_more (by omega) hy
      have hpl : Lib.onesCount (x % 2 ^ i) ≤ 1000 := by
        have h1 : ∀ n z, Lib.popAux n z ≤ n := by
          intro n
          induction n with
          | zero => intro z; exact Nat.le_refl 0
          | succ n ih => intro z; show z % 2 + Lib.popAux n (z / 2) ≤ n + 1; have := ih (z / 2); omega
        have h2 := h1 64 (x % 2 ^ i)
        unfold Lib.onesCount
        omega
      rw [hmod, hl, hc, hp] at ih
      refine Ev.step (fun k => ?_) ih
      have f1 : wrap64 (63 - (i : Int)) = 64 - ((i + 1 : Nat) : Int) := by rw [w64_int _ (by omega) (by omega)]; omega
      have f2 : mn (Lib.ctz 64 (x % 2 ^ i) : Int) (i : Int) = ((min (Lib.ctz 64 (x % 2 ^ i)) i : Nat) : Int) := by rw [mn_eq]; omega
      have f3 : wrap64 ((Lib.onesCount (x % 2 ^ i) : Int) + 1) = ((Lib.onesCount (x % 2 ^ i) + 1 : Nat) : Int) := w64_suc _ (by omega)
      rw [reckonerref01_Count.l0, if_pos q1, if_pos q2, hs, ht, hb, if_pos (by rfl), f1, f2, f3, e1]
    · have hb0 : x / 2 ^ i % 2 = 0 := by omega
      simp only [hb0, Nat.mul_zero, Nat.add_zero] at hmod
      rw [hmod] at ih
      refine Ev.step (fun k => ?_) ih
      have n1 : ¬ (((0 : Nat) : Int) = 1) := by decide
      rw [reckonerref01_Count.l0, if_pos q1, if_pos q2, hs, ht, hb0, if_neg n1, e1]
theorem RCount_ev (x : Nat) (hx : x < 2 ^ 64) : Ev (fun k => reckonerref01_Count.f k (x : Int)) (64 - (Lib.bitLen x : Int), (Lib.ctz 64 x : Int), (Lib.onesCount x : Int)) := by
  have h := Count_loop x hx 64 0 (by omega)
  rw [Nat.pow_zero, Nat.mod_one] at h
  exact h
end Go.Proofs.Ytkkkbalefnileaa.Ex
/- The reference's length and powers of numbers. -/
namespace Go.Proofs.Ytkkkbalefnileaa.Ex
open Go.RowKit Go.Proofs.YtkkkbalefnileaaW.PrintWords Go.Proofs.YtkkkbalefnileaaW.PrintLast Go.Proofs.YtkkkbalefnileaaW.PrintMore Go.Proofs.Ytkkkbalefnileaa.T
set_option linter.unusedVariables false
set_option linter.unusedSimpArgs false

theorem RLen_loop (x : List Int) (hx : inW x) (hn : x.length ≤ 400000) (n : Nat) : n ≤ x.length → Ev (fun k => reckonerref02_Len.l0 k x ((n : Int) - 1)) (lenL (can (valB W64 (x.take n)))) := by
  induction n with
  | zero =>
    intro _
    refine Ev.now' fun k => ?_
    rw [reckonerref02_Len.l0, if_neg (by omega)]
    rfl
  | succ n ih =>
    intro h
    have e1 : (((n + 1 : Nat) : Int) - 1) = (n : Int) := by omega
    have e2 : wrap64 ((n : Int) - 1) = (n : Int) - 1 := w64_int _ (by omega) (by omega)
    have hv := valB_take_succ W64 x n (by omega)
    have hxw := isW_get hx n
    rw [e1]
    by_cases h0 : x.getD n 0 = 0
    · rw [h0, Int.mul_zero, Int.add_zero] at hv
      rw [hv]
      refine Ev.step (fun k => ?_) (ih (by omega))
      rw [reckonerref02_Len.l0, if_pos (by omega), if_pos (by omega), if_pos (by omega), rd_nat, if_pos h0, e2]
    · have hc : canL (x.take (n + 1)) := canL_of (inB_take hx _) (.inr (by
        rw [List.length_take, Nat.min_eq_left (by omega), Nat.add_sub_cancel]
        have : (x.take (n + 1)).getD n 0 = x.getD n 0 := by simp [List.getD_eq_getElem?_getD, List.getElem?_take]
        rw [this]; exact h0))
      rw [can_can hc]
      obtain ⟨X, hX⟩ := Int.eq_ofNat_of_zero_le hxw.1
      have hX2 := hxw.2
      rw [hX] at hX2 h0
      rw [W64_eq] at hX2
      have hb := bitLen_bounds 64 X (Nat.le_refl _) (by omega)
      have rc := RCount_ev X (by omega)
      have e : lenL (x.take (n + 1)) = wrap64 ((wrap64 ((wrap64 (64 * (n : Int))) + 64)) - (64 - (Lib.bitLen X : Int))) := by
        unfold lenL
        have hl : (x.take (n + 1)).length = n + 1 := by rw [List.length_take]; omega
        have hg : (x.take (n + 1)).getD n 0 = x.getD n 0 := by simp [List.getD_eq_getElem?_getD, List.getElem?_take]
        rw [hl, if_neg (by omega), Nat.add_sub_cancel, hg, hX, Int.toNat_natCast]
        rw [w64_int (64 * (n : Int)) (by omega) (by omega), w64_int (64 * (n : Int) + 64) (by omega) (by omega), w64_int (64 * (n : Int) + 64 - (64 - (Lib.bitLen X : Int))) (by omega) (by omega)]
        omega
      rw [e]
      refine Ev.step (f := fun k => (reckonerref01_Count.f k (X : Int)).bind fun bt => some (wrap64 ((wrap64 ((wrap64 (64 * (n : Int))) + 64)) - bt.1))) (fun k => ?_) (Ev.bind rc (Ev.now _))
      rw [reckonerref02_Len.l0, if_pos (by omega), if_pos (by omega), if_pos (by omega), rd_nat, hX, if_neg h0]
theorem RLen_ev (x : List Int) (hx : inW x) (hn : x.length ≤ 400000) : Ev (fun k => reckonerref02_Len.f k x) (lenL (can (valB W64 x))) := by
  have h := RLen_loop x hx hn x.length (Nat.le_refl _)
  rw [List.take_length] at h
  refine Ev.congr (fun k => ?_) h
  show reckonerref02_Len.f k x = _
  unfold reckonerref02_Len.f
  rw [w64_int _ (by omega) (by omega)]
theorem pow_split (b : Int) (e : Nat) : b ^ e = (b * b) ^ (e / 2) * b ^ (e % 2) := by
  have h : e = 2 * (e / 2) + e % 2 := by omega
  have h2 : (b * b) ^ (e / 2) = b ^ (2 * (e / 2)) := by rw [Int.pow_mul, Int.pow_succ, Int.pow_succ, Int.pow_zero, Int.one_mul]
  rw [h2, ← Int.pow_add]
  congr 1
theorem le_pow {b : Int} (h0 : 0 ≤ b) {j e : Nat} (hj : 1 ≤ j) (h : j ≤ e) : b ^ j ≤ b ^ e := by
  by_cases hb : b = 0
  · subst hb; rw [Int.zero_pow (by omega), Int.zero_pow (by omega)]; exact Int.le_refl _
  · exact pow_mono (by omega) h
theorem RPow_loop (M : Int) (hM : M < W64 ^ 1000) (e : Nat) : ∀ (b o : Int), 0 ≤ b → 0 ≤ o → e ≤ 2000000 → o ≤ M → (1 ≤ e → b ^ e ≤ M) → o * b ^ e ≤ M → Ev (fun k => reckonerref02_Pow.l0 k (can b) (e : Int) (can o)) (can (o * b ^ e)) := by
  induction e using Nat.strongRecOn with
  | ind e ih =>
    intro b o hb ho he h1 h2 h3
    by_cases h0 : e = 0
    · subst h0
      rw [Int.pow_zero, Int.mul_one]
      refine Ev.now' fun k => ?_
      rw [reckonerref02_Pow.l0, if_neg (by omega)]
    · have he1 : 1 ≤ e := by omega
      have hbe := h2 he1
      have hbM : b ≤ M := by
        have := le_pow hb (Nat.le_refl 1) he1
        rw [Int.pow_succ, Int.pow_zero, Int.one_mul] at this
        omega
      have lb : (can b).length ≤ 1000 := can_short hb (Int.lt_of_le_of_lt hbM hM)
      have lo : (can o).length ≤ 1000 := can_short ho (Int.lt_of_le_of_lt h1 hM)
      have e2 : wrap64 (Int.tdiv (e : Int) 2) = ((e / 2 : Nat) : Int) := w64_nat (e / 2) (by omega)
      have em : Int.tmod (e : Int) 2 = ((e % 2 : Nat) : Int) := by rw [Int.tmod_eq_emod_of_nonneg (by omega)]; rfl
      have rm : Ev (fun k => reckonerref02_Mul.f k (can o) (can b)) (can (o * b)) := by
        have := RMul_ev (can o) (can b) (can_in ho) (can_in hb) (by omega) (by omega)
        rw [can_val ho, can_val hb] at this
        exact this
      have rs : Ev (fun k => reckonerref02_Mul.f k (can b) (can b)) (can (b * b)) := by
        have := RMul_ev (can b) (can b) (can_in hb) (can_in hb) (by omega) (by omega)
        rw [can_val hb] at this
        exact this
      have hs := pow_split b e
      have hbb : 0 ≤ b * b := Int.mul_nonneg hb hb
      have hob : 0 ≤ o * b := Int.mul_nonneg ho hb
      have hobM : o * b ≤ M := by
        have h4 := le_pow hb (Nat.le_refl 1) he1
        rw [Int.pow_succ, Int.pow_zero, Int.one_mul] at h4
        have := Int.mul_le_mul_of_nonneg_left h4 ho
        omega
      have hsq : (b * b) ^ (e / 2) = b ^ (2 * (e / 2)) := by rw [Int.pow_mul, Int.pow_succ, Int.pow_succ, Int.pow_zero, Int.one_mul]
      have h2' : 1 ≤ e / 2 → (b * b) ^ (e / 2) ≤ M := fun h => by
        rw [hsq]
        have := le_pow hb (show 1 ≤ 2 * (e / 2) by omega) (show 2 * (e / 2) ≤ e by omega)
        omega
      have q1 : (e : Int) > 0 := by omega
      by_cases hodd : e % 2 = 1
      · have hv : o * b ^ e = (o * b) * (b * b) ^ (e / 2) := by
          rw [hs, hodd, Int.pow_succ, Int.pow_zero, Int.one_mul, Int.mul_comm ((b * b) ^ (e / 2)) b, Int.mul_assoc]
        have qm : Int.tmod (e : Int) 2 = 1 := by rw [em, hodd]; rfl
        by_cases hgt : 1 < e
        · have nx := ih (e / 2) (by omega) (b * b) (o * b) hbb hob (by omega) hobM h2' (by rw [← hv]; exact h3)
          rw [← hv] at nx
          refine Ev.step (f := fun k => (reckonerref02_Mul.f k (can o) (can b)).bind fun t201 => (if (e : Int) > 1 then ((reckonerref02_Mul.f k (can b) (can b)).bind fun t204 => (reckonerref02_Pow.l0 k t204 ((e / 2 : Nat) : Int) t201)) else (reckonerref02_Pow.l0 k (can b) ((e / 2 : Nat) : Int) t201))) (fun k => ?_) (Ev.bind rm (Ev.congr (fun k => if_pos (by omega)) (Ev.bind rs nx)))
          rw [reckonerref02_Pow.l0, if_pos q1, if_pos qm, e2]
        · obtain rfl : e = 1 := by omega
          have nx : Ev (fun k => reckonerref02_Pow.l0 k (can b) (((1 / 2 : Nat)) : Int) (can (o * b))) (can (o * b * b ^ 0)) := ih 0 (by omega) b (o * b) hb hob (by omega) hobM (fun h => by omega) (by rw [Int.pow_zero, Int.mul_one]; exact hobM)
          rw [Int.pow_zero, Int.mul_one] at nx
          rw [Int.pow_succ, Int.pow_zero, Int.one_mul]
          refine Ev.step (f := fun k => (reckonerref02_Mul.f k (can o) (can b)).bind fun t201 => (if ((1 : Nat) : Int) > 1 then ((reckonerref02_Mul.f k (can b) (can b)).bind fun t204 => (reckonerref02_Pow.l0 k t204 ((1 / 2 : Nat) : Int) t201)) else (reckonerref02_Pow.l0 k (can b) ((1 / 2 : Nat) : Int) t201))) (fun k => ?_) (Ev.bind rm (Ev.congr (fun k => if_neg (by decide)) nx))
          rw [reckonerref02_Pow.l0, if_pos q1, if_pos qm, e2]
      · have hev : e % 2 = 0 := by omega
        have hv : o * b ^ e = o * (b * b) ^ (e / 2) := by rw [hs, hev, Int.pow_zero, Int.mul_one]
        have qm : ¬ Int.tmod (e : Int) 2 = 1 := by rw [em, hev]; decide
        have nx := ih (e / 2) (by omega) (b * b) o hbb ho (by omega) h1 h2' (by rw [← hv]; exact h3)
        rw [← hv] at nx
        refine Ev.step (f := fun k => (reckonerref02_Mul.f k (can b) (can b)).bind fun t207 => (reckonerref02_Pow.l0 k t207 ((e / 2 : Nat) : Int) (can o))) (fun k => ?_) (Ev.bind rs nx)
        rw [reckonerref02_Pow.l0, if_pos q1, if_neg qm, if_pos (by omega), e2]
theorem RPow_ev (x : List Int) (e : Nat) (hx : inW x) (hn : x.length ≤ 1000) (he : e ≤ 2000000) (M : Int) (hM : M < W64 ^ 1000) (h1 : 1 ≤ M) (h2 : 1 ≤ e → valB W64 x ^ e ≤ M) : Ev (fun k => reckonerref02_Pow.f k x (e : Int)) (can (valB W64 x ^ e)) := by
  have hv := valW_nonneg hx
  have hl := RPow_loop M hM e (valB W64 x) 1 hv (by decide) he h1 h2 (by
    rw [Int.one_mul]
    by_cases h0 : e = 0
    · rw [h0, Int.pow_zero]; exact h1
    · exact h2 (by omega))
  rw [Int.one_mul] at hl
  exact Ev.bind (RWord_ev 1 (by decide)) (Ev.bind (RTrim_ev x hx (by omega)) hl)
end Go.Proofs.Ytkkkbalefnileaa.Ex
/- NatPowers: the plain law. -/
namespace Go.Proofs.Ytkkkbalefnileaa.Ex
open Go.RowKit Go.Proofs.YtkkkbalefnileaaW.PrintWords Go.Proofs.YtkkkbalefnileaaW.PrintLast Go.Proofs.YtkkkbalefnileaaW.PrintMore Go.Proofs.Ytkkkbalefnileaa.T
set_option linter.unusedVariables false
set_option linter.unusedSimpArgs false

/-- How long a number is, and what its powers are then. -/
theorem len_cases {a : List Int} (ha : inW a) (hl : a.length ≤ 6) : 0 ≤ lenL (can (valB W64 a)) ∧ lenL (can (valB W64 a)) ≤ 384 ∧
    (lenL (can (valB W64 a)) ≤ 1 → valB W64 a = 0 ∨ valB W64 a = 1) ∧ (1 < lenL (can (valB W64 a)) → 2 ^ (lenL (can (valB W64 a)) - 1).toNat ≤ valB W64 a ∧ valB W64 a < 2 ^ (lenL (can (valB W64 a))).toNat) := by
  have hv := valW_nonneg ha
  by_cases h0 : valB W64 a = 0
  · rw [h0, can_zero]
    exact ⟨by decide, by decide, fun _ => .inl rfl, fun h => absurd h (by decide)⟩
  · have hn : can (valB W64 a) ≠ [] := fun e => h0 ((can_nil_iff hv).1 e)
    obtain ⟨q1, q2, q3, q4, q5⟩ := lenL_bounds (can_canL hv) hn
    rw [can_val hv] at q4 q5
    have := can_le ha
    refine ⟨by omega, by omega, fun h => ?_, fun _ => ⟨q4, q5⟩⟩
    right
    have h1 : lenL (can (valB W64 a)) = 1 := by omega
    rw [h1] at q5
    have : (2 : Int) ^ (1 : Int).toNat = 2 := by decide
    omega
theorem Powers_j1 (x1 : Int) (a : List Int) (r : Int) (ha : inW a) (hl : a.length ≤ 6) (K : Int) (R : Int)
    (hK : wrap64 (Int.tmod (IntKind.u64.wrap x1) 40) = K) (hR : wrap64 (r + 1) = R)
    (nx : Ev (fun k => reckonerlaw02_NatPowers.l0 k K a R) true) (p : List Int) (e : Int) (hp : nat_Pow.f a x1 = some (p, e)) :
    Ev (fun k => reckonerlaw02_NatPowers.j1 k x1 a r p e (decide (x1 < 0 ∨ x1 > 1000000))) true := by
  unfold nat_Pow.f at hp
  rw [if_pos ha, if_pos (by omega)] at hp
  by_cases hc : x1 < 0 ∨ 1000000 < x1
  · rw [if_pos hc] at hp
    cases hp
    rw [decide_eq_true (show x1 < 0 ∨ x1 > 1000000 from hc)]
    refine Ev.step (fun k => ?_) nx
    rw [reckonerlaw02_NatPowers.j1, if_pos rfl, if_pos rfl, if_pos (by rfl), hK, hR]
  · rw [if_neg hc] at hp
    rw [decide_eq_false (show ¬ (x1 < 0 ∨ x1 > 1000000) from hc)]
    obtain ⟨n, rfl⟩ := Int.eq_ofNat_of_zero_le (show 0 ≤ x1 by omega)
    rw [Int.toNat_natCast] at hp
    have hv := valW_nonneg ha
    obtain ⟨g1, g2, g3, g4⟩ := len_cases ha hl
    have rl := RLen_ev a ha (by omega)
    generalize lenL (can (valB W64 a)) = L at *
    have hvn : 0 ≤ valB W64 a ^ n := Int.pow_nonneg hv
    have hs1 : wrap64 (L - 1) = L - 1 := w64_int _ (by omega) (by omega)
    by_cases hL1 : L ≤ 1
    · -- 0 or 1
      have h01 := g3 hL1
      have hpow : valB W64 a ^ n = valB W64 a ^ (min n 1) ∧ valB W64 a ^ n ≤ 1 := by
        rcases h01 with h | h
        · rw [h]
          cases n with
          | zero => simp
          | succ m => rw [Int.zero_pow (by omega), show min (m + 1) 1 = 1 by omega]; simp
        · rw [h, Int.one_pow, Int.one_pow]; simp
      have hsm : (can (valB W64 a ^ n)).length ≤ 1 := can_short hvn (Int.lt_of_le_of_lt hpow.2 (by decide))
      unfold fitV at hp
      rw [if_pos (by omega)] at hp
      cases hp
      have rp := RPow_ev a (min n 1) ha (by omega) (by omega) 1 (Int.lt_of_lt_of_le (show (1 : Int) < W64 ^ 1 by decide) (pow_mono (by decide) (by decide))) (by decide) (fun _ => by rw [← hpow.1]; exact hpow.2)
      rw [← hpow.1] at rp
      have emn : mn (n : Int) 1 = ((min n 1 : Nat) : Int) := by rw [mn_eq]; omega
      have ri := RIs_ev (can (valB W64 a ^ n)) (can_in hvn) (by omega) (can_val hvn)
      refine Ev.step (f := fun k => (reckonerref02_Len.f k a).bind fun t304 => (if t304 ≤ 1 then ((reckonerref02_Pow.f k a ((min n 1 : Nat) : Int)).bind fun t305 => ((reckonerref02_Is.f k (can (valB W64 a ^ n)) t305).bind fun t308 => (if t308 = true then (reckonerlaw02_NatPowers.l0 k K a R) else (none)))) else ((reckonerref02_Len.f k a).bind fun t309 => (if (wrap64 ((wrap64 (t309 - 1)) * (n : Int))) ≥ 262144 then (if (0 : Int) = 2 then (if ((can (valB W64 a ^ n)).length : Int) = 0 then (reckonerlaw02_NatPowers.l0 k K a R) else (none)) else (none)) else ((reckonerref02_Len.f k a).bind fun t310 => (if (wrap64 (t310 * (n : Int))) ≤ 5000 then ((reckonerref02_Pow.f k a (n : Int)).bind fun t311 => ((reckonerref02_Is.f k (can (valB W64 a ^ n)) t311).bind fun t314 => (if t314 = true then (reckonerlaw02_NatPowers.l0 k K a R) else (none)))) else (reckonerlaw02_NatPowers.l0 k K a R))))))) (fun k => ?_) (Ev.bind rl (Ev.congr (fun k => if_pos hL1) (Ev.bind rp (Ev.bind ri (Ev.congr (fun k => if_pos rfl) nx)))))
      rw [reckonerlaw02_NatPowers.j1, if_neg (by decide), hK, hR, emn]
      rfl
    · obtain ⟨b1, b2⟩ := g4 (by omega)
      have hm0 : 0 ≤ (L - 1) * (n : Int) := Int.mul_nonneg (by omega) (by omega)
      have hm1 : (L - 1) * (n : Int) ≤ 383 * 1000000 := Int.mul_le_mul (by omega) (by omega) (by omega) (by decide)
      have hm2 : 0 ≤ L * (n : Int) := Int.mul_nonneg (by omega) (by omega)
      have hm3 : L * (n : Int) ≤ 384 * 1000000 := Int.mul_le_mul (by omega) (by omega) (by omega) (by decide)
      have hw1 : wrap64 ((L - 1) * (n : Int)) = (L - 1) * (n : Int) := w64_int _ (by omega) (by omega)
      have hw2 : wrap64 (L * (n : Int)) = L * (n : Int) := w64_int _ (by omega) (by omega)
      have main : ∀ (p : List Int) (e : Int), Ev (fun k => (if (wrap64 ((wrap64 (L - 1)) * (n : Int))) ≥ 262144 then (if e = 2 then (if (p.length : Int) = 0 then (reckonerlaw02_NatPowers.l0 k K a R) else (none)) else (none)) else ((reckonerref02_Len.f k a).bind fun t310 => (if (wrap64 (t310 * (n : Int))) ≤ 5000 then (if e = 0 then ((reckonerref02_Pow.f k a (n : Int)).bind fun t311 => ((reckonerref02_Is.f k p t311).bind fun t314 => (if t314 = true then (reckonerlaw02_NatPowers.l0 k K a R) else (none)))) else none) else (reckonerlaw02_NatPowers.l0 k K a R))))) true → Ev (fun k => reckonerlaw02_NatPowers.j1 k (n : Int) a r p e false) true := by
        intro p e h
        refine Ev.step (f := fun k => (reckonerref02_Len.f k a).bind fun t304 => (if t304 ≤ 1 then (if e = 0 then ((reckonerref02_Pow.f k a (mn (n : Int) 1)).bind fun t305 => ((reckonerref02_Is.f k p t305).bind fun t308 => (if t308 = true then (reckonerlaw02_NatPowers.l0 k K a R) else (none)))) else none) else ((reckonerref02_Len.f k a).bind fun t309 => (if (wrap64 ((wrap64 (t309 - 1)) * (n : Int))) ≥ 262144 then (if e = 2 then (if (p.length : Int) = 0 then (reckonerlaw02_NatPowers.l0 k K a R) else (none)) else (none)) else ((reckonerref02_Len.f k a).bind fun t310 => (if (wrap64 (t310 * (n : Int))) ≤ 5000 then (if e = 0 then ((reckonerref02_Pow.f k a (n : Int)).bind fun t311 => ((reckonerref02_Is.f k p t311).bind fun t314 => (if t314 = true then (reckonerlaw02_NatPowers.l0 k K a R) else (none)))) else none) else (reckonerlaw02_NatPowers.l0 k K a R))))))) (fun k => ?_) (Ev.bind rl (Ev.congr (fun k => if_neg hL1) (Ev.bind rl h)))
        rw [reckonerlaw02_NatPowers.j1, if_neg (by decide), hK, hR]
      refine main p e ?_
      by_cases hbig : 262144 ≤ (L - 1) * (n : Int)
      · have hlong := can_high hvn (pow_early (by omega) b1 hbig)
        unfold fitV at hp
        rw [if_neg (by omega)] at hp
        cases hp
        refine Ev.congr (fun k => ?_) nx
        rw [hs1, hw1]
        exact (if_pos hbig).trans ((if_pos rfl).trans (if_pos rfl))
      · have hng : ∀ k : Nat, ¬ (wrap64 ((wrap64 (L - 1)) * (n : Int))) ≥ 262144 := fun _ => by rw [hs1, hw1]; exact hbig
        refine Ev.congr (fun k => if_neg (hng k)) (Ev.bind rl ?_)
        by_cases h5 : L * (n : Int) ≤ 5000
        · have hlt : valB W64 a ^ n ≤ 2 ^ (L * (n : Int)).toNat := by
            have h6 := pow_base hv (Int.le_of_lt b2) n
            have h7 : ((2 : Int) ^ L.toNat) ^ n = 2 ^ (L * (n : Int)).toNat := by
              rw [← Int.pow_mul]
              congr 1
              obtain ⟨m, hm⟩ := Int.eq_ofNat_of_zero_le (show 0 ≤ L by omega)
              rw [hm, Int.toNat_natCast, ← Int.natCast_mul, Int.toNat_natCast]
            rw [h7] at h6
            exact h6
          have hM : (2 : Int) ^ (L * (n : Int)).toNat < W64 ^ 1000 := by
            rw [pow2_W]
            exact Int.lt_of_lt_of_le (show (2 : Int) ^ (L * (n : Int)).toNat < 2 ^ ((L * (n : Int)).toNat + 1) by
              have := pow_posB (B := 2) (by decide) (L * (n : Int)).toNat
              rw [Int.pow_succ]; omega) (pow_mono (by decide) (by omega))
          have rp := RPow_ev a n ha (by omega) (by omega) _ hM (by have := pow_posB (B := 2) (by decide) (L * (n : Int)).toNat; omega) (fun _ => hlt)
          have hsm : (can (valB W64 a ^ n)).length ≤ 1000 := can_short hvn (Int.lt_of_le_of_lt hlt hM)
          unfold fitV at hp
          rw [if_pos (by omega)] at hp
          cases hp
          have ri := RIs_ev (can (valB W64 a ^ n)) (can_in hvn) (by omega) (can_val hvn)
          have h5' : wrap64 (L * (n : Int)) ≤ 5000 := by rw [hw2]; exact h5
          exact Ev.congr (fun k => (if_pos h5').trans (if_pos rfl)) (Ev.bind rp (Ev.bind ri (Ev.congr (fun k => if_pos rfl) nx)))
        · have h5' : ¬ wrap64 (L * (n : Int)) ≤ 5000 := by rw [hw2]; exact h5
          exact Ev.congr (fun k => if_neg h5') nx
theorem Powers_loop (a : List Int) (ha : inW a) (hl : a.length ≤ 6) (m : Nat) : ∀ (r : Nat), r + m = 2 → ∀ x1 : Int, Ev (fun k => reckonerlaw02_NatPowers.l0 k x1 a (r : Int)) true := by
  induction m with
  | zero =>
    intro r hr x1
    refine Ev.step (f := fun k => (reckonerlaw02_awake.f k).bind fun t => some t) (fun k => ?_) (Ev.bind awake_ev (Ev.now true))
    rw [reckonerlaw02_NatPowers.l0, if_neg (by omega)]
  | succ m ih =>
    intro r hr x1
    have e1 : wrap64 ((r : Int) + 1) = ((r + 1 : Nat) : Int) := w64_suc r (by omega)
    obtain ⟨p, e, hp⟩ : ∃ p e, nat_Pow.f a x1 = some (p, e) := by
      unfold nat_Pow.f
      rw [if_pos ha, if_pos (by omega)]
      by_cases hc : x1 < 0 ∨ 1000000 < x1
      · rw [if_pos hc]; exact ⟨_, _, rfl⟩
      · rw [if_neg hc]; exact ⟨_, _, rfl⟩
    have hj := Powers_j1 x1 a (r : Int) ha hl _ _ rfl e1 (ih (r + 1) (by omega) _) p e hp
    by_cases hneg : x1 < 0
    · rw [decide_eq_true (Or.inl hneg)] at hj
      refine Ev.step (fun k => ?_) hj
      rw [reckonerlaw02_NatPowers.l0, if_pos (by omega), hp, Option.bind_some, if_pos hneg]
    · have e2 : decide (x1 < 0 ∨ x1 > 1000000) = decide (x1 > 1000000) := by simp [hneg]
      rw [e2] at hj
      refine Ev.step (fun k => ?_) hj
      rw [reckonerlaw02_NatPowers.l0, if_pos (by omega), hp, Option.bind_some, if_neg hneg]
theorem pureNatPowers : reckonerlaw02_NatPowers.Pure := by
  intro l0 a1 _ h0 hw0 _
  have f0 := few_some l0 6 (by omega)
  have ha := inW_take (inW_of_wf hw0) 6
  have hla : (l0.take 6).length ≤ 6 := by rw [List.length_take]; omega
  have h := Powers_loop (l0.take 6) ha hla 2 0 (by omega) a1
  refine Ev.rounds (Ev.congr (fun k => ?_) h)
  show reckonerlaw02_NatPowers.f k l0 a1 = _
  unfold reckonerlaw02_NatPowers.f
  have e6 : ((6 : Nat) : Int) = 6 := rfl
  rw [e6] at f0
  rw [f0, Option.bind_some]
  rfl
end Go.Proofs.Ytkkkbalefnileaa.Ex
/- The plain law. -/
namespace Go.Proofs.Ytkkkbalefnileaa.Pure
theorem NatPowers : Go.Proofs.Ytkkkbalefnileaa.T.reckonerlaw02_NatPowers.Pure := Go.Proofs.Ytkkkbalefnileaa.Ex.pureNatPowers
end Go.Proofs.Ytkkkbalefnileaa.Pure
-- PRINTED by print.py: the row of the law reckonerlaw02_NatPowers, out of its Pure (the session's) and the printed walk. Not trusted: Lean checks it.
namespace Go.Proofs.Ytkkkbalefnileaa.natPowers
open Go.ChangeShapes Go.WideShapes Go.ChangeAt Go.RowKit
open Go.ChangeMaps (open_string shut_string)
set_option linter.unusedVariables false
theorem own : ownKnob Try.prog.godebug = none := by kernel_rfl
theorem laidOut : laidOutB Try.prog = true := by kernel_rfl
def IsRow (k : IntKind) (w : World) (a : Option Addr) (len cap : Nat) (zs : List Int) : Prop :=
  (a = none ∧ len = 0 ∧ cap = 0 ∧ zs = []) ∨
  ∃ x, a = some x ∧ len ≤ cap ∧ cap ≤ maxLen ∧ zs.length = cap ∧ (∀ i, i < zs.length → w.cell? (x.add i) = some (.int k (zs.getD i 0))) ∧ ∀ n ∈ zs, (Lit.int k n).wf = true
set_option maxRecDepth 100000 in
theorem lifted (os : Os) (started : os.Started) (H : Type) (enc : TypeId × Value → H) :
    ReturnsInHanded {} Try.checked os 3 .any (Rows.natPowersSpec.pre6 enc Try.prog Try.f3 Rows.natPowersRow.domain false) (Rows.natPowersSpec.post enc Try.prog Try.f3 false true false false) := by
  refine returnsInHanded_of_change_sized (C := Try.checked) own started (by kernel_rfl) Try.func3
    (ChangeSpec.witness6 (enc := enc) (C := Try.checked) false ⟨#[], #[.slice none 0 0, .int .i64 0], []⟩ 8 (by kernel_rfl) (by kernel_rfl) (by kernel_rfl) (by kernel_rfl)) ?_
  intro W base args ds gs before hval0 hW hcnd hsz0 _
  have hsz : (DataW.weightsEach Try.prog (Try.f3.params.toList ++ Rows.natPowersSpec.plain.varTypes Try.prog) (ds ++ gs)).all (· ≤ reachBytes) = true := hsz0
  have hval : ∀ (j : Nat) t v, Try.f3.params[j]? = some t → args[j]? = some v → Value.okWide Try.prog W .any base t v := hval0
  have hW' := hW
  obtain ⟨p, q, hA0, hV, rfl, hfz, hnd⟩ := hW
  have hA : DataW.TrodAll enc Try.prog W 0 (fun _ => true) true Try.f3.params.toList args.toList ds p := hA0
  rw [Try.params3] at hA hval hsz
  obtain ⟨v0, vs0, d0, ds0, p0, q0, hargs, rfl, rfl, h0, r0⟩ := trodAll_cons hA
  obtain ⟨v1, vs1, d1, ds1, p1, q1, rfl, rfl, rfl, h1, r1⟩ := trodAll_cons r0
  obtain ⟨rfl, rfl, rfl⟩ := trodAll_nil r1
  obtain rfl : args = #[v0, v1] := by cases args; simp_all
  obtain ⟨rfl, rfl⟩ := trodVars_none hV
  obtain ⟨a0, len0, cap0, rfl⟩ := okWide_slice Try.underlying23 (hval 0 23 v0 rfl rfl)
  have k0 := h0
  have lt0 : ∀ x ∈ p0, x.block < W.heap.size := by obtain ⟨m, hm⟩ := k0; exact DataW.trod_lt m _ _ _ hm
  obtain ⟨z0, w0⟩ : ∃ zs, IsRow .u64 W a0 len0 cap0 zs := by
    obtain ⟨fuel, hf⟩ := h0
    rcases open_ints Try.underlying23 Try.underlying33 (by kernel_rfl) hf with ⟨hcs, _⟩ | ⟨x, l, c, zs, hcs, _, hl, hm, hz, _, hcell, hwz⟩
    · simp [Value.cells] at hcs
      obtain ⟨rfl, rfl, rfl⟩ := hcs
      exact ⟨[], .inl ⟨rfl, rfl, rfl, rfl⟩⟩
    · simp [Value.cells] at hcs
      obtain ⟨rfl, rfl, rfl⟩ := hcs
      exact ⟨zs, .inr ⟨_, rfl, hl, hm, by simpa using hz, hcell, hwz⟩⟩
  have y0 : len0 * 8 ≤ 140737488351232 := Go.Proofs.YtkkkbalefnileaaW.PrintWords.sized_ints hsz (j := 0) (t := 23) rfl rfl Try.underlying23 Try.underlying33 (by kernel_rfl) (by kernel_rfl) h0
  obtain ⟨a1, rfl, rfl, rfl, w1⟩ := open_int Try.underlying3 (hval 1 3 v1 rfl rfl) h1
  clear hA0 hval0 hsz0 hsz
  refine (T.reckonerlaw02_NatPowers.walk Pure.NatPowers a0 len0 cap0 z0 a1 W w0 y0 w1).mono fun e W' ⟨he, bel⟩ => ?_
  subst he
  exact ⟨_, rfl, _, _, _, [], _, [], hW', trodAll_mk1 (shut_bool Try.underlying4 _), (trodAll_cons_mk (Below.trod laidOut (by kernel_rfl) (of_decide_eq_true (by kernel_rfl)) k0 bel lt0) (trodAll_cons_mk (shut_int Try.underlying3 w1) trodAll_mk0)), rfl, bel.frame _, fun h => by cases h⟩
theorem over : Rows.natPowersRow.holds Try.pinned (OpenSpec.ofChange Rows.natPowersSpec) :=
  OpenClaim.holds_of_wide 3 Try.f3 rfl rfl rfl rfl rfl rfl rfl ⟨rfl, rfl, rfl, rfl, rfl⟩ rfl rfl rfl rfl rfl (by kernel_rfl) Try.func3 (by kernel_rfl)
    (of_decide_eq_true (by kernel_rfl)) (by unfold Func.isWrapper; first | (rw [if_pos (by decide +kernel)]; kernel_rfl) | (rw [if_neg (by decide +kernel)]; exact ⟨rfl, rfl⟩))
    (fun os started H enc _ => lifted os started H enc)
theorem proved : Rows.NatPowersSaid := over
#print axioms proved
end Go.Proofs.Ytkkkbalefnileaa.natPowers
namespace Go.Proofs.Ytkkkbalefnileaa
/-- The row, under a short name, for the claim. -/
theorem natPowers_holds : Rows.NatPowersSaid := natPowers.proved
end Go.Proofs.Ytkkkbalefnileaa
