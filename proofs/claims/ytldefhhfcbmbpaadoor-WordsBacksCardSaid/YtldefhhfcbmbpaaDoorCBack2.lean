/- WordsBacks, for every input: Sub takes away what Add adds, SubMul what AddMul adds, DivWord takes apart what MulWord makes, Left and then Right gives the row less what was shifted out; Negate is Sub from 0. (Part 3 of 3.) -/
import Derived.WideKeyPair
import Derived.Test.YtldefhhfcbmbpaaDoorRows
import Derived.Test.YtldefhhfcbmbpaaDoorTie
import Derived.Test.YtldefhhfcbmbpaaDoorCards
import Derived.Deep.DeepHandedRow
import Derived.Lib.LaidTab
import Derived.SevenTiedAt
import Derived.LaidLaws
import Derived.WalkKit
import Derived.ProofKit
import Derived.OpenShut
import Derived.ShutString
import Derived.ChangeOld
import Derived.Below
import Derived.SizedLaws
import Derived.Test.YtldefhhfcbmbpaaDoorWSized
import Derived.Test.YtldefhhfcbmbpaaDoorCBack1
/- What the reference's functions on digits hand back (printed in Tx1, Tx2). -/
namespace Go.Proofs.YtldefhhfcbmbpaaDoor.Ex
open Go.RowKit Go.Proofs.YtldefhhfcbmbpaaDoorW.PrintWords Go.Proofs.YtldefhhfcbmbpaaDoorW.PrintLast Go.Proofs.YtldefhhfcbmbpaaDoorW.PrintMore Go.Proofs.YtldefhhfcbmbpaaDoor.T
set_option linter.unusedVariables false
set_option linter.unusedSimpArgs false

/-- The base of the reference's digits. -/
def H32 : Int := 4294967296
theorem rd_nat (l : List Int) (i : Nat) : rd l (i : Int) = l.getD i 0 := by simp [rd]
theorem w64_nat (n : Nat) (h : n < 4611686018427387904) : wrap64 (n : Int) = (n : Int) := by unfold wrap64; omega
theorem w64_int (n : Int) (h0 : -4611686018427387904 ≤ n) (h : n < 4611686018427387904) : wrap64 n = n := by unfold wrap64; omega
theorem wrapW (q : Int) (h0 : 0 ≤ q) (h1 : q < 18446744073709551616) : IntKind.u64.wrap q = q := Int.emod_eq_of_lt h0 h1
theorem Ev.now' {α : Type} {g : Nat → Option α} {r : α} (h : ∀ k, g (k + 1) = some r) : Ev g r := Ev.step h (Ev.now r)
/-! ### digits -/
/-! ### a row of digits -/
/-! ### a digit, 0 beyond the end -/
/-! ### sums -/
/-! ### differences -/
/-! ### two rows the same -/
theorem Same_loop (a b : List Int) (hl : a.length = b.length) (hn : a.length ≤ 1000000) : ∀ n i, i + n = a.length → a.take i = b.take i → Ev (fun k => reckonerref01_Same.l0 k a b (i : Int)) (decide (a = b))
  | 0, i, h, ht => by
    refine Ev.now' fun k => ?_
    rw [List.take_of_length_le (by omega), List.take_of_length_le (by omega)] at ht
    rw [reckonerref01_Same.l0, if_neg (by omega), decide_eq_true ht]
  | n + 1, i, h, ht => by
    have e1 : wrap64 ((i : Int) + 1) = ((i + 1 : Nat) : Int) := by rw [← w64_nat (i + 1) (by omega)]; rfl
    have hi : i < a.length := by omega
    have hi' : i < b.length := by omega
    have ga : a.getD i 0 = a[i] := by simp [List.getD_eq_getElem?_getD, List.getElem?_eq_getElem hi]
    have gb : b.getD i 0 = b[i] := by simp [List.getD_eq_getElem?_getD, List.getElem?_eq_getElem hi']
    by_cases hs : a[i] = b[i]
    · refine Ev.step (fun k => ?_) (Same_loop a b hl hn n (i + 1) (by omega) ?_)
      · rw [reckonerref01_Same.l0, if_pos (by omega), if_pos (by omega), if_pos (by omega), rd_nat, rd_nat, ga, gb, if_pos hs, e1]
      · rw [List.take_succ_eq_append_getElem hi, List.take_succ_eq_append_getElem hi', ht, hs]
    · refine Ev.now' fun k => ?_
      rw [reckonerref01_Same.l0, if_pos (by omega), if_pos (by omega), if_pos (by omega), rd_nat, rd_nat, ga, gb, if_neg hs]
      rw [decide_eq_false]
      rintro rfl
      exact hs rfl
theorem same_ev (a b : List Int) (hn : a.length ≤ 1000000) : Ev (fun k => reckonerlaw01_same.f k a b) (decide (a = b)) := by
  have h : Ev (fun k => reckonerref01_Same.f k a b) (decide (a = b)) := by
    by_cases hl : a.length = b.length
    · refine Ev.congr (fun k => ?_) (Same_loop a b hl hn a.length 0 (by omega) rfl)
      show reckonerref01_Same.f k a b = _
      unfold reckonerref01_Same.f
      rw [if_pos (by omega)]
      rfl
    · refine Ev.congr (f := fun _ => some (decide (a = b))) (fun k => ?_) (Ev.now _)
      show reckonerref01_Same.f k a b = _
      unfold reckonerref01_Same.f
      rw [if_neg (by omega), decide_eq_false (fun e => hl (by rw [e]))]
  exact Ev.bind h (Ev.now _)
theorem same_true {a b : List Int} (h : a = b) (hn : a.length ≤ 1000000) : Ev (fun k => reckonerlaw01_same.f k a b) true := by
  have h1 := same_ev a b hn
  rw [decide_eq_true h] at h1
  exact h1
end Go.Proofs.YtldefhhfcbmbpaaDoor.Ex
/- The reference's Cut, Add, Sub (printed in Tx1, Tx2), and the row functions' results in values. -/
namespace Go.Proofs.YtldefhhfcbmbpaaDoor.Ex
open Go.RowKit Go.Proofs.YtldefhhfcbmbpaaDoorW.PrintWords Go.Proofs.YtldefhhfcbmbpaaDoorW.PrintLast Go.Proofs.YtldefhhfcbmbpaaDoorW.PrintMore Go.Proofs.YtldefhhfcbmbpaaDoor.T
set_option linter.unusedVariables false
set_option linter.unusedSimpArgs false

/-- Two rows of words of one length with a word above them are the same if their values are. -/
theorem row_eq {a b : List Int} {s t : Int} {n : Nat} (ha : inW a) (hb : inW b) (hla : a.length = n) (hlb : b.length = n) (h : valB W64 a + W64 ^ n * s = valB W64 b + W64 ^ n * t) : a = b ∧ s = t := by
  have h1 := valB_nonneg W64_pos (inB_of_inW ha)
  have h2 := valB_lt W64_pos (inB_of_inW ha)
  have h3 := valB_nonneg W64_pos (inB_of_inW hb)
  have h4 := valB_lt W64_pos (inB_of_inW hb)
  rw [hla] at h2
  rw [hlb] at h4
  obtain ⟨e1, e2⟩ := div_unique h1 h2 h3 h4 h
  exact ⟨valB_inj W64_pos (inB_of_inW ha) (inB_of_inW hb) (hla.trans hlb.symm) e1, e2⟩
theorem pow_W64_pos (n : Nat) : 0 < W64 ^ n := pow_posB W64_pos n
end Go.Proofs.YtldefhhfcbmbpaaDoor.Ex
/- What every law asks beside: awake; the law's few and equal. -/
namespace Go.Proofs.YtldefhhfcbmbpaaDoor.Ex
open Go.RowKit Go.Proofs.YtldefhhfcbmbpaaDoorW.PrintWords Go.Proofs.YtldefhhfcbmbpaaDoorW.PrintLast Go.Proofs.YtldefhhfcbmbpaaDoorW.PrintMore Go.Proofs.YtldefhhfcbmbpaaDoor.T
set_option linter.unusedVariables false
set_option linter.unusedSimpArgs false

theorem isW_of_wf {x : Int} (h : (Lit.int .u64 x).wf = true) : isW x := by
  have h1 : 0 ≤ x ∧ x ≤ 18446744073709551615 := by
    simp [Lit.wf, IntKind.min, IntKind.max, IntKind.signed, IntKind.bits] at h
    omega
  unfold isW
  rw [W64_eq]
  omega
theorem inW_of_wf {l : List Int} (h : ∀ x ∈ l, (Lit.int .u64 x).wf = true) : inW l := fun x hx => isW_of_wf (h x hx)
theorem inW_take {l : List Int} (h : inW l) (n : Nat) : inW (l.take n) := fun x hx => h x (List.mem_of_mem_take hx)
theorem few_some (l : List Int) (n : Nat) (h : l.length ≤ 17592186044415) : reckonerlaw01_few.f l (n : Int) = some (l.take n) := by
  unfold reckonerlaw01_few.f
  rw [if_pos ⟨by omega, h⟩, Int.toNat_natCast]
theorem equal_some (x y : List Int) (hx : x.length ≤ 17592186044415) (hy : y.length ≤ 17592186044415) : ∃ n : Nat, reckonerlaw01_equal.f x y = some (x.take n, y.take n) ∧ n ≤ 40 ∧ n ≤ x.length ∧ n ≤ y.length := by
  have f40x := few_some x 40 hx
  have f40y := few_some y 40 hy
  have e40 : ((40 : Nat) : Int) = 40 := rfl
  rw [e40] at f40x f40y
  unfold reckonerlaw01_equal.f
  by_cases h1 : (y.length : Int) < (x.length : Int)
  · rw [if_pos h1]
    by_cases h2 : (40 : Int) < (y.length : Int)
    · rw [if_pos h2, f40x, f40y]
      exact ⟨40, rfl, by omega, by omega, by omega⟩
    · rw [if_neg h2, few_some x y.length hx, few_some y y.length hy]
      exact ⟨y.length, rfl, by omega, by omega, by omega⟩
  · rw [if_neg h1]
    by_cases h2 : (40 : Int) < (x.length : Int)
    · rw [if_pos h2, f40x, f40y]
      exact ⟨40, rfl, by omega, by omega, by omega⟩
    · rw [if_neg h2, few_some x x.length hx, few_some y x.length hy]
      exact ⟨x.length, rfl, by omega, by omega, by omega⟩
theorem aw1 : words_Add.f [18446744073709551615] [1] 0 = some ([0], 1, 0) := by kernel_rfl
theorem aw2 : words_Sub.f [0] [1] 0 = some ([18446744073709551615], 1, 0) := by kernel_rfl
theorem aw3 : words_MulWord.f [18446744073709551615] 18446744073709551615 18446744073709551615 = some ([0], 18446744073709551615, 0) := by kernel_rfl
theorem aw4 : words_DivWord.f [0] 3 1 = some ([6148914691236517205], 1, 0) := by kernel_rfl
theorem aw5 : words_Right.f [3] 1 = some ([1], 9223372036854775808, 0) := by kernel_rfl
theorem aw6 : words_Inverse.f 3 = some (12297829382473034411, 0) := by kernel_rfl
theorem aw7 : words_Reciprocal.f 9223372036854775808 = some (18446744073709551615, 0) := by kernel_rfl
theorem awake_ev : Ev (fun k => reckonerlaw01_awake.f k) true := by
  obtain ⟨k1, h1⟩ := same_true (a := [0]) (b := [0]) rfl (by decide)
  obtain ⟨k2, h2⟩ := same_true (a := [18446744073709551615]) (b := [18446744073709551615]) rfl (by decide)
  obtain ⟨k3, h3⟩ := same_true (a := [6148914691236517205]) (b := [6148914691236517205]) rfl (by decide)
  obtain ⟨k4, h4⟩ := same_true (a := [1]) (b := [1]) rfl (by decide)
  refine ⟨max (max k1 k2) (max k3 k4), fun k hk => ?_⟩
  have e1 : reckonerlaw01_same.f k [0] [0] = some true := h1 k (by omega)
  have e2 : reckonerlaw01_same.f k [18446744073709551615] [18446744073709551615] = some true := h2 k (by omega)
  have e3 : reckonerlaw01_same.f k [6148914691236517205] [6148914691236517205] = some true := h3 k (by omega)
  have e4 : reckonerlaw01_same.f k [1] [1] = some true := h4 k (by omega)
  show reckonerlaw01_awake.f k = some true
  unfold reckonerlaw01_awake.f
  simp only [aw1, aw2, aw3, aw4, aw5, aw6, aw7, Option.bind_some, e1, e2, e3, e4, if_true]
  rfl
end Go.Proofs.YtldefhhfcbmbpaaDoor.Ex
/- WordsSums: the plain law. -/
namespace Go.Proofs.YtldefhhfcbmbpaaDoor.Ex
open Go.RowKit Go.Proofs.YtldefhhfcbmbpaaDoorW.PrintWords Go.Proofs.YtldefhhfcbmbpaaDoorW.PrintLast Go.Proofs.YtldefhhfcbmbpaaDoorW.PrintMore Go.Proofs.YtldefhhfcbmbpaaDoor.T
set_option linter.unusedVariables false
set_option linter.unusedSimpArgs false

theorem chk_lens (a b : List Int) (ha : a.length ≤ 4096) (hb : b.length ≤ 4096) : chk [a, b] = if b.length = a.length then 0 else 1 := by
  unfold chk
  rw [if_pos (by simp [ha, hb])]
  by_cases h : b.length = a.length
  · rw [if_pos h, if_pos (by simp [h])]
  · rw [if_neg h, if_neg (by simpa using h)]
end Go.Proofs.YtldefhhfcbmbpaaDoor.Ex
/- The reference's Word and Times (printed in Tx4, Tx5). -/
namespace Go.Proofs.YtldefhhfcbmbpaaDoor.Ex
open Go.RowKit Go.Proofs.YtldefhhfcbmbpaaDoorW.PrintWords Go.Proofs.YtldefhhfcbmbpaaDoorW.PrintLast Go.Proofs.YtldefhhfcbmbpaaDoorW.PrintMore Go.Proofs.YtldefhhfcbmbpaaDoor.T
set_option linter.unusedVariables false
set_option linter.unusedSimpArgs false

theorem w64_sub1 (n : Nat) (h : n < 4611686018427387904) : wrap64 (((n + 1 : Nat) : Int) - 1) = (n : Int) := by rw [← w64_nat n h]; congr 1; omega
/-- What holds of a product's digits between two rounds. -/
structure Prod (a b out : List Int) (i : Nat) : Prop where
  len : out.length = a.length + b.length
  dig : inB H32 out
  zero : ∀ j, i + b.length ≤ j → out.getD j 0 = 0
end Go.Proofs.YtldefhhfcbmbpaaDoor.Ex
/- Values: a row divided by a word; a guess of a digit. No program here. -/
namespace Go.Proofs.YtldefhhfcbmbpaaDoor.Ex
set_option linter.unusedVariables false

/-- A row divided by a word: the quotient's row and the rest. -/
theorem div_val (w : Int) (l : List Int) (hl : inW l) (hw0 : 0 < w) (hw : isW w) : ∀ n c, n ≤ l.length → 0 ≤ c → c < w →
    inW (downL (divS w l) n c).1 ∧ (0 ≤ (downL (divS w l) n c).2 ∧ (downL (divS w l) n c).2 < w) ∧ valB W64 (downL (divS w l) n c).1 * w + (downL (divS w l) n c).2 = valB W64 (l.take n) + W64 ^ n * c
  | 0, c, _, h0, h1 => ⟨inW_nil, ⟨h0, h1⟩, by simp [downL, valB]⟩
  | n + 1, c, hn, h0, h1 => by
    have hx := isW_get hl n
    have hx0 := hx.1
    have hx1 := hx.2
    have hd := Int.emod_add_mul_ediv (c * W64 + l.getD n 0) w
    have hr0 := Int.emod_nonneg (c * W64 + l.getD n 0) (by omega : w ≠ 0)
    have hr1 := Int.emod_lt_of_pos (c * W64 + l.getD n 0) hw0
    have hn0 : 0 ≤ c * W64 + l.getD n 0 := Int.add_nonneg (Int.mul_nonneg h0 (by decide)) hx0
    have hq0 := Int.ediv_nonneg hn0 (by omega : 0 ≤ w)
    have hq1 : (c * W64 + l.getD n 0) / w < W64 := by
      rw [Int.ediv_lt_iff_lt_mul hw0]
      have h2 : (c + 1) * W64 ≤ w * W64 := Int.mul_le_mul_of_nonneg_right (by omega) (by decide)
      rw [Int.add_mul, Int.one_mul] at h2
      rw [Int.mul_comm W64]
      omega
    obtain ⟨k1, k2, k3⟩ := div_val w l hl hw0 hw n ((c * W64 + l.getD n 0) % w) (by omega) hr0 hr1
    have hlen := downL_length (divS w l) n ((c * W64 + l.getD n 0) % w)
    refine ⟨inW_append.2 ⟨k1, inW_cons.2 ⟨⟨hq0, hq1⟩, inW_nil⟩⟩, k2, ?_⟩
    show valB W64 ((downL (divS w l) n ((c * W64 + l.getD n 0) % w)).1 ++ [(c * W64 + l.getD n 0) / w]) * w + (downL (divS w l) n ((c * W64 + l.getD n 0) % w)).2 = _
    rw [valB_append, hlen, valB_take_succ W64 l n (by omega), Int.pow_succ]
    simp only [valB, Int.mul_zero, Int.add_zero]
    generalize (c * W64 + l.getD n 0) / w = q at *
    generalize (c * W64 + l.getD n 0) % w = r at *
    generalize valB W64 (downL (divS w l) n r).1 = V at *
    generalize (downL (divS w l) n r).2 = S at *
    generalize valB W64 (l.take n) = L at *
    generalize l.getD n 0 = x at *
    generalize W64 ^ n = P at *
    clear hl hq0 hq1 hr0 hr1 hn0 k1 k2 hlen hx hx0 hx1 h0 h1 hn hw hw0
    have e : P * (r + w * q) = P * (c * W64 + x) := by rw [hd]
    grind
end Go.Proofs.YtldefhhfcbmbpaaDoor.Ex
/- WordsShifts: the plain law. -/
namespace Go.Proofs.YtldefhhfcbmbpaaDoor.Ex
open Go.RowKit Go.Proofs.YtldefhhfcbmbpaaDoorW.PrintWords Go.Proofs.YtldefhhfcbmbpaaDoorW.PrintLast Go.Proofs.YtldefhhfcbmbpaaDoorW.PrintMore Go.Proofs.YtldefhhfcbmbpaaDoor.T
set_option linter.unusedVariables false
set_option linter.unusedSimpArgs false

theorem pow2_lt (n : Nat) (h : n ≤ 63) : isW ((2 : Int) ^ n) := by
  have h1 : 2 ^ n < 2 ^ 64 := Nat.pow_lt_pow_right (by decide) (by omega)
  have h2 : (2 : Int) ^ n = ((2 ^ n : Nat) : Int) := by simp
  have h3 : 2 ^ n < 18446744073709551616 := h1
  unfold isW
  rw [h2, W64_eq]
  exact ⟨Int.natCast_nonneg _, Int.ofNat_lt.2 h3⟩
theorem right_sum (x c : Int) (n : Nat) (hx : isW x) (hn : n ≤ 63) (hc : fallen n c) : 0 ≤ c + x / 2 ^ n ∧ c + x / 2 ^ n < 18446744073709551616 := by
  obtain ⟨X, rfl⟩ := Int.eq_ofNat_of_zero_le hx.1
  obtain ⟨k, hk, rfl⟩ := hc
  have hX := hx.2
  rw [W64_eq] at hX
  have hB : 2 ^ n * 2 ^ (64 - n) = 18446744073709551616 := by rw [← Nat.pow_add, show n + (64 - n) = 64 by omega]
  have hp : 0 < 2 ^ n := Nat.pow_pos (by decide)
  have ep : (2 : Int) ^ n = ((2 ^ n : Nat) : Int) := by simp
  have hq : X / 2 ^ n < 2 ^ (64 - n) := by rw [Nat.div_lt_iff_lt_mul hp, Nat.mul_comm, hB]; omega
  have hkk : k * 2 ^ (64 - n) + 2 ^ (64 - n) ≤ 18446744073709551616 := by
    have h1 : (k + 1) * 2 ^ (64 - n) ≤ 2 ^ n * 2 ^ (64 - n) := Nat.mul_le_mul_right _ hk
    rw [hB, Nat.add_mul, Nat.one_mul] at h1
    exact h1
  rw [ep]
  have e4 : ((X : Int) / ((2 ^ n : Nat) : Int)) = ((X / 2 ^ n : Nat) : Int) := by omega
  rw [e4]
  generalize X / 2 ^ n = q at *
  generalize k * 2 ^ (64 - n) = kk at *
  generalize 2 ^ (64 - n) = e at *
  omega
end Go.Proofs.YtldefhhfcbmbpaaDoor.Ex
/- WordsBacks: the plain law. -/
namespace Go.Proofs.YtldefhhfcbmbpaaDoor.Ex
open Go.RowKit Go.Proofs.YtldefhhfcbmbpaaDoorW.PrintWords Go.Proofs.YtldefhhfcbmbpaaDoorW.PrintLast Go.Proofs.YtldefhhfcbmbpaaDoorW.PrintMore Go.Proofs.YtldefhhfcbmbpaaDoor.T
set_option linter.unusedVariables false
set_option linter.unusedSimpArgs false

theorem mx_eq' (a b : Int) : mx a b = max a b := by first | rfl | (unfold mx; omega) | (unfold mx; split <;> omega)
/-- What is added and taken away again. -/
theorem back_add (a b : List Int) (c : Int) (ha : inW a) (hb : inW b) (hl : b.length = a.length) (hc : 0 ≤ c ∧ c ≤ 1) :
    ∃ p u, carryL (fun i c => addS (a.getD i 0) (b.getD i 0) c) a.length 0 c = (p, u) ∧ inW p ∧ p.length = a.length ∧ carryL (fun i c => subS (p.getD i 0) (b.getD i 0) c) p.length 0 c = (a, u) := by
  obtain ⟨v1, v2, v3⟩ := add_val a b c ha hb hl hc
  have hlen := carryL_length (fun i c => addS (a.getD i 0) (b.getD i 0) c) a.length 0 c
  obtain ⟨p, u, hpu⟩ : ∃ z u, carryL (fun i c => addS (a.getD i 0) (b.getD i 0) c) a.length 0 c = (z, u) := ⟨_, _, rfl⟩
  rw [hpu] at v1 v2 v3 hlen
  simp only at v1 v2 v3 hlen
  refine ⟨p, u, hpu, v2, hlen, ?_⟩
  obtain ⟨w1, w2, w3⟩ := sub_val p b c v2 hb (by omega) hc
  have hlen2 := carryL_length (fun i c => subS (p.getD i 0) (b.getD i 0) c) p.length 0 c
  obtain ⟨q, d, hqd⟩ : ∃ z u, carryL (fun i c => subS (p.getD i 0) (b.getD i 0) c) p.length 0 c = (z, u) := ⟨_, _, rfl⟩
  rw [hqd] at w1 w2 w3 hlen2 ⊢
  simp only at w1 w2 w3 hlen2
  rw [hlen] at w3
  have key : valB W64 q + W64 ^ a.length * (u - d) = valB W64 a + W64 ^ a.length * 0 := by
    rw [Int.mul_sub, Int.mul_zero]
    generalize W64 ^ a.length * u = A at *
    generalize W64 ^ a.length * d = B at *
    omega
  obtain ⟨e1, e2⟩ := row_eq w2 ha (hlen2.trans hlen) rfl key
  rw [e1, show d = u by omega]
theorem back_mul (a b : List Int) (w : Int) (ha : inW a) (hb : inW b) (hw : isW w) (hl : b.length = a.length) :
    ∃ t h, carryL (fun i c => moreS (b.getD i 0) w (a.getD i 0) c) b.length 0 0 = (t, h) ∧ inW t ∧ t.length = a.length ∧ carryL (fun i c => lessS (t.getD i 0) (b.getD i 0) w c) b.length 0 0 = (a, h) := by
  obtain ⟨v1, v2, v3⟩ := addMul_val a b w ha hb hw hl.symm
  have hlen := carryL_length (fun i c => moreS (b.getD i 0) w (a.getD i 0) c) b.length 0 0
  obtain ⟨p, u, hpu⟩ : ∃ z u, carryL (fun i c => moreS (b.getD i 0) w (a.getD i 0) c) b.length 0 0 = (z, u) := ⟨_, _, rfl⟩
  rw [hpu] at v1 v2 v3 hlen
  simp only at v1 v2 v3 hlen
  refine ⟨p, u, hpu, v2, hlen.trans hl, ?_⟩
  obtain ⟨w1, w2, w3⟩ := subMul_val p b w v2 hb hw hlen
  have hlen2 := carryL_length (fun i c => lessS (p.getD i 0) (b.getD i 0) w c) b.length 0 0
  obtain ⟨q, d, hqd⟩ : ∃ z u, carryL (fun i c => lessS (p.getD i 0) (b.getD i 0) w c) b.length 0 0 = (z, u) := ⟨_, _, rfl⟩
  rw [hqd] at w1 w2 w3 hlen2 ⊢
  simp only at w1 w2 w3 hlen2
  have key : valB W64 q + W64 ^ b.length * (u - d) = valB W64 a + W64 ^ b.length * 0 := by
    rw [Int.mul_sub, Int.mul_zero]
    generalize W64 ^ b.length * u = A at *
    generalize W64 ^ b.length * d = B at *
    omega
  obtain ⟨e1, e2⟩ := row_eq w2 ha hlen2 hl.symm key
  rw [e1, show d = u by omega]
theorem back_div (a : List Int) (w r : Int) (ha : inW a) (hw : isW w) (hw0 : 0 < w) (hr0 : 0 ≤ r) (hr : r < w) :
    ∃ m h, carryL (fun i c => moreS (a.getD i 0) w c 0) a.length 0 r = (m, h) ∧ inW m ∧ m.length = a.length ∧ isW h ∧ h < w ∧ downL (divS w m) m.length h = (a, r) := by
  obtain ⟨v1, v2, v3⟩ := mul_val a w r ha hw ⟨hr0, Int.lt_trans hr hw.2⟩
  have hlen := carryL_length (fun i c => moreS (a.getD i 0) w c 0) a.length 0 r
  obtain ⟨m, h, hmh⟩ : ∃ z u, carryL (fun i c => moreS (a.getD i 0) w c 0) a.length 0 r = (z, u) := ⟨_, _, rfl⟩
  rw [hmh] at v1 v2 v3 hlen
  simp only at v1 v2 v3 hlen
  have hp := pow_W64_pos a.length
  have a1 := valB_lt W64_pos (inB_of_inW ha)
  have m0 := valB_nonneg W64_pos v2
  have hhw : h < w := by
    have h1 : (valB W64 a + 1) * w ≤ W64 ^ a.length * w := Int.mul_le_mul_of_nonneg_right (by omega) (by omega)
    rw [Int.add_mul, Int.one_mul] at h1
    have h2 : W64 ^ a.length * h < W64 ^ a.length * w := by omega
    exact Int.lt_of_mul_lt_mul_left h2 (by omega)
  refine ⟨m, h, hmh, v2, hlen, v1, hhw, ?_⟩
  obtain ⟨w1, w2, w3⟩ := div_val w m v2 hw0 hw m.length h (Nat.le_refl _) v1.1 hhw
  rw [List.take_of_length_le (Nat.le_refl _), hlen, v3] at w3
  have hlen2 := downL_length (divS w m) m.length h
  obtain ⟨q, s, hqs⟩ : ∃ z u, downL (divS w m) m.length h = (z, u) := ⟨_, _, rfl⟩
  rw [hlen] at hqs w1 w2 hlen2 ⊢
  rw [hqs] at w1 w2 w3 hlen2 ⊢
  simp only at w1 w2 w3 hlen2
  have e : s + w * valB W64 q = r + w * valB W64 a := by rw [Int.mul_comm w, Int.mul_comm w]; omega
  obtain ⟨e1, e2⟩ := div_unique w2.1 w2.2 hr0 hr e
  rw [e1, valB_inj W64_pos (inB_of_inW w1) (inB_of_inW ha) hlen2 e2]
theorem right_sumE {V S f T P k' X x k H B : Int} (f3 : V * S + f = T + P * k') (hd : k' + S * X = x) (eW : H * S = B) : (V + P * (X + k * H)) * S + f = T + P * x + P * B * k := by
  subst eW
  subst hd
  grind
/-- A row shifted to the right, with what falls into it from above. -/
theorem right_val (s : Nat) (z : List Int) (hz : inW z) (hs : s ≤ 63) : ∀ m (k : Nat), m ≤ z.length → k < 2 ^ s →
    ∃ f : Nat, f < 2 ^ s ∧ inW (downL (rightS s z) m ((k * 2 ^ (64 - s) : Nat) : Int)).1 ∧ valB W64 (downL (rightS s z) m ((k * 2 ^ (64 - s) : Nat) : Int)).1 * 2 ^ s + (f : Int) = valB W64 (z.take m) + W64 ^ m * (k : Int)
  | 0, k, _, hk => ⟨k, hk, inW_nil, by simp [downL, valB]⟩
  | m + 1, k, hm, hk => by
    have hx := isW_get hz m
    have hx0 := hx.1
    have hc : fallen s ((k * 2 ^ (64 - s) : Nat) : Int) := ⟨k, hk, rfl⟩
    have hb := right_sum (z.getD m 0) ((k * 2 ^ (64 - s) : Nat) : Int) s hx hs hc
    have hp : (0 : Int) < 2 ^ s := Int.pow_pos (by decide)
    have hm0 := Int.emod_nonneg (z.getD m 0) (Int.ne_of_gt hp)
    have hm1 := Int.emod_lt_of_pos (z.getD m 0) hp
    have hd := Int.emod_add_mul_ediv (z.getD m 0) (2 ^ s)
    obtain ⟨k', hk'⟩ := Int.eq_ofNat_of_zero_le hm0
    have ep : (2 : Int) ^ s = ((2 ^ s : Nat) : Int) := by simp
    have hk2 : k' < 2 ^ s := by rw [hk', ep] at hm1; exact Int.ofNat_lt.1 hm1
    obtain ⟨f, f1, f2, f3⟩ := right_val s z hz hs m k' (by omega) hk2
    have eg : (rightS s z m ((k * 2 ^ (64 - s) : Nat) : Int)).2 = ((k' * 2 ^ (64 - s) : Nat) : Int) := by
      show z.getD m 0 % 2 ^ s * 2 ^ (64 - s) = _
      rw [hk']
      simp
    have hlen := downL_length (rightS s z) m ((k' * 2 ^ (64 - s) : Nat) : Int)
    have eW : (2 : Int) ^ (64 - s) * 2 ^ s = W64 := by rw [← Int.pow_add, show 64 - s + s = 64 by omega]; decide
    refine ⟨f, f1, ?_, ?_⟩
    · show inW ((downL (rightS s z) m (rightS s z m ((k * 2 ^ (64 - s) : Nat) : Int)).2).1 ++ [z.getD m 0 / 2 ^ s + ((k * 2 ^ (64 - s) : Nat) : Int)])
      rw [eg]
      refine inW_append.2 ⟨f2, inW_cons.2 ⟨?_, inW_nil⟩⟩
      unfold isW
      rw [W64_eq, Int.add_comm]
      exact hb
    · show valB W64 ((downL (rightS s z) m (rightS s z m ((k * 2 ^ (64 - s) : Nat) : Int)).2).1 ++ [z.getD m 0 / 2 ^ s + ((k * 2 ^ (64 - s) : Nat) : Int)]) * 2 ^ s + (f : Int) = _
      rw [eg, valB_append, hlen, valB_take_succ W64 z m (by omega), Int.pow_succ]
      rw [hk'] at hd
      have ec : ((k * 2 ^ (64 - s) : Nat) : Int) = (k : Int) * 2 ^ (64 - s) := by simp
      rw [ec]
      simp only [valB, Int.mul_zero, Int.add_zero]
      exact right_sumE f3 hd eW
theorem no_loss {R A Z H S P out f : Int} (f3 : R * S + f = Z) (v3 : Z + P * H * S * out = A * S + 0) : f + S * R = 0 + S * (A - P * H * out) := by grind
/-- What is shifted to the left and then to the right, with what was shifted out set again. -/
theorem back_shift (a : List Int) (s : Nat) (ha : inW a) (hs : s ≤ 63) :
    ∃ z out r f, carryL (fun i c => moreS (a.getD i 0) (2 ^ s) c 0) a.length 0 0 = (z, out) ∧ inW z ∧ z.length = a.length ∧ downL (rightS s z) z.length 0 = (r, f) ∧ r.length = a.length ∧
      (a.length = 0 ∨ s = 0 → r = a) ∧ (∀ n, a.length = n + 1 → shl .u64 out (64 - (s : Int)) = out * 2 ^ (64 - s) ∧ r.set n (Go.bits .or .u64 (r.getD n 0) (out * 2 ^ (64 - s))) = a) := by
  have hw := pow2_lt s hs
  obtain ⟨v1, v2, v3⟩ := mul_val a (2 ^ s) 0 ha hw ⟨Int.le_refl 0, W64_pos⟩
  have hlen := carryL_length (fun i c => moreS (a.getD i 0) (2 ^ s) c 0) a.length 0 0
  obtain ⟨z, out, hzo⟩ : ∃ z u, carryL (fun i c => moreS (a.getD i 0) (2 ^ s) c 0) a.length 0 0 = (z, u) := ⟨_, _, rfl⟩
  rw [hzo] at v1 v2 v3 hlen
  simp only at v1 v2 v3 hlen
  have e0 : ((0 * 2 ^ (64 - s) : Nat) : Int) = 0 := by simp
  obtain ⟨f0, f1, f2, f3⟩ := right_val s z v2 hs z.length 0 (Nat.le_refl _) (Nat.pow_pos (by decide))
  rw [e0, List.take_of_length_le (Nat.le_refl _)] at f3
  rw [e0] at f2
  have hlr := downL_length (rightS s z) z.length 0
  have htop : ∀ n, z.length = n + 1 → (downL (rightS s z) z.length 0).1.getD n 0 = z.getD n 0 / 2 ^ s := by
    intro n hn
    rw [hn]
    show ((downL (rightS s z) n (rightS s z n 0).2).1 ++ [(rightS s z n 0).1]).getD n 0 = _
    have hl2 := downL_length (rightS s z) n (rightS s z n 0).2
    simp only [List.getD_eq_getElem?_getD]
    rw [List.getElem?_append_right (by omega), hl2, Nat.sub_self]
    show z[n]?.getD 0 / 2 ^ s + 0 = _
    rw [Int.add_zero]
  obtain ⟨r, f, hrf⟩ : ∃ z' u, downL (rightS s z) z.length 0 = (z', u) := ⟨_, _, rfl⟩
  rw [hrf] at f2 f3 hlr htop
  simp only at f2 f3 hlr htop
  refine ⟨z, out, r, f, hzo, v2, hlen, hrf, hlr.trans hlen, ?_, ?_⟩
  · rintro (h | h)
    · have h1 : r = [] := List.eq_nil_of_length_eq_zero (by omega)
      have h2 : a = [] := List.eq_nil_of_length_eq_zero h
      rw [h1, h2]
    · subst h
      have h1 : f0 = 0 := by
        have : f0 < 1 := f1
        omega
      rw [h1] at f3
      simp only [Int.pow_zero, Int.mul_one, Int.mul_zero, Int.add_zero, Int.natCast_zero] at f3 v3
      have h2 : valB W64 r + W64 ^ a.length * out = valB W64 a + W64 ^ a.length * 0 := by rw [f3, v3, Int.mul_zero, Int.add_zero]
      exact (row_eq f2 ha (hlr.trans hlen) rfl h2).1
  · intro n hn
    have hp : (0 : Int) < 2 ^ s := Int.pow_pos (by decide)
    have hH : (0 : Int) < 2 ^ (64 - s) := Int.pow_pos (by decide)
    have eW : (2 : Int) ^ (64 - s) * 2 ^ s = W64 := by rw [← Int.pow_add, show 64 - s + s = 64 by omega]; decide
    have hPn := pow_W64_pos n
    have hPp := pow_W64_pos a.length
    have a1 := valB_lt W64_pos (inB_of_inW ha)
    have z0 := valB_nonneg W64_pos (inB_of_inW v2)
    have ho := v1.1
    -- what was shifted out is less than 2^s
    have hos : out < 2 ^ s := by
      have h1 : valB W64 a * 2 ^ s < W64 ^ a.length * 2 ^ s := Int.mul_lt_mul_of_pos_right a1 hp
      have h2 : W64 ^ a.length * out < W64 ^ a.length * 2 ^ s := by omega
      exact Int.lt_of_mul_lt_mul_left h2 (by omega)
    obtain ⟨k, hk⟩ := Int.eq_ofNat_of_zero_le ho
    have ep : (2 : Int) ^ s = ((2 ^ s : Nat) : Int) := by simp
    have hk2 : k < 2 ^ s := by rw [hk, ep] at hos; exact Int.ofNat_lt.1 hos
    have hfo : fallen s (out * 2 ^ (64 - s)) := ⟨k, hk2, by rw [hk]; simp⟩
    have hzt := isW_get v2 n
    obtain ⟨q1, _, _⟩ := right_eq (z.getD n 0) (out * 2 ^ (64 - s)) (s : Int) hzt (by omega) (by omega) hfo
    have es : ((s : Nat) : Int).toNat = s := rfl
    rw [es] at q1
    have hsum := right_sum (z.getD n 0) (out * 2 ^ (64 - s)) s hzt hs hfo
    -- nothing was lost
    have hPs : W64 ^ a.length = W64 ^ n * 2 ^ (64 - s) * 2 ^ s := by rw [hn, Int.pow_succ, Int.mul_assoc, eW]
    have hf0 : (f0 : Int) = 0 ∧ valB W64 r = valB W64 a - W64 ^ n * 2 ^ (64 - s) * out := by
      have h1 : (f0 : Int) + 2 ^ s * valB W64 r = 0 + 2 ^ s * (valB W64 a - W64 ^ n * 2 ^ (64 - s) * out) := by
        rw [hPs] at v3
        exact no_loss (by rw [f3]; simp) v3
      exact div_unique (by omega) (by rw [ep]; exact Int.ofNat_lt.2 f1) (Int.le_refl 0) hp h1
    refine ⟨?_, ?_⟩
    · rw [← shl_small (rfl : shl .u64 out (64 - (s : Int)) = _) (show 64 - (s : Int) ≤ ((64 : Nat) : Int) by omega)]
      have e2 : (64 - (s : Int)).toNat = 64 - s := by omega
      rw [e2]
      have h3 : 0 ≤ z.getD n 0 / 2 ^ s := Int.ediv_nonneg hzt.1 (by omega)
      have h4 : 0 ≤ out * 2 ^ (64 - s) := Int.mul_nonneg ho (by omega)
      exact wrapW _ h4 (by omega)
    · have hti := htop n (by omega)
      rw [hti, q1]
      have hset : valB W64 (r.set n (z.getD n 0 / 2 ^ s + out * 2 ^ (64 - s))) = valB W64 a := by
        rw [valB_set W64 r n _ (by omega), hti, hf0.2]
        generalize z.getD n 0 / 2 ^ s = X
        generalize (2 : Int) ^ (64 - s) = H
        generalize W64 ^ n = P
        grind
      refine valB_inj W64_pos (inB_set f2 n ?_) (inB_of_inW ha) (by rw [List.length_set]; omega) hset
      rw [W64_eq, Int.add_comm]
      exact hsum
theorem Backs_j5 (a : List Int) (ha : inW a) (hla : a.length ≤ 40) : Ev (fun k => reckonerlaw01_WordsBacks.j5 k a (a.length : Int) a) true := by
  have hz : inW (List.replicate a.length (0 : Int)) := fun x hx => by rw [List.eq_of_mem_replicate hx]; exact ⟨Int.le_refl 0, W64_pos⟩
  have hzl : (List.replicate a.length (0 : Int)).length = a.length := List.length_replicate
  have q1 : (0 : Int) ≤ (a.length : Int) := by omega
  have q2 : a.length ≤ 35184372088832 := by omega
  generalize hZ : List.replicate a.length (0 : Int) = Z at *
  have ck : chk [Z, a] = 0 := by rw [chk_lens _ _ (by omega) (by omega), if_pos (by omega)]
  have n1 : ¬ (1 : Int) < 0 := by decide
  have fs : words_Sub.f Z a 0 = some ((carryL (fun i c => subS (Z.getD i 0) (a.getD i 0) c) Z.length 0 0).1, (carryL (fun i c => subS (Z.getD i 0) (a.getD i 0) c) Z.length 0 0).2, 0) := by unfold words_Sub.f; rw [if_pos ⟨hz, ha, ⟨Int.le_refl 0, W64_pos⟩⟩, if_pos ck, if_neg n1]
  have hl := carryL_length (fun i c => subS (Z.getD i 0) (a.getD i 0) c) Z.length 0 0
  obtain ⟨y, v, hyv⟩ : ∃ z u, carryL (fun i c => subS (Z.getD i 0) (a.getD i 0) c) Z.length 0 0 = (z, u) := ⟨_, _, rfl⟩
  rw [hyv] at fs hl
  simp only at fs hl
  have fn : words_Negate.f a = some (y, (v == 1), 0) := by
    unfold words_Negate.f
    rw [if_pos q1, Int.toNat_natCast, if_pos q2, hZ, fs]
    rfl
  have sa := same_true (a := a) (b := a) rfl (by omega)
  have sy := same_true (a := y) (b := y) rfl (by omega)
  refine Ev.step (f := fun k => (reckonerlaw01_same.f k a a).bind fun t790 => (if t790 = true then ((reckonerlaw01_same.f k y y).bind fun t791 => (if t791 = true then (if ((v == 1) == (v == 1)) = true then ((reckonerlaw01_awake.f k).bind fun t792 => (some t792)) else (none)) else (none))) else (none))) (fun k => ?_) ?_
  · show reckonerlaw01_WordsBacks.j5 (k + 1) a (a.length : Int) a = _
    rw [reckonerlaw01_WordsBacks.j5, fn, Option.bind_some, if_pos q1, Int.toNat_natCast, if_pos q2, hZ, fs, Option.bind_some]
    simp only [if_true]
  · refine Ev.bind sa ?_
    simp only [if_true]
    refine Ev.bind sy ?_
    have hb : ((v == 1) == (v == 1)) = true := by cases (v == 1) <;> rfl
    simp only [if_true, hb]
    exact Ev.bind awake_ev (Ev.now true)
theorem Backs_j2 (a : List Int) (s : Nat) (ha : inW a) (hla : a.length ≤ 40) (hs : s ≤ 63) : Ev (fun k => reckonerlaw01_WordsBacks.j2 k a (a.length : Int) (s : Int) false) true := by
  obtain ⟨z, out, r, f, h1, h2, h3, h4, h5, h6, h7⟩ := back_shift a s ha hs
  have t0 : ¬ (false = true) := by decide
  have es : ((s : Nat) : Int).toNat = s := rfl
  have hsr : 0 ≤ (s : Int) ∧ (s : Int) ≤ 63 := by omega
  have fl : words_Left.f a (s : Int) = some (z, out, 0) := by unfold words_Left.f; rw [if_pos ha, if_pos (by omega), if_pos hsr, es, h1]
  have fr : words_Right.f z (s : Int) = some (r, f, 0) := by unfold words_Right.f; rw [if_pos h2, if_pos (by omega), if_pos hsr, es, h4]
  have hlen : ((r.length : Int) != (a.length : Int)) = false := by rw [h5]; exact bne_self_eq_false _
  have j5 := Backs_j5 a ha hla
  refine Ev.step (f := fun k => reckonerlaw01_WordsBacks.j3 k a (a.length : Int) (s : Int) out r false) (fun k => ?_) ?_
  · show reckonerlaw01_WordsBacks.j2 (k + 1) a (a.length : Int) (s : Int) false = _
    rw [reckonerlaw01_WordsBacks.j2, if_neg t0, fl, Option.bind_some, fr, Option.bind_some, if_pos rfl, if_pos rfl, hlen]
  · by_cases hn : (a.length : Int) > 0
    · by_cases hs0 : (s : Int) > 0
      · have hd : decide ((s : Int) > 0) = true := decide_eq_true hs0
        obtain ⟨n, hn1⟩ : ∃ n, a.length = n + 1 := ⟨a.length - 1, by omega⟩
        obtain ⟨g1, g2⟩ := h7 n hn1
        have e1 : wrap64 ((a.length : Int) - 1) = (n : Int) := by rw [hn1]; exact w64_sub1 n (by omega)
        have e2 : wrap64 (64 - (s : Int)) = 64 - (s : Int) := w64_int _ (by omega) (by omega)
        have q1 : (0 : Int) ≤ (n : Int) := by omega
        have q2 : (n : Int) < (r.length : Int) := by omega
        have q3 : (0 : Int) ≤ 64 - (s : Int) := by omega
        refine Ev.step (f := fun k => reckonerlaw01_WordsBacks.j4 k a (a.length : Int) (s : Int) out r true) (fun k => ?_) (Ev.step (fun k => ?_) j5)
        · show reckonerlaw01_WordsBacks.j3 (k + 1) a (a.length : Int) (s : Int) out r false = _
          rw [reckonerlaw01_WordsBacks.j3, if_neg t0, if_pos hn, hd]
        · show reckonerlaw01_WordsBacks.j4 (k + 1) a (a.length : Int) (s : Int) out r true = _
          rw [reckonerlaw01_WordsBacks.j4, if_pos rfl, e1, if_pos q1, if_pos q2, e2, if_pos q3, g1, rd_nat, Int.toNat_natCast, g2]
      · have hd : decide ((s : Int) > 0) = false := decide_eq_false hs0
        have hr : r = a := h6 (Or.inr (by omega))
        refine Ev.step (f := fun k => reckonerlaw01_WordsBacks.j4 k a (a.length : Int) (s : Int) out r false) (fun k => ?_) (Ev.step (fun k => ?_) j5)
        · show reckonerlaw01_WordsBacks.j3 (k + 1) a (a.length : Int) (s : Int) out r false = _
          rw [reckonerlaw01_WordsBacks.j3, if_neg t0, if_pos hn, hd]
        · show reckonerlaw01_WordsBacks.j4 (k + 1) a (a.length : Int) (s : Int) out r false = _
          rw [reckonerlaw01_WordsBacks.j4, if_neg t0, hr]
    · have hr : r = a := h6 (Or.inl (by omega))
      refine Ev.step (f := fun k => reckonerlaw01_WordsBacks.j4 k a (a.length : Int) (s : Int) out r false) (fun k => ?_) (Ev.step (fun k => ?_) j5)
      · show reckonerlaw01_WordsBacks.j3 (k + 1) a (a.length : Int) (s : Int) out r false = _
        rw [reckonerlaw01_WordsBacks.j3, if_neg t0, if_neg hn]
      · show reckonerlaw01_WordsBacks.j4 (k + 1) a (a.length : Int) (s : Int) out r false = _
        rw [reckonerlaw01_WordsBacks.j4, if_neg t0, hr]
theorem Backs_j1 (a : List Int) (s : Nat) (w q : Int) (ha : inW a) (hla : a.length ≤ 40) (hs : s ≤ 63) (hw : isW w) (hw0 : 0 < w) (hq : isW q) : Ev (fun k => reckonerlaw01_WordsBacks.j1 k q a (a.length : Int) w (s : Int) false) true := by
  have j2 := Backs_j2 a s ha hla hs
  have t0 : ¬ (false = true) := by decide
  have hm : Int.tmod q w = q % w := Int.tmod_eq_emod_of_nonneg hq.1
  have hm0 := Int.emod_nonneg q (by omega : w ≠ 0)
  have hm1 := Int.emod_lt_of_pos q hw0
  obtain ⟨m, h, h1, h2, h3, h4, h5, h6⟩ := back_div a w (q % w) ha hw hw0 hm0 hm1
  have n0 : ¬ w = 0 := by omega
  have n1 : ¬ w ≤ h := by omega
  have f1 : words_MulWord.f a w (q % w) = some (m, h, 0) := by unfold words_MulWord.f; rw [if_pos ⟨ha, hw, ⟨hm0, Int.lt_trans hm1 hw.2⟩⟩, if_pos (by omega), h1]
  have f2 : words_DivWord.f m w h = some (a, q % w, 0) := by unfold words_DivWord.f; rw [if_pos ⟨h2, hw, h4⟩, if_pos (by omega), if_neg n0, if_neg n1, h6]
  have sa := same_true (a := a) (b := a) rfl (by omega)
  have hb : (q % w != q % w) = false := bne_self_eq_false _
  refine Ev.step (f := fun k => (reckonerlaw01_same.f k a a).bind fun t764 => (if t764 = true then (reckonerlaw01_WordsBacks.j2 k a (a.length : Int) (s : Int) (q % w != q % w)) else (reckonerlaw01_WordsBacks.j2 k a (a.length : Int) (s : Int) true))) (fun k => ?_) (Ev.bind sa ?_)
  · show reckonerlaw01_WordsBacks.j1 (k + 1) q a (a.length : Int) w (s : Int) false = _
    rw [reckonerlaw01_WordsBacks.j1, if_neg t0, if_neg n0, hm, f1, Option.bind_some, f2, Option.bind_some]
    simp only [if_true]
  · simp only [if_true, hb]
    exact j2
theorem Backs_j0 (a b : List Int) (s : Nat) (w q : Int) (ha : inW a) (hb : inW b) (hl : b.length = a.length) (hla : a.length ≤ 40) (hs : s ≤ 63) (hw : isW w) (hw0 : 0 < w) (hq : isW q) : Ev (fun k => reckonerlaw01_WordsBacks.j0 k q a b (a.length : Int) w (s : Int) false) true := by
  have j1 := Backs_j1 a s w q ha hla hs hw hw0 hq
  have t0 : ¬ (false = true) := by decide
  obtain ⟨t, h, h1, h2, h3, h4⟩ := back_mul a b w ha hb hw hl
  have c1 : chk [a, b] = 0 := by rw [chk_lens _ _ (by omega) (by omega), if_pos (by omega)]
  have c2 : chk [t, b] = 0 := by rw [chk_lens _ _ (by omega) (by omega), if_pos (by omega)]
  have f1 : words_AddMul.f a b w = some (t, h, 0) := by unfold words_AddMul.f; rw [if_pos ⟨ha, hb, hw⟩, if_pos c1, h1]
  have f2 : words_SubMul.f t b w = some (a, h, 0) := by unfold words_SubMul.f; rw [if_pos ⟨h2, hb, hw⟩, if_pos c2, h4]
  have sa := same_true (a := a) (b := a) rfl (by omega)
  have hbb : (h != h) = false := bne_self_eq_false _
  refine Ev.step (f := fun k => (reckonerlaw01_same.f k a a).bind fun t753 => (if t753 = true then (reckonerlaw01_WordsBacks.j1 k q a (a.length : Int) w (s : Int) (h != h)) else (reckonerlaw01_WordsBacks.j1 k q a (a.length : Int) w (s : Int) true))) (fun k => ?_) (Ev.bind sa ?_)
  · show reckonerlaw01_WordsBacks.j0 (k + 1) q a b (a.length : Int) w (s : Int) false = _
    rw [reckonerlaw01_WordsBacks.j0, if_neg t0, f1, Option.bind_some, f2, Option.bind_some]
    simp only [if_true]
  · simp only [if_true, hbb]
    exact j1
theorem pureBacks : reckonerlaw01_WordsBacks.Pure := by
  intro l0 l1 a2 a3 a4 _ h0 hw0 _ h1 hw1 hw2 hw3 hw4
  have i0 := inW_of_wf hw0
  have i1 := inW_of_wf hw1
  have i2 := isW_of_wf hw2
  have i3 := isW_of_wf hw3
  have i4 := isW_of_wf hw4
  obtain ⟨n, he, hn, hn0, hn1⟩ := equal_some l0 l1 (by omega) (by omega)
  have hla : (l0.take n).length = n := by rw [List.length_take]; omega
  have hlb : (l1.take n).length = n := by rw [List.length_take]; omega
  have ja := inW_take i0 n
  have jb := inW_take i1 n
  have hc : Int.tmod a2 2 = a2 % 2 := Int.tmod_eq_emod_of_nonneg i2.1
  have hc01 : 0 ≤ a2 % 2 ∧ a2 % 2 ≤ 1 := by omega
  have hcW : isW (a2 % 2) := by unfold isW; rw [W64_eq]; omega
  have hcn : ¬ 1 < a2 % 2 := by omega
  have hm : mx a3 1 = max a3 1 := mx_eq' a3 1
  have hmW : isW (max a3 1) ∧ 0 < max a3 1 := by
    have h0 := i3.1
    have h1 := i3.2
    unfold isW
    rw [W64_eq] at *
    omega
  obtain ⟨s, hs, hs63⟩ : ∃ s : Nat, wrap64 (Int.tmod a4 64) = (s : Int) ∧ s ≤ 63 := by
    rw [Int.tmod_eq_emod_of_nonneg i4.1, w64_int _ (by omega) (by omega)]
    exact ⟨(a4 % 64).toNat, by omega, by omega⟩
  have main : Ev (fun k => reckonerlaw01_WordsBacks.f k l0 l1 a2 a3 a4) true := by
    generalize l0.take n = a at *
    generalize l1.take n = b at *
    have c1 : chk [a, b] = 0 := by rw [chk_lens _ _ (by omega) (by omega), if_pos (by omega)]
    obtain ⟨p, u, b1, b2, b3, b4⟩ := back_add a b (a2 % 2) ja jb (by omega) hc01
    have c2 : chk [p, b] = 0 := by rw [chk_lens _ _ (by omega) (by omega), if_pos (by omega)]
    have f1 : words_Add.f a b (a2 % 2) = some (p, u, 0) := by unfold words_Add.f; rw [if_pos ⟨ja, jb, hcW⟩, if_pos c1, if_neg hcn, b1]
    have f2 : words_Sub.f p b (a2 % 2) = some (a, u, 0) := by unfold words_Sub.f; rw [if_pos ⟨b2, jb, hcW⟩, if_pos c2, if_neg hcn, b4]
    have sa := same_true (a := a) (b := a) rfl (by omega)
    have hj := Backs_j0 a b s (max a3 1) a4 ja jb (by omega) (by omega) hs63 hmW.1 hmW.2 i4
    have hbb : (u != u) = false := bne_self_eq_false _
    unfold reckonerlaw01_WordsBacks.f
    simp only [he, hc, f1, f2, Option.bind_some, hm, hs, if_true]
    refine Ev.bind sa ?_
    simp only [if_true, hbb]
    exact hj
  obtain ⟨k, hk⟩ := main.rounds
  exact ⟨k, hk⟩
end Go.Proofs.YtldefhhfcbmbpaaDoor.Ex
/- An array of three words as a parameter: what it reads as. -/
namespace Go.Proofs.YtldefhhfcbmbpaaDoor.Ex
open Go.ChangeShapes Go.WideShapes Go.WideMaps

section
variable {H : Type} {enc : TypeId × Value → H} {P : Program} {k e : TypeId} {q : IntKind} {W : World} {base : Nat} {sp : Nat → Bool} {held : Bool}

theorem okWide_triple (A : ArrKey P k e 3) {r : Reach} {b0 : Nat} {v : Value} (h : Value.okWide P W r b0 k v) : ∃ c0 c1 c2, v = .agg #[c0, c1, c2] := by
  simp only [Value.okWide, A.hu] at h
  obtain ⟨cs, h1, h2, _⟩ := h
  rw [A.size] at h2
  obtain ⟨l⟩ := cs
  match l, h2 with
  | [c0, c1, c2], _ => exact ⟨c0, c1, c2, h1⟩
theorem open_triple (A : ArrKey P k e 3) (he : P.underlying e = some (.int q)) {r : Reach} {b0 : Nat} {v : Value} {d : DataW H} {ps : List MemPlace} (hval : Value.okWide P W r b0 k v) (hd : DataW.Trod enc P W base sp held k v d ps) :
    ∃ a b c : Int, v = .agg #[.int q a, .int q b, .int q c] ∧ d = .agg [.lit (.int q a), .lit (.int q b), .lit (.int q c)] ∧ ps = [] ∧ (Lit.int q a).wf = true ∧ (Lit.int q b).wf = true ∧ (Lit.int q c).wf = true := by
  obtain ⟨c0, c1, c2, rfl⟩ := okWide_triple A hval
  obtain ⟨fuel, hf⟩ := hd
  cases fuel with
  | zero => simp [DataW.trod] at hf
  | succ n =>
    rw [DataW.trod_step] at hf
    unfold DataW.trodStep at hf
    simp only [A.hu, Value.cells] at hf
    rw [if_pos (by rw [A.size]; rfl)] at hf
    simp only [Option.map_eq_some_iff] at hf
    obtain ⟨xs, hx, e1⟩ := hf
    rw [show List.range 3 = [0, 1, 2] from rfl, List.mapM_cons, List.mapM_cons, List.mapM_cons, List.mapM_nil] at hx
    simp only [bind, Option.bind_eq_some_iff, pure, Option.some.injEq, A.one] at hx
    obtain ⟨y0, h0, _, ⟨y1, h1, _, ⟨y2, h2, _, rfl, rfl⟩, rfl⟩, rfl⟩ := hx
    obtain ⟨a, ea, rfl, wa⟩ := DataW.trod_int he h0
    obtain ⟨b, eb, rfl, wb⟩ := DataW.trod_int he h1
    obtain ⟨c, ec, rfl, wc⟩ := DataW.trod_int he h2
    simp at ea eb ec
    subst ea; subst eb; subst ec
    simp only [Prod.mk.injEq] at e1
    exact ⟨a, b, c, rfl, by rw [← e1.1]; rfl, by rw [← e1.2]; rfl, wa, wb, wc⟩
theorem shut_triple (A : ArrKey P k e 3) (he : P.underlying e = some (.int q)) {a b c : Int} (wa : (Lit.int q a).wf = true) (wb : (Lit.int q b).wf = true) (wc : (Lit.int q c).wf = true) :
    DataW.Trod enc P W base sp held k (.agg #[.int q a, .int q b, .int q c]) (.agg [.lit (.int q a), .lit (.int q b), .lit (.int q c)]) [] :=
  ⟨2, by
    show DataW.trod enc P W base sp held (1 + 1) k [.int q a, .int q b, .int q c] = _
    rw [DataW.trod_step]
    unfold DataW.trodStep
    simp only [A.hu]
    rw [if_pos (by rw [A.size]; rfl), show List.range 3 = [0, 1, 2] from rfl, List.mapM_cons, List.mapM_cons, List.mapM_cons, List.mapM_nil]
    simp [A.one, DataW.trod, he, wa, wb, wc]⟩
end
end Go.Proofs.YtldefhhfcbmbpaaDoor.Ex
-- PRINTED by print.py: the row of the law reckonerlaw01_WordsBacks, out of its Pure (the session's) and the printed walk. Not trusted: Lean checks it.
namespace Go.Proofs.YtldefhhfcbmbpaaDoor.wordsBacks
open Go.Proofs.YtldefhhfcbmbpaaDoor.Ex
open Go.ChangeShapes Go.WideShapes Go.ChangeAt Go.RowKit
open Go.ChangeMaps (open_string shut_string)
set_option linter.unusedVariables false
theorem own : ownKnob Tryd.prog.godebug = none := by kernel_rfl
theorem laidOut : laidOutB Tryd.prog = true := by kernel_rfl
def IsRow (k : IntKind) (w : World) (a : Option Addr) (len cap : Nat) (zs : List Int) : Prop :=
  (a = none ∧ len = 0 ∧ cap = 0 ∧ zs = []) ∨
  ∃ x, a = some x ∧ len ≤ cap ∧ cap ≤ maxLen ∧ zs.length = cap ∧ (∀ i, i < zs.length → w.cell? (x.add i) = some (.int k (zs.getD i 0))) ∧ ∀ n ∈ zs, (Lit.int k n).wf = true
theorem gT : Tryd.prog.globalNamed "reckoner/words.small" = some 0 := by kernel_rfl
theorem gTType : (Tryd.prog.globals[0]?).map (·.type) = some 82 := by kernel_rfl
theorem gCellsE : Tryd.prog.cellsOf 23 = 1 := by kernel_rfl
theorem gCells : Tryd.prog.cellsOf 82 = 16 := by kernel_rfl
/-- A world in which the table lies as its initialiser lays it. -/
noncomputable def laidWorld (os : Os) : World :=
  { World.holding Tryd.prog os ⟨#[], #[], []⟩ with heap := (World.holding Tryd.prog os ⟨#[], #[], []⟩).heap.modify 0 fun
      | .cells _ t frozen => .cells (smalls.map fun z => Value.int .u64 z).toArray t frozen
      | o => o }
theorem laid_met (os : Os) (args : Array Value) : laidMet Tryd.prog Rows.wordsBacksRow.laid ((laidWorld os).forCall (fun _ _ => 0) ⟨#[], args, []⟩).memory :=
  laidMet_of_run' 8 (by kernel_rfl) (by kernel_rfl)
theorem witness_row (os : Os) {H : Type} (enc : TypeId × Value → H) :
    (OpenSpec.ofChange Rows.wordsBacksSpec).preRow enc Tryd.prog Tryd.f9 Rows.wordsBacksRow.domain false Rows.wordsBacksRow.laid ((laidWorld os).forCall (fun _ _ => 0) ⟨#[], #[.slice none 0 0, .slice none 0 0, .agg #[.int .u64 0, .int .u64 0, .int .u64 0]], []⟩).memory #[.slice none 0 0, .slice none 0 0, .agg #[.int .u64 0, .int .u64 0, .int .u64 0]] := by
  have hw : (DataW.whole enc Tryd.prog ((laidWorld os).forCall (fun _ _ => 0) ⟨#[], #[.slice none 0 0, .slice none 0 0, .agg #[.int .u64 0, .int .u64 0, .int .u64 0]], []⟩).memory Tryd.f9.params.toList (OpenSpec.ofChange Rows.wordsBacksSpec).vars false (#[.slice none 0 0, .slice none 0 0, .agg #[.int .u64 0, .int .u64 0, .int .u64 0]] : Array Value).toList 8).map (fun x => (x.1, x.2.1)) =
      some ([.nil, .nil, .agg [.lit (.int .u64 0), .lit (.int .u64 0), .lit (.int .u64 0)]], []) := by kernel_rfl
  obtain ⟨⟨x1, x2, x3⟩, hx, hx1⟩ := Option.map_eq_some_iff.1 hw
  simp only [Prod.mk.injEq] at hx1
  obtain ⟨rfl, rfl⟩ := hx1
  exact OpenSpec.preRow_of_cond 8 hx (by kernel_rfl) (fun k hk => by cases hk) (by kernel_rfl) (laid_met os _)
set_option maxRecDepth 100000 in
theorem lifted (os : Os) (started : os.Started) (H : Type) (enc : TypeId × Value → H) (F : Stop.Interp) :
    ReturnsInHanded {} Tryd.checked os 9 .any ((OpenSpec.ofChange Rows.wordsBacksSpec).preRow enc Tryd.prog Tryd.f9 Rows.wordsBacksRow.domain false Rows.wordsBacksRow.laid) (((OpenSpec.ofChange Rows.wordsBacksSpec).at F).post enc Tryd.prog Tryd.f9 false true false false) := by
  refine returnsInHanded_of_row (C := Tryd.checked) (s := OpenSpec.ofChange Rows.wordsBacksSpec) own started (by kernel_rfl) Tryd.func9
    (witness_row_at (enc := enc) (C := Tryd.checked) false (laidWorld os) #[.slice none 0 0, .slice none 0 0, .agg #[.int .u64 0, .int .u64 0, .int .u64 0]] rfl (by kernel_rfl) (by kernel_rfl) (by kernel_rfl) (witness_row os enc)) ?_
  intro W base args ds gs before hval0 hW hcnd _ hsz0 hL _ _
  have htab : Lib.TabIs Tryd.prog W "reckoner/words.small" .u64 smalls := Lib.tabIs_of_head gT gTType Tryd.underlying82 Tryd.underlying23 gCellsE gCells hL
  have hg : Laid W := fun i hi => htab.cell gT i hi
  have hsz : (DataW.weightsEach Tryd.prog (Tryd.f9.params.toList ++ (OpenSpec.ofChange Rows.wordsBacksSpec).bare.plain.varTypes Tryd.prog) (ds ++ gs)).all (· ≤ reachBytes) = true := hsz0
  have hval : ∀ (j : Nat) t v, Tryd.f9.params[j]? = some t → args[j]? = some v → Value.okWide Tryd.prog W .any base t v := hval0
  have hW' := hW
  obtain ⟨p, q, hA0, hV, rfl, hfz, hnd⟩ := hW
  have hA : DataW.TrodAll enc Tryd.prog W 0 (fun _ => true) true Tryd.f9.params.toList args.toList ds p := hA0
  rw [Tryd.params9] at hA hval hsz
  obtain ⟨v0, vs0, d0, ds0, p0, q0, hargs, rfl, rfl, h0, r0⟩ := trodAll_cons hA
  obtain ⟨v1, vs1, d1, ds1, p1, q1, rfl, rfl, rfl, h1, r1⟩ := trodAll_cons r0
  obtain ⟨v2, vs2, d2, ds2, p2, q2, rfl, rfl, rfl, h2, r2⟩ := trodAll_cons r1
  obtain ⟨rfl, rfl, rfl⟩ := trodAll_nil r2
  obtain rfl : args = #[v0, v1, v2] := by cases args; simp_all
  obtain ⟨rfl, rfl⟩ := trodVars_none hV
  obtain ⟨a0, len0, cap0, rfl⟩ := okWide_slice Tryd.underlying22 (hval 0 22 v0 rfl rfl)
  have k0 := h0
  have lt0 : ∀ x ∈ p0, x.block < W.heap.size := by obtain ⟨m, hm⟩ := k0; exact DataW.trod_lt m _ _ _ hm
  obtain ⟨z0, w0⟩ : ∃ zs, IsRow .u64 W a0 len0 cap0 zs := by
    obtain ⟨fuel, hf⟩ := h0
    rcases open_ints Tryd.underlying22 Tryd.underlying23 (by kernel_rfl) hf with ⟨hcs, _⟩ | ⟨x, l, c, zs, hcs, _, hl, hm, hz, _, hcell, hwz⟩
    · simp [Value.cells] at hcs
      obtain ⟨rfl, rfl, rfl⟩ := hcs
      exact ⟨[], .inl ⟨rfl, rfl, rfl, rfl⟩⟩
    · simp [Value.cells] at hcs
      obtain ⟨rfl, rfl, rfl⟩ := hcs
      exact ⟨zs, .inr ⟨_, rfl, hl, hm, by simpa using hz, hcell, hwz⟩⟩
  have y0 : len0 * 8 ≤ 140737488351232 := Go.Proofs.YtldefhhfcbmbpaaDoorW.PrintWords.sized_ints hsz (j := 0) (t := 22) rfl rfl Tryd.underlying22 Tryd.underlying23 (by kernel_rfl) (by kernel_rfl) h0
  obtain ⟨a1, len1, cap1, rfl⟩ := okWide_slice Tryd.underlying22 (hval 1 22 v1 rfl rfl)
  have k1 := h1
  have lt1 : ∀ x ∈ p1, x.block < W.heap.size := by obtain ⟨m, hm⟩ := k1; exact DataW.trod_lt m _ _ _ hm
  obtain ⟨z1, w1⟩ : ∃ zs, IsRow .u64 W a1 len1 cap1 zs := by
    obtain ⟨fuel, hf⟩ := h1
    rcases open_ints Tryd.underlying22 Tryd.underlying23 (by kernel_rfl) hf with ⟨hcs, _⟩ | ⟨x, l, c, zs, hcs, _, hl, hm, hz, _, hcell, hwz⟩
    · simp [Value.cells] at hcs
      obtain ⟨rfl, rfl, rfl⟩ := hcs
      exact ⟨[], .inl ⟨rfl, rfl, rfl, rfl⟩⟩
    · simp [Value.cells] at hcs
      obtain ⟨rfl, rfl, rfl⟩ := hcs
      exact ⟨zs, .inr ⟨_, rfl, hl, hm, by simpa using hz, hcell, hwz⟩⟩
  have y1 : len1 * 8 ≤ 140737488351232 := Go.Proofs.YtldefhhfcbmbpaaDoorW.PrintWords.sized_ints hsz (j := 1) (t := 22) rfl rfl Tryd.underlying22 Tryd.underlying23 (by kernel_rfl) (by kernel_rfl) h1
  obtain ⟨a2, a3, a4, rfl, rfl, rfl, w2, w3, w4⟩ := Go.Proofs.YtldefhhfcbmbpaaDoor.Ex.open_triple (show Go.WideMaps.ArrKey Tryd.prog 54 23 3 from ⟨by kernel_rfl, by kernel_rfl, by kernel_rfl, by kernel_rfl⟩) Tryd.underlying23 (hval 2 54 v2 rfl rfl) h2
  clear hA0 hval0 hsz0 hsz
  refine (T.reckonerlaw01_WordsBacks.walk pureBacks a0 len0 cap0 z0 a1 len1 cap1 z1 a2 a3 a4 W w0 y0 w1 y1 w2 w3 w4 hg).mono fun e W' ⟨he, bel⟩ => ?_
  subst he
  exact ⟨_, rfl, _, _, _, [], _, [], hW', trodAll_mk1 (shut_bool Tryd.underlying4 _), (trodAll_cons_mk (Below.trod laidOut (by kernel_rfl) (of_decide_eq_true (by kernel_rfl)) k0 bel lt0) (trodAll_cons_mk (Below.trod laidOut (by kernel_rfl) (of_decide_eq_true (by kernel_rfl)) k1 bel lt1) (trodAll_cons_mk (Go.Proofs.YtldefhhfcbmbpaaDoor.Ex.shut_triple (show Go.WideMaps.ArrKey Tryd.prog 54 23 3 from ⟨by kernel_rfl, by kernel_rfl, by kernel_rfl, by kernel_rfl⟩) Tryd.underlying23 w2 w3 w4) trodAll_mk0))), rfl, bel.frame _, fun h => by cases h⟩
theorem over : Rows.wordsBacksRow.holds Tryd.pinned (OpenSpec.ofChange Rows.wordsBacksSpec) :=
  OpenClaim.holds_of_cond 9 Tryd.f9 rfl rfl rfl rfl rfl rfl rfl ⟨rfl, rfl, rfl, rfl, rfl⟩ rfl rfl rfl rfl rfl (by kernel_rfl) Tryd.func9 (by kernel_rfl)
    (of_decide_eq_true (by kernel_rfl)) (by unfold Func.isWrapper; first | (rw [if_pos (by decide +kernel)]; kernel_rfl) | (rw [if_neg (by decide +kernel)]; exact ⟨rfl, rfl⟩))
    (fun os started H enc _ F0 => by rw [OpenClaim.pre_eq_preRow]; exact lifted os started H enc F0)
theorem proved : Rows.WordsBacksSaid := over
end Go.Proofs.YtldefhhfcbmbpaaDoor.wordsBacks
namespace Go.Proofs.YtldefhhfcbmbpaaDoor
/-- The row, under a short name, for the claim. -/
theorem wordsBacks_holds : Rows.WordsBacksSaid := wordsBacks.proved
/-- THE TIED CARD. -/
theorem wordsBacksCard_holds : Rows.WordsBacksCardSaid :=
  Claim7.holds_tied_plain_at .later [] [.data] true (true, "2504ff196f4791dceee85039294dceef7a5defc03cfdfb7972b2fd1a548768f6") false
    wordsBacks_holds (fun _ h => by cases h) (by kernel_rfl) (fun _ h => by cases h) wordsBacks_row_tie rfl ⟨rfl, rfl⟩ (by kernel_rfl) rfl
    (fun f fn hf hfn => by
      obtain rfl : f = 9 := Option.some.inj ((show Tryd.prog.funcNamed Rows.wordsBacksRow.func = some 9 by kernel_rfl).symm.trans hf) |>.symm
      obtain rfl : fn = Tryd.f9 := (Option.some.inj (Tryd.func9.symm.trans hfn)).symm
      exact ⟨by kernel_rfl, fun j t ht => by
        rw [Tryd.params9] at ht
        have h3 : Tryd.prog.wantsStandIn t = false := by
          rcases j with (_ | (_ | (_ | j)))
          · obtain rfl := Option.some.inj ht.symm
            kernel_rfl
          · obtain rfl := Option.some.inj ht.symm
            kernel_rfl
          · obtain rfl := Option.some.inj ht.symm
            kernel_rfl
          · simp at ht
        exact h3⟩)
    (by kernel_rfl)
end Go.Proofs.YtldefhhfcbmbpaaDoor
