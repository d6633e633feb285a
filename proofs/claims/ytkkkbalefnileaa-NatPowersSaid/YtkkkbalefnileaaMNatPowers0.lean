/- The law NatPowers: powers of any number, or the specified error, are the ones of the reference; it holds of all inputs that fit in memory. (Part 1 of 4.) -/
import Derived.RowKit
import Derived.Test.YtkkkbalefnileaaProg
import Derived.Below
import Derived.Deep.Draws
import Derived.Deep.AppendLies
import Derived.Maps.AppendAt
import Derived.OwnWalk
import Derived.Laws.BytesArg
import Derived.Laws.MakeOwn
import Derived.Laws.OwnMore
import Derived.Deep.OwnRows
import Derived.Tactics
import Derived.Lib.ConvBytes
import Derived.Laws.Slices
import Derived.WalkKit
import Derived.KernelRfl
import Derived.RowKit3
import Derived.Deep.LoopGhost
import Derived.Deep.QuietTactic
import Derived.BigQuiet
import Derived.WideLaws
import Derived.Deep.DeepCutAuto
import Derived.Deep.CutBlock
import Derived.Deep.RegionHeld3
import Derived.Laws.Rows
import Derived.Lib.AppendStr
import Derived.ArgAppend
import Derived.Laws.IdiomCopy
import Derived.OrdersHeld
import Derived.Laws.BitsLemmas
import Derived.Test.YtkkkbalefnileaaWWords
import Derived.Test.YtkkkbalefnileaaWLast
import Derived.Test.YtkkkbalefnileaaWTab
import Derived.Test.YtkkkbalefnileaaWFour
import Derived.Test.YtkkkbalefnileaaWQPut
import Derived.Test.YtkkkbalefnileaaWApart
import Derived.Test.YtkkkbalefnileaaWArr
import Derived.Test.YtkkkbalefnileaaWZeros
import Derived.Test.YtkkkbalefnileaaWFoot
import Derived.Test.YtkkkbalefnileaaWKept
import Derived.Test.YtkkkbalefnileaaWShare
import Derived.Test.YtkkkbalefnileaaWN
import Derived.Test.YtkkkbalefnileaaWFootNe
import Derived.Test.YtkkkbalefnileaaWAt
import Derived.Test.YtkkkbalefnileaaWEqStruct
import Derived.Test.YtkkkbalefnileaaWRepsOne
import Derived.Test.YtkkkbalefnileaaWInv
import Derived.Test.YtkkkbalefnileaaWInvWords
import Derived.Test.YtkkkbalefnileaaWGuard
import Derived.Test.YtkkkbalefnileaaWNEv
import Derived.Test.YtkkkbalefnileaaWMore
import Derived.LoopTactic
import Derived.Outline
import Derived.Deep.RegionLaw
import Derived.Shelf.Abstract
import Derived.Shelf.Small.Bits
import Derived.Shelf.Strconv.Itoa0
import Derived.Shelf.Bits.Mul64
import Derived.Laws.Externs
import Derived.Shelf.Spec.BitsCarry
import Derived.StillTailTactics
import Derived.RangeFuncNested
import Derived.RangeFuncBound
import Derived.RangeFuncCalls
import Derived.RangeFuncLeaves
import Derived.RangeFuncWrites
import Derived.RangeFuncBox
import Derived.Shelf.RegionOpen
import Derived.OwnWalkIn
import Derived.TacticsInMore
import Derived.LoopNIn
import Derived.LoopIn
import Derived.Laws.CopyOwn
/- Plain functions on lists of words: what the rows of the program's functions are. No program here. -/
namespace Go.Proofs.Ytkkkbalefnileaa.Ex

/-- The base of a row's digits. -/
def W64 : Int := 18446744073709551616
theorem W64_eq : W64 = 18446744073709551616 := rfl
theorem W64_pos : 0 < W64 := by decide
/-- A word. -/
def isW (x : Int) : Prop := 0 ≤ x ∧ x < W64
instance (x : Int) : Decidable (isW x) := inferInstanceAs (Decidable (_ ∧ _))
/-- All are words. -/
def inW (l : List Int) : Prop := ∀ x ∈ l, isW x
instance (l : List Int) : Decidable (inW l) := inferInstanceAs (Decidable (∀ x ∈ l, isW x))
theorem inW_nil : inW [] := fun _ h => by cases h
theorem inW_cons {x : Int} {l : List Int} : inW (x :: l) ↔ isW x ∧ inW l := by simp [inW]
theorem inW_append {l m : List Int} : inW (l ++ m) ↔ inW l ∧ inW m := by
  constructor
  · exact fun h => ⟨fun x hx => h x (List.mem_append_left _ hx), fun x hx => h x (List.mem_append_right _ hx)⟩
  · rintro ⟨h1, h2⟩ x hx
    rcases List.mem_append.1 hx with h | h
    · exact h1 x h
    · exact h2 x h
/-- An element; 0 beyond the end. -/
theorem isW_get {l : List Int} (h : inW l) (i : Nat) : isW (l.getD i 0) := by
  rw [List.getD_eq_getElem?_getD]
  cases hx : l[i]? with
  | none => exact ⟨Int.le_refl 0, W64_pos⟩
  | some x => exact h x (List.mem_of_getElem? hx)
/-- A sum, and the carry. -/
def addS (x y c : Int) : Int × Int := ((x + y + c) % W64, (x + y + c) / W64)
/-- A difference, and the borrow. -/
def subS (x y c : Int) : Int × Int := ((x - y - c) % W64, if x < y + c then 1 else 0)
/-- a b + c + d. -/
def moreS (a b c d : Int) : Int × Int := ((a * b + c + d) % W64, (a * b + c + d) / W64)
/-- A step for each word, with what is carried along. -/
def carryL (f : Nat → Int → Int × Int) : Nat → Nat → Int → List Int × Int
  | 0, _, c => ([], c)
  | n + 1, i, c => ((f i c).1 :: (carryL f n (i + 1) (f i c).2).1, (carryL f n (i + 1) (f i c).2).2)
theorem carryL_length (f : Nat → Int → Int × Int) : ∀ n i c, (carryL f n i c).1.length = n
  | 0, _, _ => rfl
  | n + 1, i, c => by simp [carryL, carryL_length f n]
/-- One more at the end. -/
theorem carryL_snoc (f : Nat → Int → Int × Int) : ∀ n i c, carryL f (n + 1) i c = ((carryL f n i c).1 ++ [(f (i + n) (carryL f n i c).2).1], (f (i + n) (carryL f n i c).2).2)
  | 0, i, c => by simp [carryL]
  | n + 1, i, c => by
    have h := carryL_snoc f n (i + 1) (f i c).2
    rw [carryL, h]
    have e : i + 1 + n = i + (n + 1) := by omega
    simp [carryL, e]
end Go.Proofs.Ytkkkbalefnileaa.Ex
/- Values of rows of digits: no program here. -/
namespace Go.Proofs.Ytkkkbalefnileaa.Ex
set_option linter.unusedVariables false

/-- The value of a row of digits, the lowest first. -/
def valB (B : Int) : List Int → Int
  | [] => 0
  | x :: l => x + B * valB B l
/-- All are digits. -/
def inB (B : Int) (l : List Int) : Prop := ∀ x ∈ l, 0 ≤ x ∧ x < B
theorem inB_cons {B x : Int} {l : List Int} : inB B (x :: l) ↔ (0 ≤ x ∧ x < B) ∧ inB B l := by simp [inB]
theorem inB_nil {B : Int} : inB B [] := fun _ h => by cases h
theorem inB_append {B : Int} {a b : List Int} : inB B (a ++ b) ↔ inB B a ∧ inB B b := by
  constructor
  · exact fun h => ⟨fun x hx => h x (List.mem_append_left _ hx), fun x hx => h x (List.mem_append_right _ hx)⟩
  · rintro ⟨h1, h2⟩ x hx
    rcases List.mem_append.1 hx with h | h
    · exact h1 x h
    · exact h2 x h
theorem inB_take {B : Int} {l : List Int} (h : inB B l) (n : Nat) : inB B (l.take n) := fun x hx => h x (List.mem_of_mem_take hx)
theorem inB_drop {B : Int} {l : List Int} (h : inB B l) (n : Nat) : inB B (l.drop n) := fun x hx => h x (List.mem_of_mem_drop hx)
theorem inB_zeros {B : Int} (hB : 0 < B) (n : Nat) : inB B (List.replicate n 0) := fun x hx => by rw [List.eq_of_mem_replicate hx]; exact ⟨Int.le_refl 0, hB⟩
theorem inB_getD {B : Int} (hB : 0 < B) {l : List Int} (h : inB B l) (i : Nat) : 0 ≤ l.getD i 0 ∧ l.getD i 0 < B := by
  rw [List.getD_eq_getElem?_getD]
  cases hx : l[i]? with
  | none => exact ⟨Int.le_refl 0, hB⟩
  | some x => exact h x (List.mem_of_getElem? hx)
theorem inB_set {B : Int} {l : List Int} (h : inB B l) (i : Nat) {x : Int} (hx : 0 ≤ x ∧ x < B) : inB B (l.set i x) := fun y hy => by
  rcases List.mem_or_eq_of_mem_set hy with h1 | h1
  · exact h y h1
  · rw [h1]; exact hx
theorem valB_append (B : Int) : ∀ a b : List Int, valB B (a ++ b) = valB B a + B ^ a.length * valB B b
  | [], b => by simp [valB]
  | x :: a, b => by
    show x + B * valB B (a ++ b) = x + B * valB B a + B ^ (a.length + 1) * valB B b
    rw [valB_append B a b, Int.mul_add, Int.pow_succ, Int.mul_comm (B ^ a.length) B, Int.mul_assoc, Int.add_assoc]
theorem valB_zeros (B : Int) : ∀ n, valB B (List.replicate n 0) = 0
  | 0 => rfl
  | n + 1 => by simp [List.replicate_succ, valB, valB_zeros B n]
theorem valB_nonneg {B : Int} (hB : 0 < B) : ∀ {l : List Int}, inB B l → 0 ≤ valB B l
  | [], _ => Int.le_refl 0
  | x :: l, h => by
    have h1 := inB_cons.1 h
    have h2 := valB_nonneg hB h1.2
    have h3 := Int.mul_nonneg (Int.le_of_lt hB) h2
    show 0 ≤ x + B * valB B l
    omega
theorem valB_lt {B : Int} (hB : 0 < B) : ∀ {l : List Int}, inB B l → valB B l < B ^ l.length
  | [], _ => by simp [valB]
  | x :: l, h => by
    have h1 := inB_cons.1 h
    have h2 := valB_lt hB h1.2
    have h3 : B * (valB B l + 1) ≤ B * B ^ l.length := Int.mul_le_mul_of_nonneg_left h2 (Int.le_of_lt hB)
    rw [Int.mul_add, Int.mul_one] at h3
    show x + B * valB B l < B ^ (l.length + 1)
    rw [Int.pow_succ, Int.mul_comm (B ^ l.length)]
    omega
theorem valB_inj {B : Int} (hB : 0 < B) : ∀ {a b : List Int}, inB B a → inB B b → a.length = b.length → valB B a = valB B b → a = b
  | [], [], _, _, _, _ => rfl
  | x :: a, y :: b, ha, hb, hl, hv => by
    have h1 := inB_cons.1 ha
    have h2 := inB_cons.1 hb
    have hv' : x + B * valB B a = y + B * valB B b := hv
    have e1 : (x + B * valB B a) % B = x := by rw [Int.add_mul_emod_self_left]; exact Int.emod_eq_of_lt h1.1.1 h1.1.2
    have e2 : (y + B * valB B b) % B = y := by rw [Int.add_mul_emod_self_left]; exact Int.emod_eq_of_lt h2.1.1 h2.1.2
    have e3 : x = y := by rw [← e1, hv', e2]
    subst e3
    have e4 : B * valB B a = B * valB B b := by omega
    have e5 : valB B a = valB B b := Int.eq_of_mul_eq_mul_left (by omega) e4
    rw [valB_inj hB h1.2 h2.2 (by simpa using hl) e5]
  | [], _ :: _, _, _, hl, _ => by simp at hl
  | _ :: _, [], _, _, hl, _ => by simp at hl
theorem valB_split (B : Int) (l : List Int) (n : Nat) (h : n ≤ l.length) : valB B l = valB B (l.take n) + B ^ n * valB B (l.drop n) := by
  have h1 := valB_append B (l.take n) (l.drop n)
  rw [List.take_append_drop, List.length_take, Nat.min_eq_left h] at h1
  exact h1
theorem pow_posB {B : Int} (hB : 0 < B) (n : Nat) : 0 < B ^ n := Int.pow_pos hB
theorem valB_take {B : Int} (hB : 0 < B) {l : List Int} (hl : inB B l) (n : Nat) (h : n ≤ l.length) : valB B (l.take n) = valB B l % B ^ n := by
  have h1 := valB_lt hB (inB_take hl n)
  rw [List.length_take, Nat.min_eq_left h] at h1
  rw [valB_split B l n h, Int.add_mul_emod_self_left]
  exact (Int.emod_eq_of_lt (valB_nonneg hB (inB_take hl n)) h1).symm
/-- A digit is set. -/
theorem valB_set (B : Int) : ∀ (l : List Int) (j : Nat) (x : Int), j < l.length → valB B (l.set j x) = valB B l + B ^ j * (x - l.getD j 0)
  | [], j, x, h => by simp at h
  | y :: l, 0, x, _ => by
    show x + B * valB B l = y + B * valB B l + B ^ 0 * (x - y)
    rw [Int.pow_zero, Int.one_mul]
    omega
  | y :: l, j + 1, x, h => by
    show y + B * valB B (l.set j x) = y + B * valB B l + B ^ (j + 1) * (x - l.getD j 0)
    rw [valB_set B l j x (by simpa using h), Int.mul_add, Int.pow_succ, Int.mul_comm (B ^ j) B, Int.mul_assoc]
    omega
theorem valB_take_succ (B : Int) (l : List Int) (i : Nat) (h : i < l.length) : valB B (l.take (i + 1)) = valB B (l.take i) + B ^ i * l.getD i 0 := by
  rw [List.take_succ_eq_append_getElem h, valB_append, List.length_take, Nat.min_eq_left (by omega)]
  simp [valB, List.getD_eq_getElem?_getD, List.getElem?_eq_getElem h]
/-- Two numbers of the form a + M b, a below M, are equal in both. -/
theorem div_unique {M a b a' b' : Int} (ha : 0 ≤ a) (ha' : a < M) (hb : 0 ≤ a') (hb' : a' < M) (h : a + M * b = a' + M * b') : a = a' ∧ b = b' := by
  have e1 : (a + M * b) % M = a := by rw [Int.add_mul_emod_self_left]; exact Int.emod_eq_of_lt ha ha'
  have e2 : (a' + M * b') % M = a' := by rw [Int.add_mul_emod_self_left]; exact Int.emod_eq_of_lt hb hb'
  have e3 : a = a' := by rw [← e1, h, e2]
  refine ⟨e3, ?_⟩
  subst e3
  exact Int.eq_of_mul_eq_mul_left (by omega) (by omega : M * b = M * b')
/-- The sum of n terms from i on, each times a power. -/
def sumB (B : Int) (t : Nat → Int) : Nat → Nat → Int
  | _, 0 => 0
  | i, n + 1 => t i + B * sumB B t (i + 1) n
theorem sumB_val (B : Int) (l : List Int) : ∀ n i, i + n = l.length → sumB B (fun j => l.getD j 0) i n = valB B (l.drop i)
  | 0, i, h => by rw [List.drop_of_length_le (by omega)]; rfl
  | n + 1, i, h => by
    have hi : i < l.length := by omega
    rw [List.drop_eq_getElem_cons hi]
    show l.getD i 0 + B * sumB B _ (i + 1) n = l[i] + B * valB B (l.drop (i + 1))
    rw [sumB_val B l n (i + 1) (by omega)]
    congr 1
    simp [List.getD_eq_getElem?_getD, List.getElem?_eq_getElem hi]
theorem sumB_add (B : Int) (t u : Nat → Int) : ∀ n i, sumB B (fun j => t j + u j) i n = sumB B t i n + sumB B u i n
  | 0, _ => rfl
  | n + 1, i => by
    show (t i + u i) + B * sumB B _ (i + 1) n = (t i + B * sumB B t (i + 1) n) + (u i + B * sumB B u (i + 1) n)
    rw [sumB_add B t u n (i + 1), Int.mul_add]
    omega
theorem sumB_smul (B : Int) (t : Nat → Int) (w : Int) : ∀ n i, sumB B (fun j => t j * w) i n = sumB B t i n * w
  | 0, _ => by simp [sumB]
  | n + 1, i => by
    show t i * w + B * sumB B _ (i + 1) n = (t i + B * sumB B t (i + 1) n) * w
    rw [sumB_smul B t w n (i + 1), Int.add_mul, Int.mul_assoc]
theorem sumB_all (B : Int) (l : List Int) : sumB B (fun j => l.getD j 0) 0 l.length = valB B l := by
  rw [sumB_val B l l.length 0 (by omega), List.drop_zero]
theorem getD_beyond (l : List Int) (i : Nat) (h : l.length ≤ i) : l.getD i 0 = 0 := by simp [List.getD_eq_getElem?_getD, List.getElem?_eq_none h]
theorem sumB_zero (B : Int) (t : Nat → Int) : ∀ n i, (∀ j, i ≤ j → j < i + n → t j = 0) → sumB B t i n = 0
  | 0, _, _ => rfl
  | n + 1, i, h => by
    show t i + B * sumB B t (i + 1) n = 0
    rw [h i (Nat.le_refl _) (by omega), sumB_zero B t n (i + 1) (fun j h1 h2 => h j (by omega) (by omega)), Int.mul_zero, Int.add_zero]
theorem sumB_app (B : Int) (t : Nat → Int) : ∀ n m i, sumB B t i (n + m) = sumB B t i n + B ^ n * sumB B t (i + n) m
  | 0, m, i => by simp [sumB]
  | n + 1, m, i => by
    rw [show n + 1 + m = (n + m) + 1 by omega]
    show t i + B * sumB B t (i + 1) (n + m) = t i + B * sumB B t (i + 1) n + B ^ (n + 1) * sumB B t (i + (n + 1)) m
    rw [sumB_app B t n m (i + 1), Int.mul_add, ← Int.mul_assoc, ← Int.pow_succ', show i + 1 + n = i + (n + 1) by omega]
    omega
/-- Beyond the end there is nothing. -/
theorem sumB_pad (B : Int) (l : List Int) (n : Nat) (h : l.length ≤ n) : sumB B (fun j => l.getD j 0) 0 n = valB B l := by
  obtain ⟨m, rfl⟩ : ∃ m, n = l.length + m := ⟨n - l.length, by omega⟩
  rw [sumB_app, sumB_all, sumB_zero B _ m _ (fun j h1 _ => getD_beyond l j (by omega)), Int.mul_zero, Int.add_zero]
/-- What a step for each word makes of what is carried: σ is 1, or -1 where it is borrowed. -/
theorem carryL_val (B : Int) (f : Nat → Int → Int × Int) (t : Nat → Int) (σ : Int) (I : Int → Prop) :
    ∀ n i c, I c → (∀ j, i ≤ j → j < i + n → ∀ c, I c → I (f j c).2 ∧ (0 ≤ (f j c).1 ∧ (f j c).1 < B) ∧ (f j c).1 + B * (σ * (f j c).2) = t j + σ * c) →
      I (carryL f n i c).2 ∧ inB B (carryL f n i c).1 ∧ valB B (carryL f n i c).1 + B ^ n * (σ * (carryL f n i c).2) = sumB B t i n + σ * c
  | 0, i, c, hc, _ => ⟨hc, inB_nil, by simp [carryL, valB, sumB]⟩
  | n + 1, i, c, hc, h => by
    obtain ⟨h1, h2, h3⟩ := h i (Nat.le_refl _) (by omega) c hc
    obtain ⟨k1, k2, k3⟩ := carryL_val B f t σ I n (i + 1) (f i c).2 h1 (fun j a b => h j (by omega) (by omega))
    refine ⟨k1, inB_cons.2 ⟨h2, k2⟩, ?_⟩
    show (f i c).1 + B * valB B (carryL f n (i + 1) (f i c).2).1 + B ^ (n + 1) * (σ * (carryL f n (i + 1) (f i c).2).2) = t i + B * sumB B t (i + 1) n + σ * c
    have e : B * (valB B (carryL f n (i + 1) (f i c).2).1 + B ^ n * (σ * (carryL f n (i + 1) (f i c).2).2)) = B * (sumB B t (i + 1) n + σ * (f i c).2) := by rw [k3]
    rw [Int.mul_add, Int.mul_add, ← Int.mul_assoc B (B ^ n), ← Int.pow_succ'] at e
    omega
end Go.Proofs.Ytkkkbalefnileaa.Ex
/- The values of what the functions on rows of words hand back: no program here. -/
namespace Go.Proofs.Ytkkkbalefnileaa.Ex
set_option linter.unusedVariables false

theorem W64_mul (a b : Int) (ha : isW a) (hb : isW b) : 0 ≤ a * b ∧ a * b ≤ W64 * W64 - 2 * W64 + 1 := by
  have h1 : a * b ≤ (W64 - 1) * (W64 - 1) := Int.mul_le_mul (by have := ha.2; omega) (by have := hb.2; omega) hb.1 (by decide)
  refine ⟨Int.mul_nonneg ha.1 hb.1, ?_⟩
  have h2 : (W64 - 1) * (W64 - 1) = W64 * W64 - 2 * W64 + 1 := by decide
  omega
theorem WW : W64 * W64 = 340282366920938463463374607431768211456 := by decide
theorem addS_ok {x y c : Int} (hx : isW x) (hy : isW y) (hc : 0 ≤ c ∧ c ≤ 1) : (0 ≤ (addS x y c).2 ∧ (addS x y c).2 ≤ 1) ∧ (0 ≤ (addS x y c).1 ∧ (addS x y c).1 < W64) ∧ (addS x y c).1 + W64 * (1 * (addS x y c).2) = (x + y) + 1 * c := by
  have h1 := hx.1
  have h2 := hx.2
  have h3 := hy.1
  have h4 := hy.2
  unfold addS
  simp only [W64_eq] at *
  omega
theorem subS_ok {x y c : Int} (hx : isW x) (hy : isW y) (hc : 0 ≤ c ∧ c ≤ 1) : (0 ≤ (subS x y c).2 ∧ (subS x y c).2 ≤ 1) ∧ (0 ≤ (subS x y c).1 ∧ (subS x y c).1 < W64) ∧ (subS x y c).1 + W64 * (-1 * (subS x y c).2) = (x + y * (-1)) + -1 * c := by
  have h1 := hx.1
  have h2 := hx.2
  have h3 := hy.1
  have h4 := hy.2
  unfold subS
  simp only [W64_eq] at *
  split <;> omega
theorem moreS_ok {a b c d : Int} (ha : isW a) (hb : isW b) (hc : isW c) (hd : isW d) : isW (moreS a b c d).2 ∧ (0 ≤ (moreS a b c d).1 ∧ (moreS a b c d).1 < W64) ∧ (moreS a b c d).1 + W64 * (moreS a b c d).2 = a * b + c + d := by
  obtain ⟨h1, h2⟩ := W64_mul a b ha hb
  rw [WW] at h2
  have h3 := hc.1
  have h4 := hc.2
  have h5 := hd.1
  have h6 := hd.2
  unfold moreS isW
  generalize a * b = p at *
  simp only [W64_eq] at *
  omega
theorem sub_val (x y : List Int) (c : Int) (hx : inW x) (hy : inW y) (hl : y.length = x.length) (hc : 0 ≤ c ∧ c ≤ 1) :
    let r := carryL (fun i c => subS (x.getD i 0) (y.getD i 0) c) x.length 0 c
    (0 ≤ r.2 ∧ r.2 ≤ 1) ∧ inB W64 r.1 ∧ valB W64 r.1 - W64 ^ x.length * r.2 = valB W64 x - valB W64 y - c := by
  have h := carryL_val W64 (fun i c => subS (x.getD i 0) (y.getD i 0) c) (fun i => x.getD i 0 + y.getD i 0 * (-1)) (-1) (fun c => 0 ≤ c ∧ c ≤ 1) x.length 0 c hc
    (fun j _ _ c hc => subS_ok (isW_get hx j) (isW_get hy j) hc)
  rw [sumB_add, sumB_smul, sumB_all, ← hl, sumB_all] at h
  rw [← hl]
  refine ⟨h.1, h.2.1, ?_⟩
  have h3 := h.2.2
  rw [Int.neg_mul, Int.one_mul, Int.mul_neg] at h3
  omega
theorem mul_val (x : List Int) (w c : Int) (hx : inW x) (hw : isW w) (hc : isW c) :
    let r := carryL (fun i c => moreS (x.getD i 0) w c 0) x.length 0 c
    isW r.2 ∧ inB W64 r.1 ∧ valB W64 r.1 + W64 ^ x.length * r.2 = valB W64 x * w + c := by
  have h := carryL_val W64 (fun i c => moreS (x.getD i 0) w c 0) (fun i => x.getD i 0 * w) 1 isW x.length 0 c hc
    (fun j _ _ c hc => by
      have h1 := moreS_ok (isW_get hx j) hw hc ⟨Int.le_refl 0, W64_pos⟩
      rw [Int.add_zero] at h1
      rw [Int.one_mul, Int.one_mul]
      exact h1)
  rw [sumB_smul, sumB_all, Int.one_mul, Int.one_mul] at h
  exact h
/-- -1, 0 or 1. -/
def cmpI (a b : Int) : Int := if a < b then -1 else if b < a then 1 else 0
end Go.Proofs.Ytkkkbalefnileaa.Ex
/- A byte as a word. -/
namespace Go.Proofs.Ytkkkbalefnileaa.Ex
theorem u8_u64 (x : Int) : IntKind.u64.wrap (IntKind.u8.wrap x) = x % 256 := by
  have h1 := Int.emod_nonneg x (show (256 : Int) ≠ 0 by decide)
  have h2 := Int.emod_lt_of_pos x (show (0 : Int) < 256 by decide)
  exact Int.emod_eq_of_lt h1 (by show x % 256 < 18446744073709551616; omega)
end Go.Proofs.Ytkkkbalefnileaa.Ex
-- PRINTED by print.py (a twelfth state) out of the translation. Not trusted: Lean checks it.
namespace Go.Proofs.Ytkkkbalefnileaa.Q
open Go.RowKit Go.Proofs.YtkkkbalefnileaaW.PrintWords Go.Proofs.YtkkkbalefnileaaW.PrintLast Go.Proofs.YtkkkbalefnileaaW.PrintMore
attribute [local go_sem] max2_int min2_int max_two min_two max_three min_three max_four min_four   -- for this text's walks alone
set_option linter.unusedVariables false
set_option linter.unusedSimpArgs false



def errW : Option Int → Value
  | none => .nilIface
  | some c => .iface 0 (.int .i64 c)
theorem errW_none : errW none = .nilIface := rfl
theorem errW_some (c : Int) : errW (some c) = .iface 0 (.int .i64 c) := rfl
theorem info33 : (Try.prog.info? 33).map (fun i => (i.zero, i.size, i.bytes)) = some (some (.int .u64 0), 1, 8) := by kernel_rfl
-- the values' own types
end Go.Proofs.Ytkkkbalefnileaa.Q
/- Contracts of the library's ContainsFunc over rows, and of words.few. -/
namespace Go.Proofs.Ytkkkbalefnileaa.Ex
open Go.RowKit Go.Proofs.YtkkkbalefnileaaW.PrintWords Go.Proofs.YtkkkbalefnileaaW.PrintLast Go.Proofs.YtkkkbalefnileaaW.PrintMore
set_option linter.unusedVariables false
set_option linter.unusedSimpArgs false

theorem few1 (A : Option Addr) (n c : Nat) (w : World) :
    Calls Try.prog 101 #[.slice A n c] w fun e w' => e = .returned (.bool (decide ((4096 : Int) < (n : Int)))) ∧ w = w' := by
  go_enter Try.func101, Try.ntmps101
  go_wp2
  go_ret
  exact ⟨rfl, rfl⟩
def words_few.f (l0 : List (List Int)) : Option Bool := some (l0.all fun x => decide (x.length ≤ 4096))
theorem all_take_succ (l : List (List Int)) (k : Nat) (h : k < l.length) : ((l.take (k + 1)).all fun x => decide (x.length ≤ 4096)) = (((l.take k).all fun x => decide (x.length ≤ 4096)) && decide (l[k].length ≤ 4096)) := by
  rw [List.take_succ_eq_append_getElem h, List.all_append, List.all_cons, List.all_nil, Bool.and_true]
theorem idxFew (A0 : Option Addr) (c0 : Nat) (l0 : List (List Int)) (w : World) (hr0 : Kd.C (Kd.slice 33 (Kd.int .u64)) w A0 l0.length l0) (hc0 : l0.length ≤ c0) :
    Calls Try.prog 106 #[.slice A0 l0.length c0, .func (.func 101) #[] #[]] w
      fun e w' => (∃ i : Int, e = .returned (.int .i64 i) ∧ decide (0 ≤ i) = !(l0.all fun x => decide (x.length ≤ 4096))) ∧ w = w' := by
  have HR := Aside0.mk hr0
  have hn : l0.length ≤ 9223372036854775807 := hr0.2.1
  clear hr0
  go_enter Try.func106, Try.ntmps106
  go_wp2
  go_loop [5, 8] (fun _ i => ∃ k : Nat, k ≤ l0.length ∧ i = .int .i64 k ∧ Aside0 (((l0.take k).all fun x => decide (x.length ≤ 4096)) = true)) (fun _ i => l0.length - (intOf i).toNat)
  case atStart => exact ⟨0, Nat.zero_le _, rfl, ⟨by simp⟩⟩
  case round =>
    obtain ⟨k, hk, rfl, HA⟩ := hrel
    by_cases hlt : k < l0.length
    · obtain ⟨ad, c, rfl, hcl, hK, hcell⟩ := Kd.C_get HR.out [] k (by omega) (by omega)
      obtain ⟨A1, c1, rfl, hl1, hC1⟩ := hK
      have hc1 := hcell 0 _ rfl
      simp only [Int.toNat_natCast] at hc1 hC1 hl1
      have e0 : k * (Kd.slice 33 (Kd.int .u64)).sz + 0 = k := by simp [Kd.slice]
      rw [e0] at hc1
      have HS := Aside0.mk (all_take_succ l0 k hlt)
      have hg : (l0[k]?.getD []) = l0[k] := by rw [List.getElem?_eq_getElem hlt]; rfl
      have hgd : l0.getD k [] = l0[k] := by rw [List.getD_eq_getElem?_getD, hg]
      rw [hgd] at hc1
      clear hcell hC1 hl1 hcl
      by_cases h4 : (4096 : Int) < (l0[k].length : Int)
      · have h4b : decide ((4096 : Int) < (l0[k].length : Int)) = true := decide_eq_true h4
        go_wp2_with (go_at_call 101; refine (few1 _ _ _ _).mono ?_; rintro e w' ⟨rfl, rfl⟩)
        go_ret
        refine ⟨⟨k, rfl, ?_⟩, rfl⟩
        have hf : (l0.all fun x => decide (x.length ≤ 4096)) = false := by
          rw [List.all_eq_false]
          exact ⟨l0[k], List.getElem_mem _, by simp; omega⟩
        rw [hf]
        exact decide_eq_true (by omega)
      · have h4b : decide ((4096 : Int) < (l0[k].length : Int)) = false := decide_eq_false h4
        go_wp2_with (go_at_call 101; refine (few1 _ _ _ _).mono ?_; rintro e w' ⟨rfl, rfl⟩)
        go_round
        case rel => exact ⟨k + 1, by omega, by go_num, ⟨by rw [HS.out, HA.out]; simp; omega⟩⟩
        case measure => simp [intOf]; omega
    · obtain rfl : k = l0.length := by omega
      go_wp2
      go_ret
      have h1 := HA.out
      rw [List.take_length] at h1
      exact ⟨⟨-1, rfl, by rw [h1]; rfl⟩, rfl⟩
theorem containsFew (A0 : Option Addr) (c0 : Nat) (l0 : List (List Int)) (w : World) (hr0 : Kd.C (Kd.slice 33 (Kd.int .u64)) w A0 l0.length l0) (hc0 : l0.length ≤ c0) :
    Calls Try.prog 100 #[.slice A0 l0.length c0, .func (.func 101) #[] #[]] w
      fun e w' => e = .returned (.bool (!(l0.all fun x => decide (x.length ≤ 4096)))) ∧ w = w' := by
  have HR := Aside0.mk hr0
  clear hr0
  go_enter Try.func100, Try.ntmps100
  go_wp2_with (go_at_call 106; refine (idxFew _ _ l0 _ HR.out hc0).mono ?_; rintro e w' ⟨⟨i, rfl, hi⟩, rfl⟩; have HI := Aside0.mk hi; clear hi)
  go_ret
  exact ⟨by rw [← HI.out]; rfl, rfl⟩
theorem words_few.calls (A0 : Option Addr) (c0 : Nat) (l0 : List (List Int)) (r : Bool) (w : World) (hr0 : Kd.C (Kd.slice 33 (Kd.int .u64)) w A0 l0.length l0) (hc0 : l0.length ≤ c0) (h : words_few.f l0 = some r) :
    Calls Try.prog 83 #[.slice A0 l0.length c0] w fun e w' => e = .returned (.bool r) ∧ Drawn0 w w' := by
  have HR := Aside0.mk hr0
  clear hr0
  have H : r = (l0.all fun x => decide (x.length ≤ 4096)) := (Option.some.inj h).symm
  clear h
  subst H
  go_enter Try.func83, Try.ntmps83
  go_wp2_with (go_at_call 100; refine (containsFew _ _ l0 _ HR.out hc0).mono ?_; rintro e w' ⟨rfl, rfl⟩)
  go_ret
  exact ⟨by simp, Drawn0.refl _⟩
end Go.Proofs.Ytkkkbalefnileaa.Ex
/- The loop over the words of a row that carries something along (words.carrying), at whatever step. -/
namespace Go.Proofs.Ytkkkbalefnileaa.Ex
open Go.RowKit Go.Proofs.YtkkkbalefnileaaW.PrintWords Go.Proofs.YtkkkbalefnileaaW.PrintLast Go.Proofs.YtkkkbalefnileaaW.PrintMore
set_option linter.unusedVariables false
set_option linter.unusedSimpArgs false

theorem iW : (Try.prog.info? 33).map (fun i => (i.zero, i.size, i.bytes)) = some (some (.int .u64 0), 1, 8) := by kernel_rfl
theorem two_cell0 (W : World) (x y : Value) (t : TypeId) : (W.alloc (.cells #[x, y] t)).cell? ⟨W.heap.size, 0, none⟩ = some x := by
  unfold World.cell?
  rw [heap_alloc_new]
  rfl
theorem two_cell1 (W : World) (x y : Value) (t : TypeId) : (W.alloc (.cells #[x, y] t)).cell? ⟨W.heap.size, 1, none⟩ = some y := by
  unfold World.cell?
  rw [heap_alloc_new]
  rfl
/-- What a step of the loop hands back. -/
def StepAt (g : FuncId) (lb : Array Value) (f : Nat → Int → Int × Int) (i : Nat) (c : Int) (w : World) : Prop :=
  ∀ W, Below w.heap.size w W → Calls Try.prog g (#[.int .i64 i, .int .u64 c] ++ lb) W fun e W' => e = .returned (.agg #[.int .u64 (f i c).1, .int .u64 (f i c).2]) ∧ Below W.heap.size W W'
set_option maxHeartbeats 1000000 in
set_option maxRecDepth 100000 in
theorem carrying (g : FuncId) (eg : ∀ (args : Array Value) (w : World), (callFunc g args).run Try.prog w = .ok (.enter g args) w) (lb : Array Value) (f : Nat → Int → Int × Int) (I : Int → Prop) (A0 : Option Addr) (c0 : Nat) (l0 : List Int) (a1 : Int) (w : World)
    (hl : l0.length ≤ 4096) (hI : I a1) (hs : ∀ i : Nat, i < l0.length → ∀ c, I c → I (f i c).2 ∧ StepAt g lb f i c w) :
    Calls Try.prog 92 #[.slice A0 l0.length c0, .int .u64 a1, .func (.func g) #[] lb] w
      fun e w' => ∃ v0_ : Value, e = .returned (.tuple #[v0_, .int .u64 (carryL f l0.length 0 a1).2]) ∧ Kd.R (Kd.int .u64) 33 w' w.heap.size (fun _ => True) v0_ (carryL f l0.length 0 a1).1 ∧ Below w.heap.size w w' := by
  have HS := Aside0.mk hs
  have HI := Aside0.mk hI
  clear hs hI
  have HB := Aside0.mk (Below.refl w.heap.size w)
  go_enter Try.func92, Try.ntmps92
  obtain ⟨i0, hi0, hz0, hz1, hz2⟩ := info_parts iW
  have HI0 := Aside0.mk hi0
  have HZ0 := Aside0.mk hz0
  have HZ1 := Aside0.mk hz1
  have HZ2 := Aside0.mk hz2
  clear hi0 hz0 hz1 hz2
  go_wp2_with (at_make; refine wpList_make_own _ rfl _ _ 22 rfl w.heap.size 33 i0 (.int .u64 0) 1 Try.underlying22 HI0.out HZ0.out HZ1.out .i64 .i64 _ l0.length rfl rfl rfl ?b2 ?b3 (Nat.le_refl _) ?_; (case b2 => rw [HZ2.out]; omega); (case b3 => unfold maxLen; omega); intro w1 ho1 hg1; have HO := Aside0.mk (Kd.R_of_own (enc := Value.int .u64) (h1 := fun _ => rfl) (xs := []) (ok := fun _ => True) ho1 (fun _ _ => trivial)); have HB1 := Aside0.mk (HB.out.grown hg1 (Nat.le_refl _) (fun _ h => by cases h)); clear ho1 hg1 HB)
  go_loopw [1, 8, 16] (fun c v i W => ∃ k : Nat, k ≤ l0.length ∧ i = .int .i64 k ∧ c = .int .u64 (carryL f k 0 a1).2 ∧ Aside0 (I (carryL f k 0 a1).2) ∧ Aside0 (Kd.R (Kd.int .u64) 33 W w.heap.size (fun _ => True) v (carryL f k 0 a1).1) ∧ Aside0 (Below w.heap.size w W)) (fun _ _ i _ => l0.length - (intOf i).toNat)
  case atStart => exact ⟨0, Nat.zero_le _, rfl, rfl, HI, HO, HB1⟩
  case round =>
    clear HO HB1 HI
    obtain ⟨k, hk, rfl, rfl, HI, HO, HB⟩ := hrel
    by_cases hlt : k < l0.length
    · have HSt := Aside0.mk (HS.out k hlt _ HI.out)
      have HSN := Aside0.mk (carryL_snoc f k 0 a1)
      go_wp2_with fail
      refine (HSt.out.2 wr HB.out).mono ?_
      rintro e w2 ⟨rfl, hb2⟩
      have HO2 := Aside0.mk (Kd.R_below HO.out hb2)
      have HB2 := Aside0.mk (below_step HB.out hb2)
      clear HO HB hb2
      go_wp2
      have hu : u8.ownBlock = none ∨ u8.ownBlock ≠ some w2.heap.size := by
        cases hb : u8.ownBlock with
        | none => exact .inl rfl
        | some b => exact .inr (fun he => by have h1 := Kd.R_lt HO2.out b hb; cases he; omega)
      have HU := Aside0.mk hu
      clear hu
      obtain ⟨lo, hlo⟩ : ∃ q, q = (f k (carryL f k 0 a1).2).1 := ⟨_, rfl⟩
      obtain ⟨hi, hhi⟩ : ∃ q, q = (f k (carryL f k 0 a1).2).2 := ⟨_, rfl⟩
      rw [← hlo, ← hhi]
      have HLO := Aside0.mk hlo
      have HHI := Aside0.mk hhi
      clear hlo hhi
      have hc0 : (w2.alloc (.cells #[.int .u64 lo, .int .u64 hi] 97)).cell? ⟨w2.heap.size, 0, none⟩ = some (.int .u64 lo) := two_cell0 _ _ _ _
      have hc1 : (w2.alloc (.cells #[.int .u64 lo, .int .u64 hi] 97)).cell? ⟨w2.heap.size, 1, none⟩ = some (.int .u64 hi) := two_cell1 _ _ _ _
      have hsz : w2.heap.size < (w2.alloc (.cells #[.int .u64 lo, .int .u64 hi] 97)).heap.size := by simp
      have HO3 := Aside0.mk (Kd.R_alloc HO2.out (.cells #[.int .u64 lo, .int .u64 hi] 97))
      have HB3 := Aside0.mk (HB2.out.alloc (below_size HB2.out) (.cells #[.int .u64 lo, .int .u64 hi] 97))
      obtain ⟨b2, hb2⟩ : ∃ b, b = w2.heap.size := ⟨_, rfl⟩
      rw [← hb2] at HU hc0 hc1 hsz ⊢
      clear HO2 HB2
      generalize (w2.alloc (.cells #[.int .u64 lo, .int .u64 hi] 97)) = W3 at hc0 hc1 hsz HO3 HB3 ⊢
      clear hb2
      have HL := Aside0.mk (carryL_length f k 0 a1)
      have hne : some b2 ≠ u8.ownBlock := by
        rcases HU.out with h | h
        · rw [h]; exact fun h => by cases h
        · exact fun e => h e.symm
      have HNE := Aside0.mk hne
      clear hne HU
      go_region_law ((refine Kd.R_append_step (Kd.int .u64) (w0 := w) (W := W3.drew) w.heap.size rfl (.tmp 23) (.tmp 26) 22 33 (.int .u64 0) 8 rfl Try.underlying22 iW rfl (Nat.le_refl 1) (Nat.le_add_left 1 7) u8 (carryL f k 0 a1).1 lo [.int .u64 lo] (fun _ => True) (fun _ => False) rfl rfl rfl (fun _ h => h.elim) (fun _ _ => trivial) (Kd.R_drew HO3.out) (below_drew HB3.out) (below_size (below_drew HB3.out)) ?hlen ?_); (case hlen => rw [HL.out]; omega); intro v1 w4 ho hb hg hat; have hc4 := hg.cell (a := ⟨b2, 1, none⟩) hc1 HNE.out; have HO4 := Aside0.mk ho; have HB4 := Aside0.mk hb; clear ho hb hg hat hc0 hc1 HO3 HB3)
      all_goals
        go_wp2
        go_roundw
        case rel => exact ⟨k + 1, by omega, by go_num, by rw [HSN.out, HHI.out, Nat.zero_add], ⟨by rw [HSN.out, Nat.zero_add]; exact HSt.out.1⟩, ⟨by rw [HSN.out, Nat.zero_add, ← HLO.out]; exact HO4.out⟩, HB4⟩
        case measure => simp [intOf]; omega
    · obtain rfl : k = l0.length := by omega
      go_wp2
      go_ret2
      exact ⟨_, rfl, HO.out, HB.out⟩
end Go.Proofs.Ytkkkbalefnileaa.Ex
/- The law's few: a copy of a row's head; equal. -/
namespace Go.Proofs.Ytkkkbalefnileaa.Ex
open Go.RowKit Go.Proofs.YtkkkbalefnileaaW.PrintWords Go.Proofs.YtkkkbalefnileaaW.PrintLast Go.Proofs.YtkkkbalefnileaaW.PrintMore
set_option linter.unusedVariables false
set_option linter.unusedSimpArgs false

def Halt1 (p : Prop) : Prop := p
theorem halt1 {p : Prop} (h : Halt1 p) : p := h
def reckonerlaw02_few.f (l0 : List Int) (a1 : Int) : Option (List Int) := if 0 ≤ a1 ∧ l0.length ≤ 17592186044415 then some (l0.take a1.toNat) else none
set_option maxHeartbeats 1000000 in
theorem reckonerlaw02_few.calls (A0 : Option Addr) (c0 : Nat) (l0 : List Int) (a1 : Int) (r : List Int) (w : World) (hr0 : Kd.C (Kd.int .u64) w A0 l0.length l0) (hc0 : l0.length ≤ c0) (h : reckonerlaw02_few.f l0 a1 = some r) :
  Calls Try.prog 10 #[.slice A0 l0.length c0, .int .i64 a1] w fun e w' => ∃ v0_ : Value, e = .returned (v0_) ∧ Kd.R (Kd.int .u64) 33 w' w.heap.size (fun _ => True) v0_ r ∧ Below w.heap.size w w' := by
 unfold reckonerlaw02_few.f at h
 by_cases hw : 0 ≤ a1 ∧ l0.length ≤ 17592186044415
 ·rw [if_pos hw] at h
  cases h
  obtain ⟨hw0, hw1⟩ := hw
  by_cases hlt : a1 < (l0.length : Int)
  ·obtain ⟨m, rfl⟩ := Int.eq_ofNat_of_zero_le hw0
   have e0 : ((m : Nat) : Int).toNat = m := rfl
   rw [e0]
   have hmn : min (l0.length : Int) ((m : Nat) : Int) = ((m : Nat) : Int) := by omega
   have HC := Aside0.mk (show Kd.C (Kd.int .u64) w A0 m (l0.take m) from (Kd.C_of_reads (h1 := fun _ => rfl) ((Kd.reads_of_C (enc := Value.int .u64) (d := (0 : Int)) (h1 := fun _ => rfl) hr0).take_ m (by omega))))
   have HL := Aside0.mk (show (l0.take m).length ≤ 17592186044415 by first | exact hw1 | (simp; omega))
   have HB := Aside0.mk (Below.refl w.heap.size w)
   clear hr0
   go_enter Try.func10, Try.ntmps10
   go_wp2_with ((with_reducible refine gate_builtin (b := .append) (xs := #[.tmp 6, .tmp 12]) rfl ?_); at_builtin; refine halt1 ?_)
   unfold Halt1
   refine Kd.R_append_rows (Kd.int .u64) (w0 := w) w.heap.size rfl (.tmp 6) (.tmp 12) 23 33 (.int .u64 0) 8 rfl Try.underlying23 iW rfl (by decide) (by omega) (.slice none 0 0) ([] : List Int) (l0.take m) _ _ _ (fun _ => True) (fun _ => False) rfl rfl ?aO ?aR (fun _ _ h => h) (fun _ h => h.elim) ?aF ?aB ?aS ?aL ?_
   case aR => exact HC.out
   case aB => exact HB.out
   case aF => exact (fun _ _ => trivial)
   case aO => exact Kd.R_nil _ _ _ _ (fun _ => True)
   case aS => exact Nat.le_refl _
   case aL => have := HL.out; first | (simp at this ⊢; omega) | (simp; omega)
   intro v1 w1 ho hb hg hat
   have HO := Aside0.mk ho
   have HB1 := Aside0.mk hb
   clear ho hb hg hat
   go_wp2
   go_ret
   exact ⟨_, rfl, by have := HO.out; rw [List.nil_append] at this; exact this, HB1.out⟩
  ·rw [List.take_of_length_le (by omega)]
   have hmn : min (l0.length : Int) a1 = (l0.length : Int) := by omega
   have HC := Aside0.mk (show Kd.C (Kd.int .u64) w A0 l0.length (l0) from hr0)
   have HL := Aside0.mk (show (l0).length ≤ 17592186044415 by first | exact hw1 | (simp; omega))
   have HB := Aside0.mk (Below.refl w.heap.size w)
   clear hr0
   go_enter Try.func10, Try.ntmps10
   go_wp2_with ((with_reducible refine gate_builtin (b := .append) (xs := #[.tmp 6, .tmp 12]) rfl ?_); at_builtin; refine halt1 ?_)
   unfold Halt1
   refine Kd.R_append_rows (Kd.int .u64) (w0 := w) w.heap.size rfl (.tmp 6) (.tmp 12) 23 33 (.int .u64 0) 8 rfl Try.underlying23 iW rfl (by decide) (by omega) (.slice none 0 0) ([] : List Int) (l0) _ _ _ (fun _ => True) (fun _ => False) rfl rfl ?aO ?aR (fun _ _ h => h) (fun _ h => h.elim) ?aF ?aB ?aS ?aL ?_
   case aR => exact HC.out
   case aB => exact HB.out
   case aF => exact (fun _ _ => trivial)
   case aO => exact Kd.R_nil _ _ _ _ (fun _ => True)
   case aS => exact Nat.le_refl _
   case aL => have := HL.out; first | (simp at this ⊢; omega) | (simp; omega)
   intro v1 w1 ho hb hg hat
   have HO := Aside0.mk ho
   have HB1 := Aside0.mk hb
   clear ho hb hg hat
   go_wp2
   go_ret
   exact ⟨_, rfl, by have := HO.out; rw [List.nil_append] at this; exact this, HB1.out⟩
 ·rw [if_neg hw] at h; cases h
end Go.Proofs.Ytkkkbalefnileaa.Ex
/-
  DERIVED: THE SHELF's CONTRACTS AT THIS DUMP, IN PLAIN WORDS (tools/lay-plain.mjs out of 'TryShelf.lean', which tools/lay-shelf.mjs wrote): THE SAME DECLARATIONS UNDER THE SAME NAMES: 'import', 'namespace', 'open', 'def', 'theorem' AND NOTHING ELSE: no command of the shelf's: FOR A HAND-IN. Each laying: the table of numbers ('.._ren') and one theorem, a field a fact of the dump's own or the kernel's comparison; each contract: ONE APPLICATION.
-/
namespace Go.Proofs
open Go.Shelf
def Try.lays125_ren : Go.Shelf.Ren := ⟨fun | 125 => 43 | 128 => 78 | 129 => 79 | n => n, fun | 46 => 30 | 3 => 3 | 51 => 82 | 53 => 33 | 4 => 4 | 5 => 5 | 9 => 9 | n => n, fun | n => n⟩
theorem Try.lays125 : Go.Proofs.Lays.n125 Try.prog Try.lays125_ren := {
  mixed := by kernel_rfl
  f125 := Try.func43.trans (congrArg some (by kernel_rfl))
  f128 := Try.func78.trans (congrArg some (by kernel_rfl))
  f129 := Try.func79.trans (congrArg some (by kernel_rfl))
  t3 := Try.underlying3
  a3 := Try.isAgg3
  z3 := Try.sizeOf3
  v3 := Try.zeroValue3
  t4 := Try.underlying4
  a4 := Try.isAgg4
  z4 := Try.sizeOf4
  v4 := Try.zeroValue4
  t5 := Try.underlying5
  a5 := Try.isAgg5
  z5 := Try.sizeOf5
  v5 := Try.zeroValue5
  t9 := Try.underlying9
  a9 := Try.isAgg9
  z9 := Try.sizeOf9
  v9 := Try.zeroValue9
  t46 := Try.underlying30
  a46 := Try.isAgg30
  z46 := Try.sizeOf30
  v46 := Try.zeroValue30
  t51 := Try.underlying82
  a51 := Try.isAgg82
  z51 := Try.sizeOf82
  v51 := Try.zeroValue82
  t53 := Try.underlying33
  a53 := Try.isAgg33
  z53 := Try.sizeOf33
  v53 := Try.zeroValue33 }
/-- bits.Len: "Len returns the minimum number of bits required to represent x; the result is 0 for x == 0.": IT RETURNS 'Lib.bitLen x'; the world is as it was. (A uint has 64 bits in the model.) ITS CALLEE bits.Len64 IS MET BY ITS OWN CONTRACT OFF THE SHELF (lay that first). (LAID: no walk: one application.) -/
theorem Try.bits_Len (x : Int) (w : World) (h0 : 0 ≤ x) (h1 : x ≤ 18446744073709551615) :
    Calls Try.prog 43 #[.int .u64 x] w fun e w' => e = .returned (.int .i64 (Lib.bitLen x.toNat)) ∧ w' = w := Any.bits_Len Try.lays125 x w h0 h1
def Try.lays134_ren : Go.Shelf.Ren := ⟨fun | 134 => 77 | 129 => 79 | n => n, fun | 53 => 33 | 3 => 3 | 4 => 4 | 46 => 30 | 5 => 5 | 9 => 9 | n => n, fun | n => n⟩
theorem Try.lays134 : Go.Proofs.Lays.n134 Try.prog Try.lays134_ren := {
  mixed := by kernel_rfl
  f129 := Try.func79.trans (congrArg some (by kernel_rfl))
  f134 := Try.func77.trans (congrArg some (by kernel_rfl))
  t3 := Try.underlying3
  a3 := Try.isAgg3
  z3 := Try.sizeOf3
  v3 := Try.zeroValue3
  t4 := Try.underlying4
  a4 := Try.isAgg4
  z4 := Try.sizeOf4
  v4 := Try.zeroValue4
  t5 := Try.underlying5
  a5 := Try.isAgg5
  z5 := Try.sizeOf5
  v5 := Try.zeroValue5
  t9 := Try.underlying9
  a9 := Try.isAgg9
  z9 := Try.sizeOf9
  v9 := Try.zeroValue9
  t46 := Try.underlying30
  a46 := Try.isAgg30
  z46 := Try.sizeOf30
  v46 := Try.zeroValue30
  t53 := Try.underlying33
  a53 := Try.isAgg33
  z53 := Try.sizeOf33
  v53 := Try.zeroValue33 }
/-- bits.LeadingZeros64: "LeadingZeros64 returns the number of leading zero bits in x; the result is 64 for x == 0.": IT RETURNS '64 - Lib.bitLen x'; the world is as it was. ITS CALLEE bits.Len64 IS MET BY ITS OWN CONTRACT OFF THE SHELF (lay that first): entered in place it sends the kernel out of memory. (LAID: no walk: one application.) -/
theorem Try.bits_LeadingZeros64 (x : Int) (w : World) (h0 : 0 ≤ x) (h1 : x ≤ 18446744073709551615) :
    Calls Try.prog 77 #[.int .u64 x] w fun e w' => e = .returned (.int .i64 (64 - (Lib.bitLen x.toNat : Int))) ∧ w' = w := Any.bits_LeadingZeros64 Try.lays134 x w h0 h1
def Try.lays264_ren : Go.Shelf.Ren := ⟨fun | 264 => 90 | n => n, fun | 53 => 33 | 46 => 30 | n => n, fun | n => n⟩
theorem Try.lays264 : Go.Proofs.Lays.n264 Try.prog Try.lays264_ren := {
  mixed := by kernel_rfl
  f264 := Try.func90.trans (congrArg some (by kernel_rfl))
  t46 := Try.underlying30
  a46 := Try.isAgg30
  z46 := Try.sizeOf30
  v46 := Try.zeroValue30
  t53 := Try.underlying33
  a53 := Try.isAgg33
  z53 := Try.sizeOf33
  v53 := Try.zeroValue33 }
open Go.RowKit Go.Lib in
theorem Try.bits_Mul64 (x y : Nat) (hx : x < 18446744073709551616) (hy : y < 18446744073709551616) (w : World) :
    Calls Try.prog 90 #[.int .u64 x, .int .u64 y] w fun e w' => e = .returned (.tuple #[.int .u64 ((x * y / 18446744073709551616 : Nat) : Int), .int .u64 ((x * y % 18446744073709551616 : Nat) : Int)]) ∧ w' = w := Any.bits_Mul64 Try.lays264 x y hx hy w
end Go.Proofs
/- Contracts of the library's counting functions, in the form of the kit's print. -/
namespace Go.Proofs.Ytkkkbalefnileaa.Ex
open Go.RowKit Go.Proofs.YtkkkbalefnileaaW.PrintWords Go.Proofs.YtkkkbalefnileaaW.PrintLast Go.Proofs.YtkkkbalefnileaaW.PrintMore
set_option linter.unusedVariables false

def bits_LeadingZeros64.f (a0 : Int) : Option Int := if 0 ≤ a0 ∧ a0 ≤ 18446744073709551615 then some (64 - (Lib.bitLen a0.toNat : Int)) else none
theorem bits_LeadingZeros64.calls (a0 : Int) (r : Int) (w : World)  (h : bits_LeadingZeros64.f a0 = some r) :
    Calls Try.prog 77 #[.int .u64 a0] w fun e w' => e = .returned (.int .i64 r) ∧ Drawn0 w w' := by
  unfold bits_LeadingZeros64.f at h
  by_cases hw : 0 ≤ a0 ∧ a0 ≤ 18446744073709551615
  · rw [if_pos hw] at h
    cases h
    refine (Try.bits_LeadingZeros64 a0 w hw.1 hw.2).mono ?_
    rintro e w' ⟨rfl, rfl⟩
    exact ⟨rfl, Drawn0.refl _⟩
  · rw [if_neg hw] at h; cases h
end Go.Proofs.Ytkkkbalefnileaa.Ex
-- PRINTED by print.py (a twelfth state) out of the translation. Not trusted: Lean checks it.
namespace Go.Proofs.Ytkkkbalefnileaa.D
open Go.RowKit Go.Proofs.YtkkkbalefnileaaW.PrintWords Go.Proofs.YtkkkbalefnileaaW.PrintLast Go.Proofs.YtkkkbalefnileaaW.PrintMore
attribute [local go_sem] max2_int min2_int max_two min_two max_three min_three max_four min_four   -- for this text's walks alone
open Go.Proofs.Ytkkkbalefnileaa.Ex
set_option linter.unusedVariables false
set_option linter.unusedSimpArgs false



def errW : Option Int → Value
  | none => .nilIface
  | some c => .iface 0 (.int .i64 c)
theorem errW_none : errW none = .nilIface := rfl
theorem errW_some (c : Int) : errW (some c) = .iface 0 (.int .i64 c) := rfl
-- the values' own types

end Go.Proofs.Ytkkkbalefnileaa.D
-- PRINTED by print.py (a twelfth state) out of the translation. Not trusted: Lean checks it.
namespace Go.Proofs.Ytkkkbalefnileaa.D
open Go.RowKit Go.Proofs.YtkkkbalefnileaaW.PrintWords Go.Proofs.YtkkkbalefnileaaW.PrintLast Go.Proofs.YtkkkbalefnileaaW.PrintMore
attribute [local go_sem] max2_int min2_int max_two min_two max_three min_three max_four min_four   -- for this text's walks alone
open Go.Proofs.Ytkkkbalefnileaa.Ex
set_option linter.unusedVariables false
set_option linter.unusedSimpArgs false

-- OURS: function 77 (bits_LeadingZeros64)

/-! ### bits_Div64: function 85 -/
mutual
def bits_Div64.j2 : Nat → Int → Int → Int → Int → Int → Int → Int → Int → Option (Int × Int)
  | 0, _, _, _, _, _, _, _, _ => none
  | k + 1, x2, x8, x9, x10, x11, x13, x14, x15 => if x9 = 0 then (none) else (bits_Div64.l1 k x2 x8 x9 x10 x14 x15 (IntKind.u64.wrap ((IntKind.u64.wrap ((IntKind.u64.wrap ((IntKind.u64.wrap (x11 * 4294967296)) + x13)) - (IntKind.u64.wrap (x15 * x2)))) - (IntKind.u64.wrap ((IntKind.u64.wrap (Int.tdiv (IntKind.u64.wrap ((IntKind.u64.wrap ((IntKind.u64.wrap (x11 * 4294967296)) + x13)) - (IntKind.u64.wrap (x15 * x2)))) x9)) * x9)))) (IntKind.u64.wrap ((IntKind.u64.wrap ((IntKind.u64.wrap (x11 * 4294967296)) + x13)) - (IntKind.u64.wrap (x15 * x2)))) (IntKind.u64.wrap (Int.tdiv (IntKind.u64.wrap ((IntKind.u64.wrap ((IntKind.u64.wrap (x11 * 4294967296)) + x13)) - (IntKind.u64.wrap (x15 * x2)))) x9)))
def bits_Div64.l1 : Nat → Int → Int → Int → Int → Int → Int → Int → Int → Int → Option (Int × Int)
  | 0, _, _, _, _, _, _, _, _, _ => none
  | k + 1, x2, x8, x9, x10, x14, x15, x16, x17, x18 => if x18 ≥ 4294967296 then (bits_Div64.j4 k x2 x8 x9 x10 x14 x15 x16 x17 x18 true) else (bits_Div64.j4 k x2 x8 x9 x10 x14 x15 x16 x17 x18 (decide ((IntKind.u64.wrap (x18 * x10)) > (IntKind.u64.wrap ((IntKind.u64.wrap (4294967296 * x16)) + x14)))))
def bits_Div64.j4 : Nat → Int → Int → Int → Int → Int → Int → Int → Int → Int → Bool → Option (Int × Int)
  | 0, _, _, _, _, _, _, _, _, _, _ => none
  | k + 1, x2, x8, x9, x10, x14, x15, x16, x17, x18, x113 => if x113 = true then (if (IntKind.u64.wrap (x16 + x9)) ≥ 4294967296 then (if 0 ≤ x8 then (some (IntKind.u64.wrap ((IntKind.u64.wrap (x15 * 4294967296)) + (IntKind.u64.wrap (x18 - 1))), shr .u64 (IntKind.u64.wrap ((IntKind.u64.wrap ((IntKind.u64.wrap (x17 * 4294967296)) + x14)) - (IntKind.u64.wrap ((IntKind.u64.wrap (x18 - 1)) * x2)))) x8)) else (none)) else (bits_Div64.l1 k x2 x8 x9 x10 x14 x15 (IntKind.u64.wrap (x16 + x9)) x17 (IntKind.u64.wrap (x18 - 1)))) else (if 0 ≤ x8 then (some (IntKind.u64.wrap ((IntKind.u64.wrap (x15 * 4294967296)) + x18), shr .u64 (IntKind.u64.wrap ((IntKind.u64.wrap ((IntKind.u64.wrap (x17 * 4294967296)) + x14)) - (IntKind.u64.wrap (x18 * x2)))) x8)) else (none))
def bits_Div64.l0 : Nat → Int → Int → Int → Int → Int → Int → Int → Int → Int → Option (Int × Int)
  | 0, _, _, _, _, _, _, _, _, _ => none
  | k + 1, x2, x8, x9, x10, x11, x13, x14, x15, x16 => if x15 ≥ 4294967296 then (bits_Div64.j1 k x2 x8 x9 x10 x11 x13 x14 x15 x16 true) else (bits_Div64.j1 k x2 x8 x9 x10 x11 x13 x14 x15 x16 (decide ((IntKind.u64.wrap (x15 * x10)) > (IntKind.u64.wrap ((IntKind.u64.wrap (4294967296 * x16)) + x13)))))
def bits_Div64.j1 : Nat → Int → Int → Int → Int → Int → Int → Int → Int → Int → Bool → Option (Int × Int)
  | 0, _, _, _, _, _, _, _, _, _, _ => none
  | k + 1, x2, x8, x9, x10, x11, x13, x14, x15, x16, x78 => if x78 = true then (if (IntKind.u64.wrap (x16 + x9)) ≥ 4294967296 then (bits_Div64.j2 k x2 x8 x9 x10 x11 x13 x14 (IntKind.u64.wrap (x15 - 1))) else (bits_Div64.l0 k x2 x8 x9 x10 x11 x13 x14 (IntKind.u64.wrap (x15 - 1)) (IntKind.u64.wrap (x16 + x9)))) else (bits_Div64.j2 k x2 x8 x9 x10 x11 x13 x14 x15)
end
def bits_Div64.f (k : Nat) (a0 : Int) (a1 : Int) (a2 : Int) : Option (Int × Int) := if a2 = 0 then (none) else (if a2 ≤ a0 then (none) else (if a0 = 0 then (some (IntKind.u64.wrap (Int.tdiv a1 a2), Int.tmod a1 a2)) else ((bits_LeadingZeros64.f a2).bind fun t101 => (if 0 ≤ (IntKind.u64.wrap (t101)) then (if 0 ≤ (IntKind.u64.wrap (64 - (IntKind.u64.wrap (t101)))) then (if ((shl .u64 a2 (IntKind.u64.wrap (t101))) / 4294967296) = 0 then (none) else (bits_Div64.l0 k (shl .u64 a2 (IntKind.u64.wrap (t101))) (IntKind.u64.wrap (t101)) ((shl .u64 a2 (IntKind.u64.wrap (t101))) / 4294967296) (Go.bits .and .u64 (shl .u64 a2 (IntKind.u64.wrap (t101))) 4294967295) (Go.bits .or .u64 (shl .u64 a0 (IntKind.u64.wrap (t101))) (shr .u64 a1 (IntKind.u64.wrap (64 - (IntKind.u64.wrap (t101)))))) ((shl .u64 a1 (IntKind.u64.wrap (t101))) / 4294967296) (Go.bits .and .u64 (shl .u64 a1 (IntKind.u64.wrap (t101))) 4294967295) (IntKind.u64.wrap (Int.tdiv (Go.bits .or .u64 (shl .u64 a0 (IntKind.u64.wrap (t101))) (shr .u64 a1 (IntKind.u64.wrap (64 - (IntKind.u64.wrap (t101)))))) ((shl .u64 a2 (IntKind.u64.wrap (t101))) / 4294967296))) (IntKind.u64.wrap ((Go.bits .or .u64 (shl .u64 a0 (IntKind.u64.wrap (t101))) (shr .u64 a1 (IntKind.u64.wrap (64 - (IntKind.u64.wrap (t101)))))) - (IntKind.u64.wrap ((IntKind.u64.wrap (Int.tdiv (Go.bits .or .u64 (shl .u64 a0 (IntKind.u64.wrap (t101))) (shr .u64 a1 (IntKind.u64.wrap (64 - (IntKind.u64.wrap (t101)))))) ((shl .u64 a2 (IntKind.u64.wrap (t101))) / 4294967296))) * ((shl .u64 a2 (IntKind.u64.wrap (t101))) / 4294967296))))))) else (none)) else (none)))))
set_option maxHeartbeats 8000000 in
set_option maxRecDepth 100000 in
theorem bits_Div64.calls (k : Nat) (a0 : Int) (a1 : Int) (a2 : Int) (r1 : Int) (r2 : Int) (w : World) (h : bits_Div64.f k a0 a1 a2 = some (r1, r2)) :
  Calls Try.prog 85 #[.int .u64 a0, .int .u64 a1, .int .u64 a2] w fun e w' => e = .returned (.tuple #[.int .u64 r1, .int .u64 r2]) ∧ Drawn0 w w' := by
 have H : (if a2 = 0 then (none) else (if a2 ≤ a0 then (none) else (if a0 = 0 then (some (IntKind.u64.wrap (Int.tdiv a1 a2), Int.tmod a1 a2)) else ((bits_LeadingZeros64.f a2).bind fun t101 => (if 0 ≤ (IntKind.u64.wrap (t101)) then (if 0 ≤ (IntKind.u64.wrap (64 - (IntKind.u64.wrap (t101)))) then (if ((shl .u64 a2 (IntKind.u64.wrap (t101))) / 4294967296) = 0 then (none) else (bits_Div64.l0 k (shl .u64 a2 (IntKind.u64.wrap (t101))) (IntKind.u64.wrap (t101)) ((shl .u64 a2 (IntKind.u64.wrap (t101))) / 4294967296) (Go.bits .and .u64 (shl .u64 a2 (IntKind.u64.wrap (t101))) 4294967295) (Go.bits .or .u64 (shl .u64 a0 (IntKind.u64.wrap (t101))) (shr .u64 a1 (IntKind.u64.wrap (64 - (IntKind.u64.wrap (t101)))))) ((shl .u64 a1 (IntKind.u64.wrap (t101))) / 4294967296) (Go.bits .and .u64 (shl .u64 a1 (IntKind.u64.wrap (t101))) 4294967295) (IntKind.u64.wrap (Int.tdiv (Go.bits .or .u64 (shl .u64 a0 (IntKind.u64.wrap (t101))) (shr .u64 a1 (IntKind.u64.wrap (64 - (IntKind.u64.wrap (t101)))))) ((shl .u64 a2 (IntKind.u64.wrap (t101))) / 4294967296))) (IntKind.u64.wrap ((Go.bits .or .u64 (shl .u64 a0 (IntKind.u64.wrap (t101))) (shr .u64 a1 (IntKind.u64.wrap (64 - (IntKind.u64.wrap (t101)))))) - (IntKind.u64.wrap ((IntKind.u64.wrap (Int.tdiv (Go.bits .or .u64 (shl .u64 a0 (IntKind.u64.wrap (t101))) (shr .u64 a1 (IntKind.u64.wrap (64 - (IntKind.u64.wrap (t101)))))) ((shl .u64 a2 (IntKind.u64.wrap (t101))) / 4294967296))) * ((shl .u64 a2 (IntKind.u64.wrap (t101))) / 4294967296))))))) else (none)) else (none)))))) = some (r1, r2) := h
 clear h
 by_cases c4 : a2 = 0
 ·rw [if_pos c4] at H
  exact absurd H (by simp)
 ·rw [if_neg c4] at H
  have c4b0 : (a2 == 0) = false := beq_eq_false_iff_ne.mpr c4
  have c4b1 : (a2 != 0) = true := bne_iff_ne.mpr c4
  by_cases c5 : a2 ≤ a0
  ·rw [if_pos c5] at H
   exact absurd H (by simp)
  ·rw [if_neg c5] at H
   have c5b0 : decide (a2 ≤ a0) = false := decide_eq_false c5
   clear c5
   by_cases c6 : a0 = 0
   ·rw [if_pos c6] at H
    have c6b0 : (a0 == 0) = true := beq_iff_eq.mpr c6
    have c6b1 : (a0 != 0) = false := bne_eq_false_iff_eq.mpr c6
    clear c6
    simp only [Option.some.injEq, Prod.mk.injEq] at H
    obtain ⟨rfl, rfl⟩ := H
    go_enter Try.func85, Try.ntmps85
    try simp only [List.append]
    go_wp2
    repeat (go_quiet (fail); try go_wp2)
    go_ret2
    exact ⟨by first | rfl | (simp; done) | (simp [*]; done), by repeat (first | exact Drawn0.refl _ | apply Drawn0.step)⟩
   ·rw [if_neg c6] at H
    have c6b0 : (a0 == 0) = false := beq_eq_false_iff_ne.mpr c6
    have c6b1 : (a0 != 0) = true := bne_iff_ne.mpr c6
    replace H := Option.bind_eq_some_iff.mp H
    obtain ⟨t101, A70, H⟩ := H
    replace H : (if 0 ≤ (IntKind.u64.wrap (t101)) then (if 0 ≤ (IntKind.u64.wrap (64 - (IntKind.u64.wrap (t101)))) then (if ((shl .u64 a2 (IntKind.u64.wrap (t101))) / 4294967296) = 0 then (none) else (bits_Div64.l0 k (shl .u64 a2 (IntKind.u64.wrap (t101))) (IntKind.u64.wrap (t101)) ((shl .u64 a2 (IntKind.u64.wrap (t101))) / 4294967296) (Go.bits .and .u64 (shl .u64 a2 (IntKind.u64.wrap (t101))) 4294967295) (Go.bits .or .u64 (shl .u64 a0 (IntKind.u64.wrap (t101))) (shr .u64 a1 (IntKind.u64.wrap (64 - (IntKind.u64.wrap (t101)))))) ((shl .u64 a1 (IntKind.u64.wrap (t101))) / 4294967296) (Go.bits .and .u64 (shl .u64 a1 (IntKind.u64.wrap (t101))) 4294967295) (IntKind.u64.wrap (Int.tdiv (Go.bits .or .u64 (shl .u64 a0 (IntKind.u64.wrap (t101))) (shr .u64 a1 (IntKind.u64.wrap (64 - (IntKind.u64.wrap (t101)))))) ((shl .u64 a2 (IntKind.u64.wrap (t101))) / 4294967296))) (IntKind.u64.wrap ((Go.bits .or .u64 (shl .u64 a0 (IntKind.u64.wrap (t101))) (shr .u64 a1 (IntKind.u64.wrap (64 - (IntKind.u64.wrap (t101)))))) - (IntKind.u64.wrap ((IntKind.u64.wrap (Int.tdiv (Go.bits .or .u64 (shl .u64 a0 (IntKind.u64.wrap (t101))) (shr .u64 a1 (IntKind.u64.wrap (64 - (IntKind.u64.wrap (t101)))))) ((shl .u64 a2 (IntKind.u64.wrap (t101))) / 4294967296))) * ((shl .u64 a2 (IntKind.u64.wrap (t101))) / 4294967296))))))) else (none)) else (none)) = some (r1, r2) := H
    have A7 := Aside0.mk A70
    clear A70
    obtain ⟨ji8, hji8⟩ : ∃ j_ : Int, (IntKind.u64.wrap (t101)) = j_ := ⟨_, rfl⟩
    replace H : (if 0 ≤ (ji8) then (if 0 ≤ (IntKind.u64.wrap (64 - (ji8))) then (if ((shl .u64 a2 (ji8)) / 4294967296) = 0 then (none) else (bits_Div64.l0 k (shl .u64 a2 (ji8)) ji8 ((shl .u64 a2 (ji8)) / 4294967296) (Go.bits .and .u64 (shl .u64 a2 (ji8)) 4294967295) (Go.bits .or .u64 (shl .u64 a0 (ji8)) (shr .u64 a1 (IntKind.u64.wrap (64 - (ji8))))) ((shl .u64 a1 (ji8)) / 4294967296) (Go.bits .and .u64 (shl .u64 a1 (ji8)) 4294967295) (IntKind.u64.wrap (Int.tdiv (Go.bits .or .u64 (shl .u64 a0 (ji8)) (shr .u64 a1 (IntKind.u64.wrap (64 - (ji8))))) ((shl .u64 a2 (ji8)) / 4294967296))) (IntKind.u64.wrap ((Go.bits .or .u64 (shl .u64 a0 (ji8)) (shr .u64 a1 (IntKind.u64.wrap (64 - (ji8))))) - (IntKind.u64.wrap ((IntKind.u64.wrap (Int.tdiv (Go.bits .or .u64 (shl .u64 a0 (ji8)) (shr .u64 a1 (IntKind.u64.wrap (64 - (ji8))))) ((shl .u64 a2 (ji8)) / 4294967296))) * ((shl .u64 a2 (ji8)) / 4294967296))))))) else (none)) else (none)) = some (r1, r2) := by first | (rw [hji8] at H; exact H) | (simp only [hji8] at H ⊢; exact H)
    (try rw [hji8] at A7)
    by_cases c9 : 0 ≤ (ji8)
    ·rw [if_pos c9] at H
     have c9b0 := eq_true c9
     have c9b1 : decide (0 ≤ (ji8)) = true := decide_eq_true c9
     clear c9
     obtain ⟨ji10, hji10⟩ : ∃ j_ : Int, (shl .u64 a2 (ji8)) = j_ := ⟨_, rfl⟩
     replace H : (if 0 ≤ (IntKind.u64.wrap (64 - (ji8))) then (if ((ji10) / 4294967296) = 0 then (none) else (bits_Div64.l0 k ji10 ji8 ((ji10) / 4294967296) (Go.bits .and .u64 (ji10) 4294967295) (Go.bits .or .u64 (shl .u64 a0 (ji8)) (shr .u64 a1 (IntKind.u64.wrap (64 - (ji8))))) ((shl .u64 a1 (ji8)) / 4294967296) (Go.bits .and .u64 (shl .u64 a1 (ji8)) 4294967295) (IntKind.u64.wrap (Int.tdiv (Go.bits .or .u64 (shl .u64 a0 (ji8)) (shr .u64 a1 (IntKind.u64.wrap (64 - (ji8))))) ((ji10) / 4294967296))) (IntKind.u64.wrap ((Go.bits .or .u64 (shl .u64 a0 (ji8)) (shr .u64 a1 (IntKind.u64.wrap (64 - (ji8))))) - (IntKind.u64.wrap ((IntKind.u64.wrap (Int.tdiv (Go.bits .or .u64 (shl .u64 a0 (ji8)) (shr .u64 a1 (IntKind.u64.wrap (64 - (ji8))))) ((ji10) / 4294967296))) * ((ji10) / 4294967296))))))) else (none)) = some (r1, r2) := by first | (rw [hji10] at H; exact H) | (simp only [hji10] at H ⊢; exact H)
     (try rw [hji10] at A7)
     have hji10_ : (IntKind.u64.wrap (a2 * 2 ^ min (ji8).toNat 64)) = ji10 := hji10
     have hji10z : (ji8) ≤ 64 → (IntKind.u64.wrap (a2 * 2 ^ (ji8).toNat)) = ji10 := shl_small hji10
     have c11b0 := eq_true (of_decide_eq_true (by first | (with_reducible assumption) | assumption) : 0 ≤ (ji8))
     obtain ⟨ji12, hji12⟩ : ∃ j_ : Int, (shl .u64 a0 (ji8)) = j_ := ⟨_, rfl⟩
     replace H : (if 0 ≤ (IntKind.u64.wrap (64 - (ji8))) then (if ((ji10) / 4294967296) = 0 then (none) else (bits_Div64.l0 k ji10 ji8 ((ji10) / 4294967296) (Go.bits .and .u64 (ji10) 4294967295) (Go.bits .or .u64 (ji12) (shr .u64 a1 (IntKind.u64.wrap (64 - (ji8))))) ((shl .u64 a1 (ji8)) / 4294967296) (Go.bits .and .u64 (shl .u64 a1 (ji8)) 4294967295) (IntKind.u64.wrap (Int.tdiv (Go.bits .or .u64 (ji12) (shr .u64 a1 (IntKind.u64.wrap (64 - (ji8))))) ((ji10) / 4294967296))) (IntKind.u64.wrap ((Go.bits .or .u64 (ji12) (shr .u64 a1 (IntKind.u64.wrap (64 - (ji8))))) - (IntKind.u64.wrap ((IntKind.u64.wrap (Int.tdiv (Go.bits .or .u64 (ji12) (shr .u64 a1 (IntKind.u64.wrap (64 - (ji8))))) ((ji10) / 4294967296))) * ((ji10) / 4294967296))))))) else (none)) = some (r1, r2) := by first | (rw [hji12] at H; exact H) | (simp only [hji12] at H ⊢; exact H)
     (try rw [hji12] at A7)
     have hji12_ : (IntKind.u64.wrap (a0 * 2 ^ min (ji8).toNat 64)) = ji12 := hji12
     have hji12z : (ji8) ≤ 64 → (IntKind.u64.wrap (a0 * 2 ^ (ji8).toNat)) = ji12 := shl_small hji12
     obtain ⟨ji13, hji13⟩ : ∃ j_ : Int, (IntKind.u64.wrap (64 - (ji8))) = j_ := ⟨_, rfl⟩
     replace H : (if 0 ≤ (ji13) then (if ((ji10) / 4294967296) = 0 then (none) else (bits_Div64.l0 k ji10 ji8 ((ji10) / 4294967296) (Go.bits .and .u64 (ji10) 4294967295) (Go.bits .or .u64 (ji12) (shr .u64 a1 (ji13))) ((shl .u64 a1 (ji8)) / 4294967296) (Go.bits .and .u64 (shl .u64 a1 (ji8)) 4294967295) (IntKind.u64.wrap (Int.tdiv (Go.bits .or .u64 (ji12) (shr .u64 a1 (ji13))) ((ji10) / 4294967296))) (IntKind.u64.wrap ((Go.bits .or .u64 (ji12) (shr .u64 a1 (ji13))) - (IntKind.u64.wrap ((IntKind.u64.wrap (Int.tdiv (Go.bits .or .u64 (ji12) (shr .u64 a1 (ji13))) ((ji10) / 4294967296))) * ((ji10) / 4294967296))))))) else (none)) = some (r1, r2) := by first | (rw [hji13] at H; exact H) | (simp only [hji13] at H ⊢; exact H)
     (try rw [hji13] at A7)
     by_cases c14 : 0 ≤ (ji13)
     ·rw [if_pos c14] at H
      have c14b0 := eq_true c14
      have c14b1 : decide (0 ≤ (ji13)) = true := decide_eq_true c14
      clear c14
      obtain ⟨ji15, hji15⟩ : ∃ j_ : Int, (shr .u64 a1 (ji13)) = j_ := ⟨_, rfl⟩
      replace H : (if ((ji10) / 4294967296) = 0 then (none) else (bits_Div64.l0 k ji10 ji8 ((ji10) / 4294967296) (Go.bits .and .u64 (ji10) 4294967295) (Go.bits .or .u64 (ji12) (ji15)) ((shl .u64 a1 (ji8)) / 4294967296) (Go.bits .and .u64 (shl .u64 a1 (ji8)) 4294967295) (IntKind.u64.wrap (Int.tdiv (Go.bits .or .u64 (ji12) (ji15)) ((ji10) / 4294967296))) (IntKind.u64.wrap ((Go.bits .or .u64 (ji12) (ji15)) - (IntKind.u64.wrap ((IntKind.u64.wrap (Int.tdiv (Go.bits .or .u64 (ji12) (ji15)) ((ji10) / 4294967296))) * ((ji10) / 4294967296))))))) = some (r1, r2) := by first | (rw [hji15] at H; exact H) | (simp only [hji15] at H ⊢; exact H)
      (try rw [hji15] at A7)
      have hji15_ : (a1 / 2 ^ min (ji13).toNat 64) = ji15 := hji15
      have hji15z : (ji13) ≤ 64 → (a1 / 2 ^ (ji13).toNat) = ji15 := shr_small hji15
      have c16b0 := eq_true (of_decide_eq_true (by first | (with_reducible assumption) | assumption) : 0 ≤ (ji8))
      obtain ⟨ji17, hji17⟩ : ∃ j_ : Int, (shl .u64 a1 (ji8)) = j_ := ⟨_, rfl⟩
      replace H : (if ((ji10) / 4294967296) = 0 then (none) else (bits_Div64.l0 k ji10 ji8 ((ji10) / 4294967296) (Go.bits .and .u64 (ji10) 4294967295) (Go.bits .or .u64 (ji12) (ji15)) ((ji17) / 4294967296) (Go.bits .and .u64 (ji17) 4294967295) (IntKind.u64.wrap (Int.tdiv (Go.bits .or .u64 (ji12) (ji15)) ((ji10) / 4294967296))) (IntKind.u64.wrap ((Go.bits .or .u64 (ji12) (ji15)) - (IntKind.u64.wrap ((IntKind.u64.wrap (Int.tdiv (Go.bits .or .u64 (ji12) (ji15)) ((ji10) / 4294967296))) * ((ji10) / 4294967296))))))) = some (r1, r2) := by first | (rw [hji17] at H; exact H) | (simp only [hji17] at H ⊢; exact H)
      (try rw [hji17] at A7)
      have hji17_ : (IntKind.u64.wrap (a1 * 2 ^ min (ji8).toNat 64)) = ji17 := hji17
      have hji17z : (ji8) ≤ 64 → (IntKind.u64.wrap (a1 * 2 ^ (ji8).toNat)) = ji17 := shl_small hji17
      by_cases c18 : ((ji10) / 4294967296) = 0
      ·rw [if_pos c18] at H
       exact absurd H (by simp)
      ·rw [if_neg c18] at H
       have c18b0 : (((ji10) / 4294967296) == 0) = false := beq_eq_false_iff_ne.mpr c18
       have c18b1 : (((ji10) / 4294967296) != 0) = true := bne_iff_ne.mpr c18
       have HC19 := Aside0.mk H
       clear H
       go_enter Try.func85, Try.ntmps85
       try simp only [List.append]
       go_upto_block 0 with (first | (go_at_call 77; (with_reducible refine (bits_LeadingZeros64.calls a2 t101 _ A7.out).mono ?_); rintro e w' ⟨rfl, ⟨nd, rfl⟩⟩; (try first | exact ⟨rfl, _, World.drewN_drewN _ _ _⟩ | exact ⟨rfl, _, Eq.trans (World.drewN_drewN _ _ _) (congrArg (World.drewN _) (Nat.add_assoc _ _ _))⟩)))
       repeat (go_quiet (first | (go_at_call 77; (with_reducible refine (bits_LeadingZeros64.calls a2 t101 _ A7.out).mono ?_); rintro e w' ⟨rfl, ⟨nd, rfl⟩⟩; (try first | exact ⟨rfl, _, World.drewN_drewN _ _ _⟩ | exact ⟨rfl, _, Eq.trans (World.drewN_drewN _ _ _) (congrArg (World.drewN _) (Nat.add_assoc _ _ _))⟩))); go_upto_block 0 with (first | (go_at_call 77; (with_reducible refine (bits_LeadingZeros64.calls a2 t101 _ A7.out).mono ?_); rintro e w' ⟨rfl, ⟨nd, rfl⟩⟩; (try first | exact ⟨rfl, _, World.drewN_drewN _ _ _⟩ | exact ⟨rfl, _, Eq.trans (World.drewN_drewN _ _ _) (congrArg (World.drewN _) (Nat.add_assoc _ _ _))⟩))))
       (try simp only [Act.put, List.setIfInBounds_toArray, List.set_cons_zero, List.set_cons_succ])
       go_cut [15] (fun v15 wc => ∃ (kq : Nat) (x15_18 : Int), v15 = .int .u64 x15_18 ∧ Aside0 (bits_Div64.j2 kq ji10 ji8 ((ji10) / 4294967296) (Go.bits .and .u64 (ji10) 4294967295) (Go.bits .or .u64 (ji12) (ji15)) ((ji17) / 4294967296) (Go.bits .and .u64 (ji17) 4294967295) x15_18 = some (r1, r2)) ∧ Aside0 (kq ≤ k) ∧ Drawn0 w wc)
       case first =>
        have H := HC19.out
        clear HC19
        have H' := Aside0.mk H
        clear H
        go_wp2
        repeat (go_quiet (fail); try go_wp2)
        go_loopg [15, 16] k (fun kq v15 v16 w' => ∃ (x15_1 : Int) (x16_1 : Int), v15 = .int .u64 x15_1 ∧ v16 = .int .u64 x16_1 ∧ Aside0 (bits_Div64.l0 kq ji10 ji8 ((ji10) / 4294967296) (Go.bits .and .u64 (ji10) 4294967295) (Go.bits .or .u64 (ji12) (ji15)) ((ji17) / 4294967296) (Go.bits .and .u64 (ji17) 4294967295) x15_1 x16_1 = some (r1, r2)) ∧ Aside0 (kq ≤ k) ∧ Drawn0 w w')
        case atStart => exact ⟨(IntKind.u64.wrap (Int.tdiv (Go.bits .or .u64 (ji12) (ji15)) ((ji10) / 4294967296))), (IntKind.u64.wrap ((Go.bits .or .u64 (ji12) (ji15)) - (IntKind.u64.wrap ((IntKind.u64.wrap (Int.tdiv (Go.bits .or .u64 (ji12) (ji15)) ((ji10) / 4294967296))) * ((ji10) / 4294967296))))), (by first | rfl | (simp; done) | (simp only [← hji10, ← hji12, ← hji15] <;> (first | rfl | simp)) | (simp [*]; done)), (by first | rfl | (simp; done) | (simp only [← hji10, ← hji12, ← hji15] <;> (first | rfl | simp)) | (simp [*]; done)), H', ⟨Nat.le_refl _⟩, by repeat (first | exact Drawn0.refl _ | apply Drawn0.step)⟩
        case round =>
         clear H'
         try clear c1
         try clear p2
         try clear c4
         try clear c4b0
         try clear c4b1
         try clear c5
         try clear c5b0
         try clear c6
         try clear c6b0
         try clear c6b1
         try clear c8
         try clear c9
         try clear c9b0
         try clear c9b1
         try clear c11
         try clear c11b0
         try clear c14
         try clear c14b0
         try clear c14b1
         try clear c16
         try clear c16b0
         try clear c18
         try clear c18b0
         try clear c18b1
         obtain ⟨x15_1, x16_1, rfl, rfl, HA, HK1, ⟨m1, rfl⟩⟩ := hrel
         cases gk with
         | zero => exact absurd HA.out (by simp [bits_Div64.l0])
         | succ k1 =>
          have H := HA.out
          clear HA
          simp only [bits_Div64.l0] at H
          have HC20 := Aside0.mk H
          clear H
          go_upto_region 17 with (fail)
          repeat (go_quiet (fail); go_upto_region 17 with (fail))
          go_cut [78] (fun v78 wc => ∃ (kq : Nat) (x78_19 : Bool), v78 = .bool x78_19 ∧ Aside0 (bits_Div64.j1 kq ji10 ji8 ((ji10) / 4294967296) (Go.bits .and .u64 (ji10) 4294967295) (Go.bits .or .u64 (ji12) (ji15)) ((ji17) / 4294967296) (Go.bits .and .u64 (ji17) 4294967295) x15_1 x16_1 x78_19 = some (r1, r2)) ∧ Aside0 (kq ≤ k1) ∧ Drawn0 w wc)
          case first =>
           have H := HC20.out
           clear HC20
           by_cases c21 : x15_1 ≥ 4294967296
           ·rw [if_pos c21] at H
            have c21b0 : decide (4294967296 ≤ x15_1) = true := decide_eq_true c21
            clear c21
            (first | rw [c21b0] | (simp only [i64_w, i32_w]; rw [c21b0]) | skip)
            have H' := Aside0.mk H
            clear H
            go_wp2
            repeat (go_quiet (fail); try go_wp2)
            go_meet
            case rel => exact ⟨_, (true), (by first | rfl | (simp; done) | (simp [*]; done)), H', ⟨by have := HK1.out; first | omega | exact Nat.le_refl _⟩, by repeat (first | exact Drawn0.refl _ | apply Drawn0.step)⟩
           ·rw [if_neg c21] at H
            have c21b0 : decide (4294967296 ≤ x15_1) = false := decide_eq_false c21
            clear c21
            (first | rw [c21b0] | (simp only [i64_w, i32_w]; rw [c21b0]) | skip)
            have H' := Aside0.mk H
            clear H
            go_wp2
            repeat (go_quiet (fail); try go_wp2)
            go_meet
            case rel => exact ⟨_, (decide ((IntKind.u64.wrap (x15_1 * (Go.bits .and .u64 (ji10) 4294967295))) > (IntKind.u64.wrap ((IntKind.u64.wrap (4294967296 * x16_1)) + ((ji17) / 4294967296))))), (by first | rfl | (simp; done) | (simp only [← hji10, ← hji17] <;> (first | rfl | simp)) | (simp [*]; done)), H', ⟨by have := HK1.out; first | omega | exact Nat.le_refl _⟩, by repeat (first | exact Drawn0.refl _ | apply Drawn0.step)⟩
          case rest =>
           clear HC20
           try clear c1
           try clear c2
           try clear p2
           try clear c4
           try clear c4b0
           try clear c4b1
           try clear c5
           try clear c5b0
           try clear c6
           try clear c6b0
           try clear c6b1
           try clear c8
           try clear c9
           try clear c9b0
           try clear c9b1
           try clear c11
           try clear c11b0
           try clear c14
           try clear c14b0
           try clear c14b1
           try clear c16
           try clear c16b0
           try clear c18
           try clear c18b0
           try clear c18b1
           try clear c21
           try clear c21b0
           try clear p2
           obtain ⟨kq, x78_19, rfl, HA, HJ19, ⟨mc19, rfl⟩⟩ := hcut
           cases kq with
           | zero => exact absurd HA.out (by simp [bits_Div64.j1])
           | succ kj19 =>
            have H := HA.out
            clear HA
            simp only [bits_Div64.j1] at H
            by_cases c22 : x78_19 = true
            ·subst c22
             have H1 : (if (IntKind.u64.wrap (x16_1 + ((ji10) / 4294967296))) ≥ 4294967296 then (bits_Div64.j2 kj19 ji10 ji8 ((ji10) / 4294967296) (Go.bits .and .u64 (ji10) 4294967295) (Go.bits .or .u64 (ji12) (ji15)) ((ji17) / 4294967296) (Go.bits .and .u64 (ji17) 4294967295) (IntKind.u64.wrap (x15_1 - 1))) else (bits_Div64.l0 kj19 ji10 ji8 ((ji10) / 4294967296) (Go.bits .and .u64 (ji10) 4294967295) (Go.bits .or .u64 (ji12) (ji15)) ((ji17) / 4294967296) (Go.bits .and .u64 (ji17) 4294967295) (IntKind.u64.wrap (x15_1 - 1)) (IntKind.u64.wrap (x16_1 + ((ji10) / 4294967296))))) = some (r1, r2) := by rw [if_pos rfl] at H; exact H
             clear H
             have H := H1
             clear H1
             by_cases c23 : (IntKind.u64.wrap (x16_1 + ((ji10) / 4294967296))) ≥ 4294967296
             ·rw [if_pos c23] at H
              have c23b0 : decide (4294967296 ≤ (IntKind.u64.wrap (x16_1 + ((ji10) / 4294967296)))) = true := decide_eq_true c23
              clear c23
              have H' := Aside0.mk H
              clear H
              go_wp2
              repeat (go_quiet (fail); try go_wp2)
              go_meet
              case rel => exact ⟨_, (IntKind.u64.wrap (x15_1 - 1)), (by first | rfl | (simp; done) | (simp [*]; done)), H', ⟨by have := HK1.out; have := HJ19.out; first | omega | exact Nat.le_refl _⟩, by repeat (first | exact Drawn0.refl _ | apply Drawn0.step)⟩
             ·rw [if_neg c23] at H
              have c23b0 : decide (4294967296 ≤ (IntKind.u64.wrap (x16_1 + ((ji10) / 4294967296)))) = false := decide_eq_false c23
              clear c23
              have H' := Aside0.mk H
              clear H
              go_wp2
              repeat (go_quiet (fail); try go_wp2)
              go_roundg kj19
              case measure => have := HK1.out; have := HJ19.out; omega
              case rel => exact ⟨(IntKind.u64.wrap (x15_1 - 1)), (IntKind.u64.wrap (x16_1 + ((ji10) / 4294967296))), (by first | rfl | (simp; done) | (simp [*]; done)), (by first | rfl | (simp; done) | (simp only [← hji10] <;> (first | rfl | simp)) | (simp [*]; done)), H', ⟨by have := HK1.out; have := HJ19.out; omega⟩, by repeat (first | exact Drawn0.refl _ | apply Drawn0.step)⟩
            ·replace c22 := Bool.eq_false_iff.mpr c22
             subst c22
             have H1 : (bits_Div64.j2 kj19 ji10 ji8 ((ji10) / 4294967296) (Go.bits .and .u64 (ji10) 4294967295) (Go.bits .or .u64 (ji12) (ji15)) ((ji17) / 4294967296) (Go.bits .and .u64 (ji17) 4294967295) x15_1) = some (r1, r2) := by rw [if_neg (show ¬ (false = true) by decide)] at H; exact H
             clear H
             have H := H1
             clear H1
             have H' := Aside0.mk H
             clear H
             go_wp2
             repeat (go_quiet (fail); try go_wp2)
             go_meet
             case rel => exact ⟨_, (x15_1), (by first | rfl | (simp; done) | (simp [*]; done)), H', ⟨by have := HK1.out; have := HJ19.out; first | omega | exact Nat.le_refl _⟩, by repeat (first | exact Drawn0.refl _ | apply Drawn0.step)⟩
       case rest =>
        clear HC19
        try clear c1
        try clear c2
        try clear p2
        try clear c4
        try clear c4b0
        try clear c4b1
        try clear c5
        try clear c5b0
        try clear c6
        try clear c6b0
        try clear c6b1
        try clear c8
        try clear c9
        try clear c9b0
        try clear c9b1
        try clear c11
        try clear c11b0
        try clear c14
        try clear c14b0
        try clear c14b1
        try clear c16
        try clear c16b0
        try clear c18
        try clear c18b0
        try clear c18b1
        try clear c19
        try clear c21
        try clear c21b0
        try clear c22
        try clear c23
        try clear c23b0
        try clear p2
        obtain ⟨kq, x15_18, rfl, HA, HJ18, ⟨mc18, rfl⟩⟩ := hcut
        cases kq with
        | zero => exact absurd HA.out (by simp [bits_Div64.j2])
        | succ kj18 =>
         have H := HA.out
         clear HA
         simp only [bits_Div64.j2] at H
         by_cases c24 : ((ji10) / 4294967296) = 0
         ·rw [if_pos c24] at H
          exact absurd H (by simp)
         ·rw [if_neg c24] at H
          have c24b0 : (((ji10) / 4294967296) == 0) = false := beq_eq_false_iff_ne.mpr c24
          have c24b1 : (((ji10) / 4294967296) != 0) = true := bne_iff_ne.mpr c24
          have H' := Aside0.mk H
          clear H
          go_wp2
          repeat (go_quiet (fail); try go_wp2)
          go_loopg [16, 18] kj18 (fun kq v16 v18 w' => ∃ (x16_2 : Int) (x18_2 : Int), v16 = .int .u64 x16_2 ∧ v18 = .int .u64 x18_2 ∧ Aside0 (bits_Div64.l1 kq ji10 ji8 ((ji10) / 4294967296) (Go.bits .and .u64 (ji10) 4294967295) (Go.bits .and .u64 (ji17) 4294967295) x15_18 x16_2 (IntKind.u64.wrap ((IntKind.u64.wrap ((IntKind.u64.wrap ((Go.bits .or .u64 (ji12) (ji15)) * 4294967296)) + ((ji17) / 4294967296))) - (IntKind.u64.wrap (x15_18 * ji10)))) x18_2 = some (r1, r2)) ∧ Aside0 (kq ≤ kj18) ∧ Drawn0 w w')
          case atStart => exact ⟨(IntKind.u64.wrap ((IntKind.u64.wrap ((IntKind.u64.wrap ((IntKind.u64.wrap ((Go.bits .or .u64 (ji12) (ji15)) * 4294967296)) + ((ji17) / 4294967296))) - (IntKind.u64.wrap (x15_18 * ji10)))) - (IntKind.u64.wrap ((IntKind.u64.wrap (Int.tdiv (IntKind.u64.wrap ((IntKind.u64.wrap ((IntKind.u64.wrap ((Go.bits .or .u64 (ji12) (ji15)) * 4294967296)) + ((ji17) / 4294967296))) - (IntKind.u64.wrap (x15_18 * ji10)))) ((ji10) / 4294967296))) * ((ji10) / 4294967296))))), (IntKind.u64.wrap (Int.tdiv (IntKind.u64.wrap ((IntKind.u64.wrap ((IntKind.u64.wrap ((Go.bits .or .u64 (ji12) (ji15)) * 4294967296)) + ((ji17) / 4294967296))) - (IntKind.u64.wrap (x15_18 * ji10)))) ((ji10) / 4294967296))), (by first | rfl | (simp; done) | (simp only [← hji10, ← hji12, ← hji15, ← hji17] <;> (first | rfl | simp)) | (simp [*]; done)), (by first | rfl | (simp; done) | (simp only [← hji10, ← hji12, ← hji15, ← hji17] <;> (first | rfl | simp)) | (simp [*]; done)), H', ⟨Nat.le_refl _⟩, by repeat (first | exact Drawn0.refl _ | apply Drawn0.step)⟩
          case round =>
           clear H'
           try clear c1
           try clear c2
           try clear p2
           try clear c4
           try clear c4b0
           try clear c4b1
           try clear c5
           try clear c5b0
           try clear c6
           try clear c6b0
           try clear c6b1
           try clear c8
           try clear c9
           try clear c9b0
           try clear c9b1
           try clear c11
           try clear c11b0
           try clear c14
           try clear c14b0
           try clear c14b1
           try clear c16
           try clear c16b0
           try clear c18
           try clear c18b0
           try clear c18b1
           try clear c19
           try clear c21
           try clear c21b0
           try clear c22
           try clear c23
           try clear c23b0
           try clear c24
           try clear c24b0
           try clear c24b1
           try clear p2
           obtain ⟨x16_2, x18_2, rfl, rfl, HA, HK2, ⟨m2, rfl⟩⟩ := hrel
           cases gk with
           | zero => exact absurd HA.out (by simp [bits_Div64.l1])
           | succ k2 =>
            have H := HA.out
            clear HA
            simp only [bits_Div64.l1] at H
            have HC25 := Aside0.mk H
            clear H
            go_upto_region 24 with (fail)
            repeat (go_quiet (fail); go_upto_region 24 with (fail))
            go_cut [113] (fun v113 wc => ∃ (kq : Nat) (x113_24 : Bool), v113 = .bool x113_24 ∧ Aside0 (bits_Div64.j4 kq ji10 ji8 ((ji10) / 4294967296) (Go.bits .and .u64 (ji10) 4294967295) (Go.bits .and .u64 (ji17) 4294967295) x15_18 x16_2 (IntKind.u64.wrap ((IntKind.u64.wrap ((IntKind.u64.wrap ((Go.bits .or .u64 (ji12) (ji15)) * 4294967296)) + ((ji17) / 4294967296))) - (IntKind.u64.wrap (x15_18 * ji10)))) x18_2 x113_24 = some (r1, r2)) ∧ Aside0 (kq ≤ k2) ∧ Drawn0 w wc)
            case first =>
             have H := HC25.out
             clear HC25
             by_cases c26 : x18_2 ≥ 4294967296
             ·rw [if_pos c26] at H
              have c26b0 : decide (4294967296 ≤ x18_2) = true := decide_eq_true c26
              clear c26
              (first | rw [c26b0] | (simp only [i64_w, i32_w]; rw [c26b0]) | skip)
              have H' := Aside0.mk H
              clear H
              go_wp2
              repeat (go_quiet (fail); try go_wp2)
              go_meet
              case rel => exact ⟨_, (true), (by first | rfl | (simp; done) | (simp [*]; done)), H', ⟨by have := HJ18.out; have := HK2.out; first | omega | exact Nat.le_refl _⟩, by repeat (first | exact Drawn0.refl _ | apply Drawn0.step)⟩
             ·rw [if_neg c26] at H
              have c26b0 : decide (4294967296 ≤ x18_2) = false := decide_eq_false c26
              clear c26
              (first | rw [c26b0] | (simp only [i64_w, i32_w]; rw [c26b0]) | skip)
              have H' := Aside0.mk H
              clear H
              go_wp2
              repeat (go_quiet (fail); try go_wp2)
              go_meet
              case rel => exact ⟨_, (decide ((IntKind.u64.wrap (x18_2 * (Go.bits .and .u64 (ji10) 4294967295))) > (IntKind.u64.wrap ((IntKind.u64.wrap (4294967296 * x16_2)) + (Go.bits .and .u64 (ji17) 4294967295))))), (by first | rfl | (simp; done) | (simp only [← hji10, ← hji17] <;> (first | rfl | simp)) | (simp [*]; done)), H', ⟨by have := HJ18.out; have := HK2.out; first | omega | exact Nat.le_refl _⟩, by repeat (first | exact Drawn0.refl _ | apply Drawn0.step)⟩
            case rest =>
             clear HC25
             try clear c1
             try clear c2
             try clear p2
             try clear c4
             try clear c4b0
             try clear c4b1
             try clear c5
             try clear c5b0
             try clear c6
             try clear c6b0
             try clear c6b1
             try clear c8
             try clear c9
             try clear c9b0
             try clear c9b1
             try clear c11
             try clear c11b0
             try clear c14
             try clear c14b0
             try clear c14b1
             try clear c16
             try clear c16b0
             try clear c18
             try clear c18b0
             try clear c18b1
             try clear c19
             try clear c21
             try clear c21b0
             try clear c22
             try clear c23
             try clear c23b0
             try clear c24
             try clear c24b0
             try clear c24b1
             try clear c26
             try clear c26b0
             try clear p2
             obtain ⟨kq, x113_24, rfl, HA, HJ24, ⟨mc24, rfl⟩⟩ := hcut
             cases kq with
             | zero => exact absurd HA.out (by simp [bits_Div64.j4])
             | succ kj24 =>
              have H := HA.out
              clear HA
              simp only [bits_Div64.j4] at H
              by_cases c27 : x113_24 = true
              ·subst c27
               have H1 : (if (IntKind.u64.wrap (x16_2 + ((ji10) / 4294967296))) ≥ 4294967296 then (if 0 ≤ ji8 then (some (IntKind.u64.wrap ((IntKind.u64.wrap (x15_18 * 4294967296)) + (IntKind.u64.wrap (x18_2 - 1))), shr .u64 (IntKind.u64.wrap ((IntKind.u64.wrap ((IntKind.u64.wrap ((IntKind.u64.wrap ((IntKind.u64.wrap ((IntKind.u64.wrap ((Go.bits .or .u64 (ji12) (ji15)) * 4294967296)) + ((ji17) / 4294967296))) - (IntKind.u64.wrap (x15_18 * ji10)))) * 4294967296)) + (Go.bits .and .u64 (ji17) 4294967295))) - (IntKind.u64.wrap ((IntKind.u64.wrap (x18_2 - 1)) * ji10)))) ji8)) else (none)) else (bits_Div64.l1 kj24 ji10 ji8 ((ji10) / 4294967296) (Go.bits .and .u64 (ji10) 4294967295) (Go.bits .and .u64 (ji17) 4294967295) x15_18 (IntKind.u64.wrap (x16_2 + ((ji10) / 4294967296))) (IntKind.u64.wrap ((IntKind.u64.wrap ((IntKind.u64.wrap ((Go.bits .or .u64 (ji12) (ji15)) * 4294967296)) + ((ji17) / 4294967296))) - (IntKind.u64.wrap (x15_18 * ji10)))) (IntKind.u64.wrap (x18_2 - 1)))) = some (r1, r2) := by rw [if_pos rfl] at H; exact H
               clear H
               have H := H1
               clear H1
               by_cases c28 : (IntKind.u64.wrap (x16_2 + ((ji10) / 4294967296))) ≥ 4294967296
               ·rw [if_pos c28] at H
                have c28b0 : decide (4294967296 ≤ (IntKind.u64.wrap (x16_2 + ((ji10) / 4294967296)))) = true := decide_eq_true c28
                clear c28
                by_cases c29 : 0 ≤ ji8
                ·rw [if_pos c29] at H
                 have c29b0 := eq_true c29
                 have c29b1 : decide (0 ≤ ji8) = true := decide_eq_true c29
                 clear c29
                 obtain ⟨ji30, hji30⟩ : ∃ j_ : Int, (shr .u64 (IntKind.u64.wrap ((IntKind.u64.wrap ((IntKind.u64.wrap ((IntKind.u64.wrap ((IntKind.u64.wrap ((IntKind.u64.wrap ((Go.bits .or .u64 (ji12) (ji15)) * 4294967296)) + ((ji17) / 4294967296))) - (IntKind.u64.wrap (x15_18 * ji10)))) * 4294967296)) + (Go.bits .and .u64 (ji17) 4294967295))) - (IntKind.u64.wrap ((IntKind.u64.wrap (x18_2 - 1)) * ji10)))) ji8) = j_ := ⟨_, rfl⟩
                 replace H : (some (IntKind.u64.wrap ((IntKind.u64.wrap (x15_18 * 4294967296)) + (IntKind.u64.wrap (x18_2 - 1))), ji30)) = some (r1, r2) := by first | (rw [hji30] at H; exact H) | (simp only [hji30] at H ⊢; exact H)
                 have hji30_ : ((IntKind.u64.wrap ((IntKind.u64.wrap ((IntKind.u64.wrap ((IntKind.u64.wrap ((IntKind.u64.wrap ((IntKind.u64.wrap ((Go.bits .or .u64 (ji12) (ji15)) * 4294967296)) + ((ji17) / 4294967296))) - (IntKind.u64.wrap (x15_18 * ji10)))) * 4294967296)) + (Go.bits .and .u64 (ji17) 4294967295))) - (IntKind.u64.wrap ((IntKind.u64.wrap (x18_2 - 1)) * ji10)))) / 2 ^ min ji8.toNat 64) = ji30 := hji30
                 have hji30z : ji8 ≤ 64 → ((IntKind.u64.wrap ((IntKind.u64.wrap ((IntKind.u64.wrap ((IntKind.u64.wrap ((IntKind.u64.wrap ((IntKind.u64.wrap ((Go.bits .or .u64 (ji12) (ji15)) * 4294967296)) + ((ji17) / 4294967296))) - (IntKind.u64.wrap (x15_18 * ji10)))) * 4294967296)) + (Go.bits .and .u64 (ji17) 4294967295))) - (IntKind.u64.wrap ((IntKind.u64.wrap (x18_2 - 1)) * ji10)))) / 2 ^ ji8.toNat) = ji30 := shr_small hji30
                 simp only [Option.some.injEq, Prod.mk.injEq] at H
                 obtain ⟨rfl, rfl⟩ := H
                 go_wp2
                 repeat (go_quiet (fail); try go_wp2)
                 go_ret2
                 exact ⟨by first | rfl | (simp; done) | (simp only [← hji8, ← hji10, ← hji12, ← hji13, ← hji15, ← hji17, ← hji30] <;> (first | rfl | simp)) | (simp [*]; done), by repeat (first | exact Drawn0.refl _ | apply Drawn0.step)⟩
                ·rw [if_neg c29] at H
                 exact absurd H (by simp)
               ·rw [if_neg c28] at H
                have c28b0 : decide (4294967296 ≤ (IntKind.u64.wrap (x16_2 + ((ji10) / 4294967296)))) = false := decide_eq_false c28
                clear c28
                have H' := Aside0.mk H
                clear H
                go_wp2
                repeat (go_quiet (fail); try go_wp2)
                go_roundg kj24
                case measure => have := HJ18.out; have := HK2.out; have := HJ24.out; omega
                case rel => exact ⟨(IntKind.u64.wrap (x16_2 + ((ji10) / 4294967296))), (IntKind.u64.wrap (x18_2 - 1)), (by first | rfl | (simp; done) | (simp only [← hji10] <;> (first | rfl | simp)) | (simp [*]; done)), (by first | rfl | (simp; done) | (simp [*]; done)), H', ⟨by have := HJ18.out; have := HK2.out; have := HJ24.out; omega⟩, by repeat (first | exact Drawn0.refl _ | apply Drawn0.step)⟩
              ·replace c27 := Bool.eq_false_iff.mpr c27
               subst c27
               have H1 : (if 0 ≤ ji8 then (some (IntKind.u64.wrap ((IntKind.u64.wrap (x15_18 * 4294967296)) + x18_2), shr .u64 (IntKind.u64.wrap ((IntKind.u64.wrap ((IntKind.u64.wrap ((IntKind.u64.wrap ((IntKind.u64.wrap ((IntKind.u64.wrap ((Go.bits .or .u64 (ji12) (ji15)) * 4294967296)) + ((ji17) / 4294967296))) - (IntKind.u64.wrap (x15_18 * ji10)))) * 4294967296)) + (Go.bits .and .u64 (ji17) 4294967295))) - (IntKind.u64.wrap (x18_2 * ji10)))) ji8)) else (none)) = some (r1, r2) := by rw [if_neg (show ¬ (false = true) by decide)] at H; exact H
               clear H
               have H := H1
               clear H1
               by_cases c31 : 0 ≤ ji8
               ·rw [if_pos c31] at H
                have c31b0 := eq_true c31
                have c31b1 : decide (0 ≤ ji8) = true := decide_eq_true c31
                clear c31
                obtain ⟨ji32, hji32⟩ : ∃ j_ : Int, (shr .u64 (IntKind.u64.wrap ((IntKind.u64.wrap ((IntKind.u64.wrap ((IntKind.u64.wrap ((IntKind.u64.wrap ((IntKind.u64.wrap ((Go.bits .or .u64 (ji12) (ji15)) * 4294967296)) + ((ji17) / 4294967296))) - (IntKind.u64.wrap (x15_18 * ji10)))) * 4294967296)) + (Go.bits .and .u64 (ji17) 4294967295))) - (IntKind.u64.wrap (x18_2 * ji10)))) ji8) = j_ := ⟨_, rfl⟩
                replace H : (some (IntKind.u64.wrap ((IntKind.u64.wrap (x15_18 * 4294967296)) + x18_2), ji32)) = some (r1, r2) := by first | (rw [hji32] at H; exact H) | (simp only [hji32] at H ⊢; exact H)
                have hji32_ : ((IntKind.u64.wrap ((IntKind.u64.wrap ((IntKind.u64.wrap ((IntKind.u64.wrap ((IntKind.u64.wrap ((IntKind.u64.wrap ((Go.bits .or .u64 (ji12) (ji15)) * 4294967296)) + ((ji17) / 4294967296))) - (IntKind.u64.wrap (x15_18 * ji10)))) * 4294967296)) + (Go.bits .and .u64 (ji17) 4294967295))) - (IntKind.u64.wrap (x18_2 * ji10)))) / 2 ^ min ji8.toNat 64) = ji32 := hji32
                have hji32z : ji8 ≤ 64 → ((IntKind.u64.wrap ((IntKind.u64.wrap ((IntKind.u64.wrap ((IntKind.u64.wrap ((IntKind.u64.wrap ((IntKind.u64.wrap ((Go.bits .or .u64 (ji12) (ji15)) * 4294967296)) + ((ji17) / 4294967296))) - (IntKind.u64.wrap (x15_18 * ji10)))) * 4294967296)) + (Go.bits .and .u64 (ji17) 4294967295))) - (IntKind.u64.wrap (x18_2 * ji10)))) / 2 ^ ji8.toNat) = ji32 := shr_small hji32
                simp only [Option.some.injEq, Prod.mk.injEq] at H
                obtain ⟨rfl, rfl⟩ := H
                go_wp2
                repeat (go_quiet (fail); try go_wp2)
                go_ret2
                exact ⟨by first | rfl | (simp; done) | (simp only [← hji8, ← hji10, ← hji12, ← hji13, ← hji15, ← hji17, ← hji32] <;> (first | rfl | simp)) | (simp [*]; done), by repeat (first | exact Drawn0.refl _ | apply Drawn0.step)⟩
               ·rw [if_neg c31] at H
                exact absurd H (by simp)
     ·rw [if_neg c14] at H
      exact absurd H (by simp)
    ·rw [if_neg c9] at H
     exact absurd H (by simp)
end Go.Proofs.Ytkkkbalefnileaa.D
/- The library's division of two words by one (math/bits.Div64), off its printed text: it is the quotient and the remainder. -/
namespace Go.Proofs.Ytkkkbalefnileaa.Ex
open Go.RowKit Go.Proofs.YtkkkbalefnileaaW.PrintWords Go.Proofs.YtkkkbalefnileaaW.PrintLast Go.Proofs.YtkkkbalefnileaaW.PrintMore Go.Proofs.Ytkkkbalefnileaa.D
set_option linter.unusedVariables false

theorem wrap64_eq (q : Int) : IntKind.u64.wrap q = q % W64 := rfl
theorem wrapU (q : Int) (h0 : 0 ≤ q) (h1 : q < W64) : IntKind.u64.wrap q = q := by rw [wrap64_eq]; exact Int.emod_eq_of_lt h0 h1
theorem wrapD (N P r : Int) (h : N - P = r) (h0 : 0 ≤ r) (h1 : r < W64) (a b : Int) (ha : a % W64 = N % W64) (hb : b % W64 = P % W64) : IntKind.u64.wrap (a - b) = r := by
  rw [wrap64_eq, Int.sub_emod, ha, hb, ← Int.sub_emod, h]
  exact Int.emod_eq_of_lt h0 h1
theorem qt_lt {Y U u qt : Int} (hp : 0 < Y) (hU0 : 0 ≤ U) (hU : U < Y) (hu : 0 ≤ u) (hu' : u < 4294967296) (hqt : qt = (U * 4294967296 + u) / Y) : 0 ≤ qt ∧ qt < 4294967296 := by
  subst hqt
  constructor
  · exact Int.ediv_nonneg (by omega) (by omega)
  · refine Int.ediv_lt_of_lt_mul hp ?_
    omega
theorem dec_inv {q y1 r U : Int} (hi : q * y1 + r = U) : (q - 1) * y1 + (r + y1) = U := by
  rw [Int.sub_mul]; omega
section
variable {Y y1 y0 U u qt : Int} (hY : Y = y1 * 4294967296 + y0) (h1 : 2147483648 ≤ y1) (h1' : y1 < 4294967296) (h0 : 0 ≤ y0) (h0' : y0 < 4294967296) (hU0 : 0 ≤ U) (hU : U < Y) (hu : 0 ≤ u) (hu' : u < 4294967296) (hqt : qt = (U * 4294967296 + u) / Y)
include hY h1 h1' h0 h0' hU0 hU hu hu' hqt

theorem q_init : qt ≤ U / y1 ∧ U / y1 ≤ 4294967297 ∧ (U / y1) * y1 + U % y1 = U ∧ 0 ≤ U % y1 ∧ U % y1 < y1 := by
  have hp : 0 < Y := by omega
  have hy : 0 < y1 := by omega
  have e := Int.mul_ediv_add_emod U y1
  have e1 := Int.emod_nonneg U (b := y1) (by omega)
  have e2 := Int.emod_lt_of_pos U hy
  rw [Int.mul_comm] at e
  refine ⟨?_, ?_, e, e1, e2⟩
  · subst hqt
    refine (Int.le_ediv_iff_mul_le hy).2 ?_
    have hm : (U * 4294967296 + u) / Y * Y ≤ U * 4294967296 + u := Int.ediv_mul_le _ (by omega)
    have hq : 0 ≤ (U * 4294967296 + u) / Y := Int.ediv_nonneg (by omega) (by omega)
    generalize (U * 4294967296 + u) / Y = q at hm hq ⊢
    have hx : q * Y = q * y1 * 4294967296 + q * y0 := by rw [hY, Int.mul_add, Int.mul_assoc]
    have hn : 0 ≤ q * y0 := Int.mul_nonneg hq h0
    generalize q * y1 = P at hx ⊢
    generalize q * y0 = R at hx hn
    omega
  · have : U / y1 < 4294967298 := by
      refine Int.ediv_lt_of_lt_mul hy ?_
      omega
    omega
omit h1 h1' in
/-- Whether the digit is still too great. -/
theorem too_great {q r : Int} (hi : q * y1 + r = U) (hr : 0 ≤ r) (hq : q < 4294967296) (hqq : qt ≤ q) (hr' : r < 4294967296) :
    (decide ((IntKind.u64.wrap (q * y0)) > (IntKind.u64.wrap ((IntKind.u64.wrap (4294967296 * r)) + u))) = true ↔ qt < q) := by
  have hp : 0 < Y := by omega
  have hqt0 := (qt_lt (show 0 < Y by omega) hU0 hU hu hu' hqt).1
  have hq0 : 0 ≤ q := by omega
  have hx : q * Y = q * y1 * 4294967296 + q * y0 := by rw [hY, Int.mul_add, Int.mul_assoc]
  have hn : 0 ≤ q * y0 := Int.mul_nonneg hq0 h0
  have hn2 : q * y0 ≤ 4294967295 * 4294967295 := Int.mul_le_mul (by omega) (by omega) h0 (by omega)
  have hlt : qt < q ↔ ¬ q * Y ≤ U * 4294967296 + u := by
    rw [← Int.le_ediv_iff_mul_le hp, ← hqt]; omega
  rw [wrapU (q * y0) hn (by rw [W64_eq]; omega), wrapU (4294967296 * r) (by omega) (by rw [W64_eq]; omega), wrapU _ (by omega) (by rw [W64_eq]; omega), decide_eq_true_eq, hlt]
  generalize q * y1 = P at *
  generalize q * y0 = R at *
  omega
omit h1 h1' in
/-- It is the digit as soon as what is left is great. -/
theorem left_great {q r : Int} (hi : q * y1 + r = U) (hr : 4294967296 ≤ r) (hqq : qt ≤ q) (hq : q ≤ 4294967296) : q = qt := by
  have hp : 0 < Y := by omega
  have hqt0 := (qt_lt (show 0 < Y by omega) hU0 hU hu hu' hqt).1
  have hq0 : 0 ≤ q := by omega
  have hx : q * Y = q * y1 * 4294967296 + q * y0 := by rw [hY, Int.mul_add, Int.mul_assoc]
  have hn2 : q * y0 ≤ 4294967296 * 4294967295 := Int.mul_le_mul (by omega) (by omega) h0 (by omega)
  have : q ≤ qt := by
    rw [hqt, Int.le_ediv_iff_mul_le hp]
    generalize q * y1 = P at *
    generalize q * y0 = R at *
    omega
  omega
/-- The first loop comes to what follows it, at the digit. -/
theorem loop1 (x8 x14 : Int) (r : Int × Int) (hj : ∃ k, bits_Div64.j2 k Y x8 y1 y0 U u x14 qt = some r) : ∀ (d : Nat) (q rh : Int), q * y1 + rh = U → 0 ≤ rh → rh < 4294967296 → qt ≤ q → q ≤ 4294967297 → (q - qt).toNat = d →
    ∃ k, bits_Div64.l0 k Y x8 y1 y0 U u x14 q rh = some r := by
  obtain ⟨kj, hj⟩ := hj
  have hqt0 := qt_lt (show 0 < Y by omega) hU0 hU hu hu' hqt
  intro d
  induction d with
  | zero =>
    intro q rh hi hr hr' hq hq2 hd
    have e : q = qt := by omega
    subst e
    have ht := too_great hY h0 h0' hU0 hU hu hu' hqt hi hr hqt0.2 hq hr'
    have hf : decide ((IntKind.u64.wrap (q * y0)) > (IntKind.u64.wrap ((IntKind.u64.wrap (4294967296 * rh)) + u))) = false := by
      rw [← Bool.not_eq_true, ht]; omega
    refine ⟨kj + 2, ?_⟩
    rw [bits_Div64.l0, if_neg (by omega), hf, bits_Div64.j1, if_neg (by decide)]
    exact hj
  | succ d ih =>
    intro q rh hi hr hr' hq hq2 hd
    have hb : (if q ≥ 4294967296 then true else decide ((IntKind.u64.wrap (q * y0)) > (IntKind.u64.wrap ((IntKind.u64.wrap (4294967296 * rh)) + u)))) = true := by
      by_cases hc : q ≥ 4294967296
      · rw [if_pos hc]
      · rw [if_neg hc]
        exact (too_great hY h0 h0' hU0 hU hu hu' hqt hi hr (by omega) hq hr').2 (by omega)
    have hi2 := dec_inv hi
    have w1 : IntKind.u64.wrap (rh + y1) = rh + y1 := wrapU _ (by omega) (by rw [W64_eq]; omega)
    have w2 : IntKind.u64.wrap (q - 1) = q - 1 := wrapU _ (by omega) (by rw [W64_eq]; omega)
    by_cases hg : 4294967296 ≤ rh + y1
    · have e := left_great hY h0 h0' hU0 hU hu hu' hqt hi2 hg (by omega) (by omega)
      refine ⟨kj + 2, ?_⟩
      rw [bits_Div64.l0]
      by_cases hc : q ≥ 4294967296
      · rw [if_pos hc, bits_Div64.j1, if_pos rfl, w1, if_pos hg, w2, e]
        exact hj
      · rw [if_neg hc] at hb ⊢
        rw [hb, bits_Div64.j1, if_pos rfl, w1, if_pos hg, w2, e]
        exact hj
    · obtain ⟨k, hk⟩ := ih (q - 1) (rh + y1) hi2 (by omega) (by omega) (by omega) (by omega) (by omega)
      refine ⟨k + 2, ?_⟩
      rw [bits_Div64.l0]
      by_cases hc : q ≥ 4294967296
      · rw [if_pos hc, bits_Div64.j1, if_pos rfl, w1, if_neg hg, w2]
        exact hk
      · rw [if_neg hc] at hb ⊢
        rw [hb, bits_Div64.j1, if_pos rfl, w1, if_neg hg, w2]
        exact hk
/-- The second loop hands back. -/
theorem loop2 (x8 x15 x17 : Int) (h8 : 0 ≤ x8) : ∀ (d : Nat) (q rh : Int), q * y1 + rh = U → 0 ≤ rh → rh < 4294967296 → qt ≤ q → q ≤ 4294967297 → (q - qt).toNat = d →
    ∃ k, bits_Div64.l1 k Y x8 y1 y0 u x15 rh x17 q = some (IntKind.u64.wrap ((IntKind.u64.wrap (x15 * 4294967296)) + qt), shr .u64 (IntKind.u64.wrap ((IntKind.u64.wrap ((IntKind.u64.wrap (x17 * 4294967296)) + u)) - (IntKind.u64.wrap (qt * Y)))) x8) := by
  have hqt0 := qt_lt (show 0 < Y by omega) hU0 hU hu hu' hqt
  intro d
  induction d with
  | zero =>
    intro q rh hi hr hr' hq hq2 hd
    have e : q = qt := by omega
    subst e
    have ht := too_great hY h0 h0' hU0 hU hu hu' hqt hi hr hqt0.2 hq hr'
    have hf : decide ((IntKind.u64.wrap (q * y0)) > (IntKind.u64.wrap ((IntKind.u64.wrap (4294967296 * rh)) + u))) = false := by
      rw [← Bool.not_eq_true, ht]; omega
    refine ⟨2, ?_⟩
    rw [bits_Div64.l1, if_neg (by omega), hf, bits_Div64.j4, if_neg (by decide), if_pos h8]
  | succ d ih =>
    intro q rh hi hr hr' hq hq2 hd
    have hb : (if q ≥ 4294967296 then true else decide ((IntKind.u64.wrap (q * y0)) > (IntKind.u64.wrap ((IntKind.u64.wrap (4294967296 * rh)) + u)))) = true := by
      by_cases hc : q ≥ 4294967296
      · rw [if_pos hc]
      · rw [if_neg hc]
        exact (too_great hY h0 h0' hU0 hU hu hu' hqt hi hr (by omega) hq hr').2 (by omega)
    have hi2 := dec_inv hi
    have w1 : IntKind.u64.wrap (rh + y1) = rh + y1 := wrapU _ (by omega) (by rw [W64_eq]; omega)
    have w2 : IntKind.u64.wrap (q - 1) = q - 1 := wrapU _ (by omega) (by rw [W64_eq]; omega)
    by_cases hg : 4294967296 ≤ rh + y1
    · have e := left_great hY h0 h0' hU0 hU hu hu' hqt hi2 hg (by omega) (by omega)
      refine ⟨2, ?_⟩
      rw [bits_Div64.l1]
      by_cases hc : q ≥ 4294967296
      · rw [if_pos hc, bits_Div64.j4, if_pos rfl, w1, if_pos hg, if_pos h8, w2, e]
      · rw [if_neg hc] at hb ⊢
        rw [hb, bits_Div64.j4, if_pos rfl, w1, if_pos hg, if_pos h8, w2, e]
    · obtain ⟨k, hk⟩ := ih (q - 1) (rh + y1) hi2 (by omega) (by omega) (by omega) (by omega) (by omega)
      refine ⟨k + 2, ?_⟩
      rw [bits_Div64.l1]
      by_cases hc : q ≥ 4294967296
      · rw [if_pos hc, bits_Div64.j4, if_pos rfl, w1, if_neg hg, w2]
        exact hk
      · rw [if_neg hc] at hb ⊢
        rw [hb, bits_Div64.j4, if_pos rfl, w1, if_neg hg, w2]
        exact hk
end

theorem bitLen_bounds : ∀ (n x : Nat), n ≤ 64 → x < 2 ^ n → x < 2 ^ Lib.bitLen x ∧ (x ≠ 0 → 1 ≤ Lib.bitLen x ∧ 2 ^ (Lib.bitLen x - 1) ≤ x) ∧ Lib.bitLen x ≤ n
  | 0, x, _, h => by
    have : x = 0 := by omega
    subst this
    exact ⟨by decide, fun h => absurd rfl h, by decide⟩
  | n + 1, x, hn, h => by
    by_cases h0 : x = 0
    · subst h0
      have hz : Lib.bitLen 0 = 0 := by decide
      exact ⟨by decide, fun h => absurd rfl h, by omega⟩
    · have hx : x < 2 ^ 64 := Nat.lt_of_lt_of_le h (Nat.pow_le_pow_right (by decide) hn)
      have e := Lib.bitLen_half x h0 hx
      obtain ⟨h1, h2, h3⟩ := bitLen_bounds n (x / 2) (by omega) (by rw [Nat.pow_succ] at h; omega)
      rw [e]
      refine ⟨by rw [Nat.add_comm, Nat.pow_succ]; omega, fun _ => ⟨by omega, ?_⟩, by omega⟩
      rw [Nat.add_sub_cancel_left]
      by_cases hz : x / 2 = 0
      · rw [hz, show Lib.bitLen 0 = 0 by decide]; omega
      · obtain ⟨h4, h5⟩ := h2 hz
        have : 2 ^ Lib.bitLen (x / 2) = 2 * 2 ^ (Lib.bitLen (x / 2) - 1) := by rw [← Nat.pow_succ']; congr 1; omega
        omega
/-- The divisor's shift: its highest bit stands at the top then. -/
theorem top_bit (y : Int) (h0 : 0 < y) (h1 : y < W64) : ∃ s : Nat, s ≤ 63 ∧ bits_LeadingZeros64.f y = some (s : Int) ∧ 9223372036854775808 ≤ y * 2 ^ s ∧ y * 2 ^ s < W64 := by
  obtain ⟨Y, rfl⟩ := Int.eq_ofNat_of_zero_le (Int.le_of_lt h0)
  rw [W64_eq] at h1
  obtain ⟨b1, b2, b3⟩ := bitLen_bounds 64 Y (Nat.le_refl _) (by omega)
  obtain ⟨b4, b5⟩ := b2 (by omega)
  refine ⟨64 - Lib.bitLen Y, by omega, ?_, ?_, ?_⟩
  · unfold bits_LeadingZeros64.f
    rw [if_pos ⟨by omega, by omega⟩, Int.toNat_natCast]
    congr 1
    omega
  · have : 2 ^ (Lib.bitLen Y - 1) * 2 ^ (64 - Lib.bitLen Y) = 9223372036854775808 := by rw [← Nat.pow_add, show Lib.bitLen Y - 1 + (64 - Lib.bitLen Y) = 63 by omega]
    have h2 := Nat.mul_le_mul_right (2 ^ (64 - Lib.bitLen Y)) b5
    rw [this] at h2
    have : ((9223372036854775808 : Nat) : Int) ≤ ((Y * 2 ^ (64 - Lib.bitLen Y) : Nat) : Int) := Int.ofNat_le.2 h2
    simpa using this
  · have : 2 ^ Lib.bitLen Y * 2 ^ (64 - Lib.bitLen Y) = 18446744073709551616 := by rw [← Nat.pow_add, show Lib.bitLen Y + (64 - Lib.bitLen Y) = 64 by omega]
    have h2 := Nat.mul_lt_mul_of_pos_right b1 (show 0 < 2 ^ (64 - Lib.bitLen Y) from Nat.pow_pos (by decide))
    rw [this] at h2
    have : ((Y * 2 ^ (64 - Lib.bitLen Y) : Nat) : Int) < ((18446744073709551616 : Nat) : Int) := Int.ofNat_lt.2 h2
    rw [W64_eq]
    simpa using this
theorem and_low (v : Int) (h0 : 0 ≤ v) (h1 : v < W64) : Go.bits .and .u64 v 4294967295 = v % 4294967296 := by
  have := bits_mask .u64 64 (by decide) (fun n a b => wrapU n a (by rw [W64_eq]; omega)) 32 (by decide) v h0 (by rw [W64_eq] at h1; omega)
  simpa using this
/-- The library's division: the quotient and the remainder. -/
theorem div64_pure (a0 a1 a2 : Int) (h0 : 0 ≤ a0) (h02 : a0 < a2) (h1 : isW a1) (h2 : a2 < W64) : ∃ k, bits_Div64.f k a0 a1 a2 = some ((a0 * W64 + a1) / a2, (a0 * W64 + a1) % a2) := by
  obtain ⟨h10, h11⟩ := h1
  by_cases hz : a0 = 0
  · subst hz
    refine ⟨0, ?_⟩
    unfold bits_Div64.f
    rw [if_neg (by omega), if_neg (by omega), if_pos rfl, Int.zero_mul, Int.zero_add, Int.tdiv_eq_ediv_of_nonneg h10, Int.tmod_eq_emod_of_nonneg h10, wrapU _ (Int.ediv_nonneg h10 (by omega)) (Int.lt_of_le_of_lt (Int.ediv_le_self _ h10) h11)]
  · obtain ⟨s, hs, hlz, hY1, hY2⟩ := top_bit a2 (by omega) h2
    have hP : (0 : Int) < 2 ^ s := by exact_mod_cast Nat.pow_pos (n := s) (show 0 < 2 by decide)
    have hQ : (0 : Int) < 2 ^ (64 - s) := by exact_mod_cast Nat.pow_pos (n := 64 - s) (show 0 < 2 by decide)
    have hPQ : (2 : Int) ^ s * 2 ^ (64 - s) = W64 := by
      rw [← Int.pow_add, show s + (64 - s) = 64 by omega]; rfl
    have ws : IntKind.u64.wrap (s : Int) = s := wrapU _ (by omega) (by rw [W64_eq]; omega)
    have ws2 : IntKind.u64.wrap (64 - (s : Int)) = 64 - s := wrapU _ (by omega) (by rw [W64_eq]; omega)
    have shl1 : shl .u64 a2 (s : Int) = a2 * 2 ^ s := by
      unfold shl
      rw [show min ((s : Int).toNat) IntKind.u64.bits = s by simp [IntKind.bits]; omega]
      exact wrapU _ (Int.mul_nonneg (by omega) (by omega)) hY2
    have ha0 : a0 * 2 ^ s + 2 ^ s ≤ a2 * 2 ^ s := by
      have := Int.mul_le_mul_of_nonneg_right (show a0 + 1 ≤ a2 by omega) (Int.le_of_lt hP)
      rw [Int.add_mul, Int.one_mul] at this
      exact this
    have ha0n : 0 ≤ a0 * 2 ^ s := Int.mul_nonneg h0 (Int.le_of_lt hP)
    have shl0 : shl .u64 a0 (s : Int) = a0 * 2 ^ s := by
      unfold shl
      rw [show min ((s : Int).toNat) IntKind.u64.bits = s by simp [IntKind.bits]; omega]
      exact wrapU _ ha0n (by omega)
    have shr1 : shr .u64 a1 (64 - (s : Int)) = a1 / 2 ^ (64 - s) := by
      unfold shr
      rw [show min ((64 - (s : Int)).toNat) IntKind.u64.bits = 64 - s by rw [show (64 - (s : Int)).toNat = 64 - s by omega]; exact Nat.min_eq_left (Nat.sub_le _ _)]
    have hl1 : a1 / 2 ^ (64 - s) < 2 ^ s := Int.ediv_lt_of_lt_mul hQ (by rw [hPQ]; exact h11)
    have hl0 : 0 ≤ a1 / 2 ^ (64 - s) := Int.ediv_nonneg h10 (Int.le_of_lt hQ)
    have hor : Go.bits .or .u64 (a0 * 2 ^ s) (a1 / 2 ^ (64 - s)) = a0 * 2 ^ s + a1 / 2 ^ (64 - s) :=
      bits_join .u64 64 (by decide) (fun n a b => wrapU n a (by rw [W64_eq]; omega)) s _ _ ha0n (Int.mul_emod_left _ _) (by rw [W64_eq] at hY2; omega) hl0 hl1 (by rw [W64_eq] at hY2; omega)
    have shl2 : shl .u64 a1 (s : Int) = 2 ^ s * (a1 % 2 ^ (64 - s)) := by
      unfold shl
      rw [show min ((s : Int).toNat) IntKind.u64.bits = s by simp [IntKind.bits]; omega, wrap64_eq, ← hPQ, Int.mul_comm a1, Int.mul_emod_mul_of_pos _ _ hP]
    have hm0 := Int.emod_nonneg a1 (b := 2 ^ (64 - s)) (by omega)
    have hm1 := Int.emod_lt_of_pos a1 hQ
    have hL0 : 0 ≤ 2 ^ s * (a1 % 2 ^ (64 - s)) := Int.mul_nonneg (Int.le_of_lt hP) hm0
    have hL1 : 2 ^ s * (a1 % 2 ^ (64 - s)) < W64 := by
      rw [← hPQ]; exact Int.mul_lt_mul_of_pos_left hm1 hP
    have hN : (a0 * 2 ^ s + a1 / 2 ^ (64 - s)) * W64 + 2 ^ s * (a1 % 2 ^ (64 - s)) = 2 ^ s * (a0 * W64 + a1) := by
      have e := Int.mul_ediv_add_emod a1 (2 ^ (64 - s))
      have e2 : a1 / 2 ^ (64 - s) * W64 = 2 ^ s * (2 ^ (64 - s) * (a1 / 2 ^ (64 - s))) := by
        rw [← hPQ, Int.mul_comm (a1 / _), Int.mul_assoc]
      rw [Int.add_mul, e2, Int.add_assoc, ← Int.mul_add, e, Int.mul_add, Int.mul_comm a0, Int.mul_assoc]
    unfold bits_Div64.f
    rw [hlz]
    simp only [Option.bind_some]
    rw [ws, ws2, shl0, shl1, shl2, shr1, hor]
    generalize hU : a0 * 2 ^ s + a1 / 2 ^ (64 - s) = U at *
    generalize hL : 2 ^ s * (a1 % 2 ^ (64 - s)) = L at *
    generalize hYY : a2 * 2 ^ s = Y at *
    have hY0 := Int.mul_ediv_add_emod Y 4294967296
    rw [and_low Y (by omega) hY2, and_low L hL0 hL1]
    have hUY : U < Y := by omega
    have hU0 : 0 ≤ U := by omega
    rw [W64_eq] at hY2 hL1
    have hye : Y = Y / 4294967296 * 4294967296 + Y % 4294967296 := by omega
    have e1 := q_init (u := L / 4294967296) hye (by omega) (by omega) (by omega) (by omega) hU0 hUY (by omega) (by omega) rfl
    have hq1 := qt_lt (u := L / 4294967296) (show 0 < Y by omega) hU0 hUY (by omega) (by omega) rfl
    have d1 := Int.mul_ediv_add_emod (U * 4294967296 + L / 4294967296) Y
    have m1 := Int.emod_nonneg (U * 4294967296 + L / 4294967296) (b := Y) (by omega)
    have m2 := Int.emod_lt_of_pos (U * 4294967296 + L / 4294967296) (show 0 < Y by omega)
    generalize hr1 : (U * 4294967296 + L / 4294967296) % Y = R1 at *
    have e2 := q_init (U := R1) (u := L % 4294967296) hye (by omega) (by omega) (by omega) (by omega) m1 m2 (by omega) (by omega) rfl
    have hq2 := qt_lt (U := R1) (u := L % 4294967296) (show 0 < Y by omega) m1 m2 (by omega) (by omega) rfl
    have d2 := Int.mul_ediv_add_emod (R1 * 4294967296 + L % 4294967296) Y
    have n1 := Int.emod_nonneg (R1 * 4294967296 + L % 4294967296) (b := Y) (by omega)
    have n2 := Int.emod_lt_of_pos (R1 * 4294967296 + L % 4294967296) (show 0 < Y by omega)
    generalize hr2 : (R1 * 4294967296 + L % 4294967296) % Y = R2 at *
    have l2 := loop2 (U := R1) (u := L % 4294967296) hye (by omega) (by omega) (by omega) (by omega) m1 m2 (by omega) (by omega) rfl (s : Int) ((U * 4294967296 + L / 4294967296) / Y) R1 (by omega) _ (R1 / (Y / 4294967296)) (R1 % (Y / 4294967296)) e2.2.2.1 e2.2.2.2.1 (by omega) e2.1 e2.2.1 rfl
    -- what the second loop hands back
    have hback : IntKind.u64.wrap ((IntKind.u64.wrap (R1 * 4294967296 + L % 4294967296)) - (IntKind.u64.wrap ((R1 * 4294967296 + L % 4294967296) / Y * Y))) = R2 := by
      refine wrapD (R1 * 4294967296 + L % 4294967296) ((R1 * 4294967296 + L % 4294967296) / Y * Y) R2 ?_ n1 (by rw [W64_eq]; omega) _ _ ?_ ?_
      · rw [Int.mul_comm _ Y]; omega
      · rw [wrap64_eq, Int.emod_emod]
      · rw [wrap64_eq, Int.emod_emod]
    have hq2' : 0 ≤ (U * 4294967296 + L / 4294967296) / Y * 4294967296 + (R1 * 4294967296 + L % 4294967296) / Y ∧ (U * 4294967296 + L / 4294967296) / Y * 4294967296 + (R1 * 4294967296 + L % 4294967296) / Y < W64 := by
      rw [W64_eq]; omega
    have hquo : IntKind.u64.wrap ((IntKind.u64.wrap ((U * 4294967296 + L / 4294967296) / Y * 4294967296)) + (R1 * 4294967296 + L % 4294967296) / Y) = (U * 4294967296 + L / 4294967296) / Y * 4294967296 + (R1 * 4294967296 + L % 4294967296) / Y := by
      rw [wrapU ((U * 4294967296 + L / 4294967296) / Y * 4294967296) (by omega) (by rw [W64_eq]; omega)]
      exact wrapU _ hq2'.1 hq2'.2
    have h21 : IntKind.u64.wrap ((IntKind.u64.wrap ((IntKind.u64.wrap (R1 * 4294967296)) + L % 4294967296)) - (IntKind.u64.wrap ((R1 * 4294967296 + L % 4294967296) / Y * Y))) = R2 := by
      refine wrapD (R1 * 4294967296 + L % 4294967296) ((R1 * 4294967296 + L % 4294967296) / Y * Y) R2 ?_ n1 (by rw [W64_eq]; omega) _ _ ?_ ?_
      · rw [Int.mul_comm _ Y]; omega
      · rw [wrap64_eq, wrap64_eq, Int.emod_emod, Int.emod_add_emod]
      · rw [wrap64_eq, Int.emod_emod]
    have h11' : IntKind.u64.wrap ((IntKind.u64.wrap ((IntKind.u64.wrap (U * 4294967296)) + L / 4294967296)) - (IntKind.u64.wrap ((U * 4294967296 + L / 4294967296) / Y * Y))) = R1 := by
      refine wrapD (U * 4294967296 + L / 4294967296) ((U * 4294967296 + L / 4294967296) / Y * Y) R1 ?_ m1 (by rw [W64_eq]; omega) _ _ ?_ ?_
      · rw [Int.mul_comm _ Y]; omega
      · rw [wrap64_eq, wrap64_eq, Int.emod_emod, Int.emod_add_emod]
      · rw [wrap64_eq, Int.emod_emod]
    -- the whole
    have hs1 : shr .u64 R2 (s : Int) = R2 / 2 ^ s := by
      unfold shr
      rw [show min ((s : Int).toNat) IntKind.u64.bits = s by simp [IntKind.bits]; omega]
    have hNN : 2 ^ s * (a0 * W64 + a1) = Y * ((U * 4294967296 + L / 4294967296) / Y * 4294967296 + (R1 * 4294967296 + L % 4294967296) / Y) + R2 := by
      rw [← hN, W64_eq, Int.mul_add, ← Int.mul_assoc]
      generalize Y * ((U * 4294967296 + L / 4294967296) / Y) = A at *
      generalize Y * ((R1 * 4294967296 + L % 4294967296) / Y) = B at *
      omega
    have hY' : Y = 2 ^ s * a2 := by rw [← hYY, Int.mul_comm]
    have hquo2 : (a0 * W64 + a1) / a2 = (U * 4294967296 + L / 4294967296) / Y * 4294967296 + (R1 * 4294967296 + L % 4294967296) / Y := by
      rw [← Int.mul_ediv_mul_of_pos (a0 * W64 + a1) a2 hP, ← hY', hNN, Int.mul_add_ediv_left _ _ (by omega), Int.ediv_eq_zero_of_lt n1 n2, Int.add_zero]
    have hrem2 : (a0 * W64 + a1) % a2 = R2 / 2 ^ s := by
      have h5 : 2 ^ s * ((a0 * W64 + a1) % a2) = R2 := by
        rw [← Int.mul_emod_mul_of_pos _ _ hP, ← hY', hNN, Int.mul_add_emod_self_left, Int.emod_eq_of_lt n1 n2]
      rw [← h5, Int.mul_ediv_cancel_left _ (by omega)]
    rw [hquo, h21, hs1, ← hquo2, ← hrem2] at l2
    obtain ⟨k2, l2⟩ := l2
    have hw1 : IntKind.u64.wrap (R1 - IntKind.u64.wrap (R1 / (Y / 4294967296) * (Y / 4294967296))) = R1 % (Y / 4294967296) := by
      rw [wrapU (R1 / (Y / 4294967296) * (Y / 4294967296)) (Int.mul_nonneg (Int.ediv_nonneg m1 (by omega)) (by omega)) (by rw [W64_eq]; have := e2.2.2.1; omega)]
      refine (wrapU _ ?_ ?_).trans ?_
      · have := e2.2.2.1; omega
      · rw [W64_eq]; have := e2.2.2.1; omega
      · have := e2.2.2.1; omega
    have ht1 : IntKind.u64.wrap (Int.tdiv R1 (Y / 4294967296)) = R1 / (Y / 4294967296) := by
      rw [Int.tdiv_eq_ediv_of_nonneg m1]
      exact wrapU _ (by omega) (by rw [W64_eq]; omega)
    have hj : bits_Div64.j2 (k2 + 1) Y (s : Int) (Y / 4294967296) (Y % 4294967296) U (L / 4294967296) (L % 4294967296) ((U * 4294967296 + L / 4294967296) / Y) = some ((a0 * W64 + a1) / a2, (a0 * W64 + a1) % a2) := by
      rw [bits_Div64.j2, if_neg (by omega), h11', ht1, hw1]
      exact l2
    have hw2 : IntKind.u64.wrap (U - IntKind.u64.wrap (U / (Y / 4294967296) * (Y / 4294967296))) = U % (Y / 4294967296) := by
      rw [wrapU (U / (Y / 4294967296) * (Y / 4294967296)) (Int.mul_nonneg (Int.ediv_nonneg hU0 (by omega)) (by omega)) (by rw [W64_eq]; have := e1.2.2.1; omega)]
      refine (wrapU _ ?_ ?_).trans ?_
      · have := e1.2.2.1; omega
      · rw [W64_eq]; have := e1.2.2.1; omega
      · have := e1.2.2.1; omega
    have ht2 : IntKind.u64.wrap (Int.tdiv U (Y / 4294967296)) = U / (Y / 4294967296) := by
      rw [Int.tdiv_eq_ediv_of_nonneg hU0]
      exact wrapU _ (by omega) (by rw [W64_eq]; omega)
    obtain ⟨k1, l1⟩ := loop1 (U := U) (u := L / 4294967296) hye (by omega) (by omega) (by omega) (by omega) hU0 hUY (by omega) (by omega) rfl (s : Int) (L % 4294967296) _ ⟨_, hj⟩ _ (U / (Y / 4294967296)) (U % (Y / 4294967296)) e1.2.2.1 e1.2.2.2.1 (by omega) e1.1 e1.2.1 rfl
    refine ⟨k1, ?_⟩
    rw [if_neg (by omega), if_neg (by omega), if_neg hz, if_pos (by omega), if_pos (by omega), if_neg (by omega), ht2, hw2]
    exact l1
/-- The contract of the library's division. -/
theorem div64 (a0 a1 a2 : Int) (h0 : 0 ≤ a0) (h02 : a0 < a2) (h1 : isW a1) (h2 : a2 < W64) (w : World) :
    Calls Try.prog 85 #[.int .u64 a0, .int .u64 a1, .int .u64 a2] w fun e w' => e = .returned (.tuple #[.int .u64 ((a0 * W64 + a1) / a2), .int .u64 ((a0 * W64 + a1) % a2)]) ∧ Drawn0 w w' := by
  obtain ⟨k, hk⟩ := div64_pure a0 a1 a2 h0 h02 h1 h2
  exact bits_Div64.calls k a0 a1 a2 _ _ w hk
end Go.Proofs.Ytkkkbalefnileaa.Ex
/- The steps of words.Add, Sub: closures over two rows; words.more. -/
namespace Go.Proofs.Ytkkkbalefnileaa.Ex
open Go.RowKit Go.Proofs.YtkkkbalefnileaaW.PrintWords Go.Proofs.YtkkkbalefnileaaW.PrintLast Go.Proofs.YtkkkbalefnileaaW.PrintMore
set_option linter.unusedVariables false
set_option linter.unusedSimpArgs false

theorem add64 (x y c : Int) (hx : 0 ≤ x) (hy : 0 ≤ y) (hc : 0 ≤ c) (hc1 : c ≤ 1) (w : World) :
    (callFunc 63 #[.int .u64 x, .int .u64 y, .int .u64 c]).run Try.prog w = .ok (.value (.tuple #[.int .u64 (addS x y c).1, .int .u64 (addS x y c).2])) w := by
  rw [run_callFunc_extern Try.func63 (by kernel_rfl) (by kernel_rfl) (by kernel_rfl) (e := add64Entry) (by kernel_rfl), run_add64 x y c hx hy hc hc1]
  rfl
theorem sub64 (x y c : Int) (hx : isW x) (hy : isW y) (hc : 0 ≤ c) (hc1 : c ≤ 1) (w : World) :
    (callFunc 94 #[.int .u64 x, .int .u64 y, .int .u64 c]).run Try.prog w = .ok (.value (.tuple #[.int .u64 (subS x y c).1, .int .u64 (subS x y c).2])) w := by
  obtain ⟨X, rfl⟩ := Int.eq_ofNat_of_zero_le hx.1
  obtain ⟨Y, rfl⟩ := Int.eq_ofNat_of_zero_le hy.1
  obtain ⟨C, rfl⟩ := Int.eq_ofNat_of_zero_le hc
  have h1 := hx.2
  have h2 := hy.2
  rw [W64_eq] at h1 h2
  rw [run_callFunc_extern Try.func94 (by kernel_rfl) (by kernel_rfl) (by kernel_rfl) (e := sub64Entry) (by kernel_rfl), run_sub64 X Y C (by omega)]
  have e1 : (((X + 18446744073709551616 - Y - C) % 18446744073709551616 : Nat) : Int) = (subS X Y C).1 := by
    unfold subS
    rw [W64_eq]
    omega
  have e2 : ((if X < Y + C then 1 else 0 : Nat) : Int) = (subS X Y C).2 := by
    unfold subS
    by_cases h : X < Y + C
    · rw [if_pos h, if_pos (by omega)]; rfl
    · rw [if_neg h, if_neg (by omega)]; rfl
  rw [e1, e2]
  rfl
/-- What is known of a new block of two words. -/
theorem two_facts (w : World) (t : TypeId) : let W := w.alloc (.cells #[.int .u64 0, .int .u64 0] t); W.cell? ⟨w.heap.size, 0, none⟩ = some (.int .u64 0) ∧ W.cell? ⟨w.heap.size, 1, none⟩ = some (.int .u64 0) ∧ W.frozen? ⟨w.heap.size, 0, none⟩ = false ∧ W.frozen? ⟨w.heap.size, 1, none⟩ = false ∧ Below w.heap.size w W ∧ w.heap.size < W.heap.size := by
  refine ⟨two_cell0 _ _ _ _, two_cell1 _ _ _ _, ?_, ?_, below_alloc (Below.refl _ _) _, by simp⟩
  · unfold World.frozen?; rw [heap_alloc_new]; rfl
  · unfold World.frozen?; rw [heap_alloc_new]; rfl
end Go.Proofs.Ytkkkbalefnileaa.Ex
/- words.more and the steps of MulWord, AddMul, SubMul, Left, Sub. -/
namespace Go.Proofs.Ytkkkbalefnileaa.Ex
open Go.RowKit Go.Proofs.YtkkkbalefnileaaW.PrintWords Go.Proofs.YtkkkbalefnileaaW.PrintLast Go.Proofs.YtkkkbalefnileaaW.PrintMore
set_option linter.unusedVariables false
set_option linter.unusedSimpArgs false

theorem mulHi (a b : Int) (ha : isW a) (hb : isW b) : isW (a * b / W64) ∧ isW (a * b % W64) ∧ a * b / W64 ≤ W64 - 2 ∧ a * b = W64 * (a * b / W64) + a * b % W64 ∧ a * b ≤ 340282366920938463426481119284349108225 := by
  obtain ⟨h1, h2⟩ := ha
  obtain ⟨h3, h4⟩ := hb
  have hp : 0 ≤ a * b := Int.mul_nonneg h1 h3
  have hq : a * b ≤ (W64 - 1) * (W64 - 1) := Int.mul_le_mul (by omega) (by omega) h3 (by have := W64_pos; omega)
  have e : (W64 - 1) * (W64 - 1) = W64 * (W64 - 2) + 1 := by rw [W64_eq]; rfl
  have hd := Int.mul_ediv_add_emod (a * b) W64
  have hm := Int.emod_nonneg (a * b) (b := W64) (by decide)
  have hm2 := Int.emod_lt_of_pos (a * b) W64_pos
  have hq0 : 0 ≤ a * b / W64 := Int.ediv_nonneg hp (by decide)
  have hle : a * b / W64 ≤ W64 - 2 := by
    rw [W64_eq] at *
    omega
  exact ⟨⟨hq0, by omega⟩, ⟨hm, hm2⟩, hle, hd.symm, by rw [W64_eq] at hq; omega⟩
/-- The product's two words. -/
theorem mul64 (x y : Int) (hx : isW x) (hy : isW y) (w : World) :
    Calls Try.prog 90 #[.int .u64 x, .int .u64 y] w fun e w' => e = .returned (.tuple #[.int .u64 (x * y / W64), .int .u64 (x * y % W64)]) ∧ w = w' := by
  obtain ⟨X, rfl⟩ := Int.eq_ofNat_of_zero_le hx.1
  obtain ⟨Y, rfl⟩ := Int.eq_ofNat_of_zero_le hy.1
  have h1 := hx.2
  have h2 := hy.2
  rw [W64_eq] at h1 h2
  refine (Try.bits_Mul64 X Y (by omega) (by omega) w).mono ?_
  rintro e w' ⟨rfl, rfl⟩
  exact ⟨rfl, rfl⟩
theorem more_eq (a b c d : Int) (ha : isW a) (hb : isW b) (hc : isW c) (hd : isW d) :
    isW (a * b / W64 + (a * b % W64 + c) / W64) ∧ isW ((a * b % W64 + c) % W64) ∧ isW ((a * b % W64 + c) / W64) ∧
    ((a * b % W64 + c) % W64 + d + 0) % W64 = (moreS a b c d).1 ∧ a * b / W64 + (a * b % W64 + c) / W64 + ((a * b % W64 + c) % W64 + d + 0) / W64 = (moreS a b c d).2 ∧ isW (moreS a b c d).1 ∧ isW (moreS a b c d).2 := by
  obtain ⟨h1, h2, h3, h4, h5⟩ := mulHi a b ha hb
  obtain ⟨c0, c1⟩ := hc
  obtain ⟨d0, d1⟩ := hd
  unfold moreS isW at *
  generalize a * b = p at *
  generalize hH : p / W64 = H at *
  generalize hL : p % W64 = L at *
  subst h4
  rw [W64_eq] at *
  refine ⟨⟨?_, ?_⟩, ⟨?_, ?_⟩, ⟨?_, ?_⟩, ?_, ?_, ⟨?_, ?_⟩, ⟨?_, ?_⟩⟩ <;> omega
set_option maxHeartbeats 1000000 in
theorem more (a b c d : Int) (ha : isW a) (hb : isW b) (hc : isW c) (hd : isW d) (w : World) :
    Calls Try.prog 105 #[.int .u64 a, .int .u64 b, .int .u64 c, .int .u64 d] w fun e w' => e = .returned (.agg #[.int .u64 (moreS a b c d).1, .int .u64 (moreS a b c d).2]) ∧ Below w.heap.size w w' := by
  obtain ⟨m1, m2, m3, m4, m5⟩ := mulHi a b ha hb
  obtain ⟨e1, e2, e3, e4, e5, e6, e7⟩ := more_eq a b c d ha hb hc hd
  have HM := Aside0.mk (mul64 a b ha hb)
  have hA := add64 (a * b % W64) c 0 m2.1 hc.1 (Int.le_refl 0) (by decide)
  have hA2 := add64 (addS (a * b % W64) c 0).1 d 0 (by have := e2.1; simpa [addS] using this) hd.1 (Int.le_refl 0) (by decide)
  have HW : IntKind.u64.wrap (a * b / W64 + (addS (a * b % W64) c 0).2) = a * b / W64 + (addS (a * b % W64) c 0).2 := by
    have h1 := e1.1
    have h2 := e1.2
    simp only [addS, Int.add_zero]
    rw [W64_eq] at *
    exact IntWalk.u64_in _ (by omega)
  have HV : IntKind.u64.wrap (a * b / W64 + (addS (a * b % W64) c 0).2 + (addS (addS (a * b % W64) c 0).1 d 0).2) = (moreS a b c d).2 := by
    have h1 := e7.1
    have h2 := e7.2
    rw [← e5] at h1 h2 ⊢
    simp only [addS, Int.add_zero] at h1 h2 ⊢
    rw [W64_eq] at *
    exact IntWalk.u64_in _ (by omega)
  have HX : (addS (addS (a * b % W64) c 0).1 d 0).1 = (moreS a b c d).1 := by
    rw [← e4]
    simp [addS]
  clear m1 m2 m3 m4 m5 e1 e2 e3 e4 e5 e6 e7 ha hb hc hd
  go_enter Try.func105, Try.ntmps105
  go_wp2_with (go_at_call 90; refine (HM.out _).mono ?_; rintro e w' ⟨rfl, rfl⟩)
  have hB := below_alloc (Below.refl w.heap.size w) (.cells #[.int .u64 (moreS a b c d).1, .int .u64 (moreS a b c d).2] 97)
  exact bodyPost_ret (v := .agg #[.int .u64 (moreS a b c d).1, .int .u64 (moreS a b c d).2]) (by simp [results, Try.results105, go_sem, HX, HV]) rfl ⟨rfl, hB⟩
theorem subS_c (x y c : Int) : 0 ≤ (subS x y c).2 ∧ (subS x y c).2 ≤ 1 := by
  unfold subS
  by_cases h : x < y + c <;> simp [h]
set_option maxHeartbeats 1000000 in
theorem sub1 (bx «by» : Nat) (A0 A1 : Option Addr) (c0 c1 : Nat) (l0 l1 : List Int) (i : Nat) (c : Int) (w : World) (h0 : i < l0.length) (h1 : i < l1.length) (hc : 0 ≤ c) (hc1 : c ≤ 1) (hw0 : inW l0) (hw1 : inW l1)
    (hr0 : Kd.C (Kd.int .u64) w A0 l0.length l0) (hr1 : Kd.C (Kd.int .u64) w A1 l1.length l1) (hbx : w.cell? ⟨bx, 0, none⟩ = some (.slice A0 l0.length c0)) (hby : w.cell? ⟨«by», 0, none⟩ = some (.slice A1 l1.length c1)) :
    Calls Try.prog 93 #[.int .i64 i, .int .u64 c, .pointer (some ⟨bx, 0, none⟩), .pointer (some ⟨«by», 0, none⟩)] w
      fun e w' => e = .returned (.agg #[.int .u64 (subS (l0.getD i 0) (l1.getD i 0) c).1, .int .u64 (subS (l0.getD i 0) (l1.getD i 0) c).2]) ∧ Below w.heap.size w w' := by
  obtain ⟨a0, rfl, hx0⟩ := Kd.at_int hr0 i (by omega) (by omega)
  obtain ⟨a1, rfl, hx1⟩ := Kd.at_int hr1 i (by omega) (by omega)
  have e0 : rd l0 i = l0.getD i 0 := by simp [rd]
  have e1 : rd l1 i = l1.getD i 0 := by simp [rd]
  rw [e0] at hx0
  rw [e1] at hx1
  have w0 := isW_get hw0 i
  have w1 := isW_get hw1 i
  generalize l0.getD i 0 = x at hx0 w0 ⊢
  generalize l1.getD i 0 = y at hx1 w1 ⊢
  have hadd := sub64 x y c w0 w1 hc hc1
  simp only [Int.toNat_natCast] at hx0 hx1
  clear e0 e1 hr0 hr1 w0 w1 hw0 hw1 hc hc1
  go_enter Try.func93, Try.ntmps93
  go_wp2
  obtain ⟨f0, f1, f2, f3, hB, hsz⟩ := two_facts w 97
  have g0 := pw_cell_below hB hbx
  have g1 := pw_cell_below hB hby
  have g2 := pw_cell_below hB hx0
  have g3 := pw_cell_below hB hx1
  have HB := Aside0.mk hB
  clear hbx hby hx0 hx1 hB
  obtain ⟨B, hB⟩ : ∃ b, b = w.heap.size := ⟨_, rfl⟩
  rw [← hB] at f0 f1 f2 f3 hsz ⊢
  have HBe := Aside0.mk hB
  clear hB
  generalize (w.alloc (.cells #[.int .u64 0, .int .u64 0] 97)) = W at *
  have i0 : (0:Int) ≤ i := by omega
  have i1 : (i:Int) < (l0.length : Int) := by omega
  have i2 : (i:Int) < (l1.length : Int) := by omega
  go_quiet (fail)
  go_wp2
  refine bodyPost_ret (v := .agg #[.int .u64 (subS x y c).1, .int .u64 (subS x y c).2]) (by simp [results, Try.results93, go_sem, f0, f1, f2, f3]) rfl ⟨rfl, ?_⟩
  exact ((pw_below_drewN HB.out nq).setCell (by show _ ≤ B; rw [HBe.out]; exact Nat.le_refl _) _).setCell (by show _ ≤ B; rw [HBe.out]; exact Nat.le_refl _) _
set_option maxHeartbeats 1000000 in
set_option maxRecDepth 100000 in
theorem mulWord1 (bx bw : Nat) (A0 : Option Addr) (c0 : Nat) (l0 : List Int) (i : Nat) (c m : Int) (w : World) (h0 : i < l0.length) (hc : isW c) (hm : isW m) (hw0 : inW l0)
    (hr0 : Kd.C (Kd.int .u64) w A0 l0.length l0) (hbx : w.cell? ⟨bx, 0, none⟩ = some (.slice A0 l0.length c0)) (hbw : w.cell? ⟨bw, 0, none⟩ = some (.int .u64 m)) :
    Calls Try.prog 104 #[.int .i64 i, .int .u64 c, .pointer (some ⟨bx, 0, none⟩), .pointer (some ⟨bw, 0, none⟩)] w
      fun e w' => e = .returned (.agg #[.int .u64 (moreS (l0.getD i 0) m c 0).1, .int .u64 (moreS (l0.getD i 0) m c 0).2]) ∧ Below w.heap.size w w' := by
  obtain ⟨a0, rfl, hx0⟩ := Kd.at_int hr0 i (by omega) (by omega)
  have e0 : rd l0 i = l0.getD i 0 := by simp [rd]
  rw [e0] at hx0
  have w0 := isW_get hw0 i
  generalize l0.getD i 0 = x at hx0 w0 ⊢
  have HM := Aside0.mk (fun W => more x m c 0 w0 hm hc ⟨Int.le_refl 0, W64_pos⟩ W)
  simp only [Int.toNat_natCast] at hx0
  clear e0 hr0 w0 hw0 hc hm
  go_enter Try.func104, Try.ntmps104
  go_wp2
  obtain ⟨f0, f1, f2, f3, hB, hsz⟩ := two_facts w 97
  have g0 := pw_cell_below hB hbx
  have g1 := pw_cell_below hB hbw
  have g2 := pw_cell_below hB hx0
  have HB := Aside0.mk hB
  clear hbx hbw hx0 hB
  obtain ⟨B, hB⟩ : ∃ b, b = w.heap.size := ⟨_, rfl⟩
  rw [← hB] at f0 f1 f2 f3 hsz ⊢
  have HBe := Aside0.mk hB
  clear hB
  generalize (w.alloc (.cells #[.int .u64 0, .int .u64 0] 97)) = W at *
  have i0 : (0:Int) ≤ i := by omega
  have i1 : (i:Int) < (l0.length : Int) := by omega
  go_still_tail 6, (by kernel_rfl)
  change wpList _ _ _ _ _ W.drew
  go_wp2_with (go_at_call 105; refine (HM.out _).mono ?_; rintro e w2 ⟨rfl, hb⟩; have k0 := pw_cell_below (w := W.drew) hb f0; have k1 := pw_cell_below (w := W.drew) hb f1; have k2 := (hb.frozen (p := ⟨B, 0, none⟩) hsz).trans f2; have k3 := (hb.frozen (p := ⟨B, 1, none⟩) hsz).trans f3; have HB2 := Aside0.mk (below_step (below_drew HB.out) hb); clear hb f0 f1 f2 f3 g0 g1 g2)
  refine bodyPost_ret (v := .agg #[.int .u64 (moreS x m c 0).1, .int .u64 (moreS x m c 0).2]) (by simp [results, Try.results104, go_sem, k0, k1, k2, k3]) rfl ⟨rfl, ?_⟩
  exact (HB2.out.setCell (by show _ ≤ B; rw [HBe.out]; exact Nat.le_refl _) _).setCell (by show _ ≤ B; rw [HBe.out]; exact Nat.le_refl _) _
end Go.Proofs.Ytkkkbalefnileaa.Ex
/- The library's division and product of words, as the print's contracts are told; TrailingZeros64 besides. -/
namespace Go.Proofs.Ytkkkbalefnileaa.Ex
open Go.RowKit Go.Proofs.YtkkkbalefnileaaW.PrintWords Go.Proofs.YtkkkbalefnileaaW.PrintLast Go.Proofs.YtkkkbalefnileaaW.PrintMore
set_option linter.unusedVariables false

def bits_Div64.f (a0 a1 a2 : Int) : Option (Int × Int) := if (0 ≤ a0 ∧ a0 < a2) ∧ isW a1 ∧ a2 < W64 then some ((a0 * W64 + a1) / a2, (a0 * W64 + a1) % a2) else none
theorem bits_Div64.calls (a0 : Int) (a1 : Int) (a2 : Int) (r1 : Int) (r2 : Int) (w : World)  (h : bits_Div64.f a0 a1 a2 = some (r1, r2)) :
    Calls Try.prog 85 #[.int .u64 a0, .int .u64 a1, .int .u64 a2] w fun e w' => e = .returned (.tuple #[.int .u64 r1, .int .u64 r2]) ∧ Drawn0 w w' := by
  unfold bits_Div64.f at h
  by_cases hw : (0 ≤ a0 ∧ a0 < a2) ∧ isW a1 ∧ a2 < W64
  · rw [if_pos hw] at h
    cases h
    exact div64 a0 a1 a2 hw.1.1 hw.1.2 hw.2.1 hw.2.2 w
  · rw [if_neg hw] at h; cases h
end Go.Proofs.Ytkkkbalefnileaa.Ex
/- Contracts of the library's ContainsFunc over numbers, and of nat.large. -/
namespace Go.Proofs.Ytkkkbalefnileaa.Ex
open Go.RowKit Go.Proofs.YtkkkbalefnileaaW.PrintWords Go.Proofs.YtkkkbalefnileaaW.PrintLast Go.Proofs.YtkkkbalefnileaaW.PrintMore
set_option linter.unusedVariables false
set_option linter.unusedSimpArgs false

theorem large1 (A : Option Addr) (n c : Nat) (w : World) :
    Calls Try.prog 76 #[.slice A n c] w fun e w' => e = .returned (.bool (decide ((4096 : Int) < (n : Int)))) ∧ w = w' := by
  go_enter Try.func76, Try.ntmps76
  go_wp2
  go_ret
  exact ⟨rfl, rfl⟩
def nat_large.f (l0 : List (List Int)) : Option Bool := some (!(l0.all fun x => decide (x.length ≤ 4096)))
theorem all_take_succL (l : List (List Int)) (k : Nat) (h : k < l.length) : ((l.take (k + 1)).all fun x => decide (x.length ≤ 4096)) = (((l.take k).all fun x => decide (x.length ≤ 4096)) && decide (l[k].length ≤ 4096)) := by
  rw [List.take_succ_eq_append_getElem h, List.all_append, List.all_cons, List.all_nil, Bool.and_true]
theorem idxLarge (A0 : Option Addr) (c0 : Nat) (l0 : List (List Int)) (w : World) (hr0 : Kd.C (Kd.slice 33 (Kd.int .u64)) w A0 l0.length l0) (hc0 : l0.length ≤ c0) :
    Calls Try.prog 95 #[.slice A0 l0.length c0, .func (.func 76) #[] #[]] w
      fun e w' => (∃ i : Int, e = .returned (.int .i64 i) ∧ decide (0 ≤ i) = !(l0.all fun x => decide (x.length ≤ 4096))) ∧ w = w' := by
  have HR := Aside0.mk hr0
  have hn : l0.length ≤ 9223372036854775807 := hr0.2.1
  clear hr0
  go_enter Try.func95, Try.ntmps95
  go_wp2
  go_loop [5, 8] (fun _ i => ∃ k : Nat, k ≤ l0.length ∧ i = .int .i64 k ∧ Aside0 (((l0.take k).all fun x => decide (x.length ≤ 4096)) = true)) (fun _ i => l0.length - (intOf i).toNat)
  case atStart => exact ⟨0, Nat.zero_le _, rfl, ⟨by simp⟩⟩
  case round =>
    obtain ⟨k, hk, rfl, HA⟩ := hrel
    by_cases hlt : k < l0.length
    · obtain ⟨ad, c, rfl, hcl, hK, hcell⟩ := Kd.C_get HR.out [] k (by omega) (by omega)
      obtain ⟨A1, c1, rfl, hl1, hC1⟩ := hK
      have hc1 := hcell 0 _ rfl
      simp only [Int.toNat_natCast] at hc1 hC1 hl1
      have e0 : k * (Kd.slice 33 (Kd.int .u64)).sz + 0 = k := by simp [Kd.slice]
      rw [e0] at hc1
      have HS := Aside0.mk (all_take_succL l0 k hlt)
      have hg : (l0[k]?.getD []) = l0[k] := by rw [List.getElem?_eq_getElem hlt]; rfl
      have hgd : l0.getD k [] = l0[k] := by rw [List.getD_eq_getElem?_getD, hg]
      rw [hgd] at hc1
      clear hcell hC1 hl1 hcl
      by_cases h4 : (4096 : Int) < (l0[k].length : Int)
      · have h4b : decide ((4096 : Int) < (l0[k].length : Int)) = true := decide_eq_true h4
        go_wp2_with (go_at_call 76; refine (large1 _ _ _ _).mono ?_; rintro e w' ⟨rfl, rfl⟩)
        go_ret
        refine ⟨⟨k, rfl, ?_⟩, rfl⟩
        have hf : (l0.all fun x => decide (x.length ≤ 4096)) = false := by
          rw [List.all_eq_false]
          exact ⟨l0[k], List.getElem_mem _, by simp; omega⟩
        rw [hf]
        exact decide_eq_true (by omega)
      · have h4b : decide ((4096 : Int) < (l0[k].length : Int)) = false := decide_eq_false h4
        go_wp2_with (go_at_call 76; refine (large1 _ _ _ _).mono ?_; rintro e w' ⟨rfl, rfl⟩)
        go_round
        case rel => exact ⟨k + 1, by omega, by go_num, ⟨by rw [HS.out, HA.out]; simp; omega⟩⟩
        case measure => simp [intOf]; omega
    · obtain rfl : k = l0.length := by omega
      go_wp2
      go_ret
      have h1 := HA.out
      rw [List.take_length] at h1
      exact ⟨⟨-1, rfl, by rw [h1]; rfl⟩, rfl⟩
theorem containsLarge (A0 : Option Addr) (c0 : Nat) (l0 : List (List Int)) (w : World) (hr0 : Kd.C (Kd.slice 33 (Kd.int .u64)) w A0 l0.length l0) (hc0 : l0.length ≤ c0) :
    Calls Try.prog 71 #[.slice A0 l0.length c0, .func (.func 76) #[] #[]] w
      fun e w' => e = .returned (.bool (!(l0.all fun x => decide (x.length ≤ 4096)))) ∧ w = w' := by
  have HR := Aside0.mk hr0
  clear hr0
  go_enter Try.func71, Try.ntmps71
  go_wp2_with (go_at_call 95; refine (idxLarge _ _ l0 _ HR.out hc0).mono ?_; rintro e w' ⟨⟨i, rfl, hi⟩, rfl⟩; have HI := Aside0.mk hi; clear hi)
  go_ret
  exact ⟨by rw [← HI.out]; rfl, rfl⟩
theorem nat_large.calls (A0 : Option Addr) (c0 : Nat) (l0 : List (List Int)) (r : Bool) (w : World) (hr0 : Kd.C (Kd.slice 33 (Kd.int .u64)) w A0 l0.length l0) (hc0 : l0.length ≤ c0) (h : nat_large.f l0 = some r) :
    Calls Try.prog 40 #[.slice A0 l0.length c0] w fun e w' => e = .returned (.bool r) ∧ Drawn0 w w' := by
  have HR := Aside0.mk hr0
  clear hr0
  have H : r = (!(l0.all fun x => decide (x.length ≤ 4096))) := (Option.some.inj h).symm
  clear h
  subst H
  go_enter Try.func40, Try.ntmps40
  go_wp2_with (go_at_call 71; refine (containsLarge _ _ l0 _ HR.out hc0).mono ?_; rintro e w' ⟨rfl, rfl⟩)
  go_ret
  exact ⟨by simp, Drawn0.refl _⟩
end Go.Proofs.Ytkkkbalefnileaa.Ex
/- math/bits.Add64, Sub64: no body, run inline: what the print's facts say of them. -/
namespace Go.Proofs.Ytkkkbalefnileaa.Ex
open Go.RowKit Go.Proofs.YtkkkbalefnileaaW.PrintWords Go.Proofs.YtkkkbalefnileaaW.PrintLast Go.Proofs.YtkkkbalefnileaaW.PrintMore
set_option linter.unusedVariables false

def bits_Add64.f (a0 a1 a2 : Int) : Option (Int × Int) := if isW a0 ∧ isW a1 ∧ 0 ≤ a2 ∧ a2 ≤ 1 then some (addS a0 a1 a2) else none
theorem bits_Add64.run {a0 a1 a2 r1 r2 : Int} (h : bits_Add64.f a0 a1 a2 = some (r1, r2)) (w : World) :
    (callFunc 63 #[.int .u64 a0, .int .u64 a1, .int .u64 a2]).run Try.prog w = .ok (.value (.tuple #[.int .u64 r1, .int .u64 r2])) w := by
  unfold bits_Add64.f at h
  by_cases hw : isW a0 ∧ isW a1 ∧ 0 ≤ a2 ∧ a2 ≤ 1
  · rw [if_pos hw] at h
    have h1 := Option.some.inj h
    have e1 : (addS a0 a1 a2).1 = r1 := by rw [h1]
    have e2 : (addS a0 a1 a2).2 = r2 := by rw [h1]
    rw [← e1, ← e2]
    exact add64 a0 a1 a2 hw.1.1 hw.2.1.1 hw.2.2.1 hw.2.2.2 w
  · rw [if_neg hw] at h; cases h
end Go.Proofs.Ytkkkbalefnileaa.Ex
/- The canonical words of a number: no program here. -/
namespace Go.Proofs.Ytkkkbalefnileaa.Ex
set_option linter.unusedVariables false

/-- The words of a number. -/
def canF : Nat → Int → List Int
  | 0, _ => []
  | f + 1, v => if v ≤ 0 then [] else v % W64 :: canF f (v / W64)
def can (v : Int) : List Int := canF v.toNat v
/-- A row without a zero at its end. -/
def canL : List Int → Prop
  | [] => True
  | x :: l => isW x ∧ canL l ∧ (l = [] → x ≠ 0)
theorem canL_in : ∀ {l : List Int}, canL l → inW l
  | [], _ => inW_nil
  | x :: l, h => inW_cons.2 ⟨h.1, canL_in h.2.1⟩
theorem canL_pos : ∀ {x : Int} {l : List Int}, canL (x :: l) → 0 < valB W64 (x :: l)
  | x, [], h => by
    have h1 := h.2.2 rfl
    have h2 := h.1.1
    simp [valB]; omega
  | x, y :: l, h => by
    have h1 := canL_pos h.2.1
    have h2 := h.1.1
    have h3 := Int.mul_pos W64_pos h1
    show 0 < x + W64 * valB W64 (y :: l)
    omega
theorem canL_inj : ∀ {a b : List Int}, canL a → canL b → valB W64 a = valB W64 b → a = b
  | [], [], _, _, _ => rfl
  | [], y :: b, _, h, e => by have := canL_pos h; rw [← e] at this; simp [valB] at this
  | x :: a, [], h, _, e => by have := canL_pos h; rw [e] at this; simp [valB] at this
  | x :: a, y :: b, ha, hb, e => by
    obtain ⟨e1, e2⟩ := div_unique ha.1.1 ha.1.2 hb.1.1 hb.1.2 e
    rw [e1, canL_inj ha.2.1 hb.2.1 e2]
theorem canL_of : ∀ {l : List Int}, inW l → (l = [] ∨ l.getD (l.length - 1) 0 ≠ 0) → canL l
  | [], _, _ => trivial
  | [x], h, h1 => ⟨(inW_cons.1 h).1, trivial, fun _ => by rcases h1 with h1 | h1; cases h1; simpa using h1⟩
  | x :: y :: l, h, h1 => ⟨(inW_cons.1 h).1, canL_of (inW_cons.1 h).2 (.inr (by rcases h1 with h1 | h1; cases h1; simpa using h1)), fun h => by cases h⟩
theorem canF_ok : ∀ (f : Nat) (v : Int), 0 ≤ v → v.toNat ≤ f → canL (canF f v) ∧ valB W64 (canF f v) = v
  | 0, v, h0, h => ⟨trivial, by simp [canF, valB]; omega⟩
  | f + 1, v, h0, h => by
    unfold canF
    by_cases hv : v ≤ 0
    · rw [if_pos hv]; exact ⟨trivial, by simp [valB]; omega⟩
    · rw [if_neg hv]
      have h1 : 0 ≤ v / W64 := Int.ediv_nonneg h0 (Int.le_of_lt W64_pos)
      have h2 : v / W64 < v := Int.ediv_lt_of_lt_mul W64_pos (by rw [W64_eq]; omega)
      obtain ⟨i1, i2⟩ := canF_ok f (v / W64) h1 (by omega)
      have h3 := Int.emod_add_mul_ediv v W64
      refine ⟨⟨⟨Int.emod_nonneg _ (by decide), Int.emod_lt_of_pos _ W64_pos⟩, i1, fun hn => ?_⟩, ?_⟩
      · rw [hn] at i2
        have i3 : v / W64 = 0 := i2.symm
        rw [i3] at h3
        omega
      · show v % W64 + W64 * valB W64 (canF f (v / W64)) = v
        rw [i2]; exact h3
theorem can_canL {v : Int} (h : 0 ≤ v) : canL (can v) := (canF_ok _ v h (Nat.le_refl _)).1
theorem can_in {v : Int} (h : 0 ≤ v) : inW (can v) := canL_in (can_canL h)
theorem can_val {v : Int} (h : 0 ≤ v) : valB W64 (can v) = v := (canF_ok _ v h (Nat.le_refl _)).2
theorem can_eq {l : List Int} (h : canL l) {v : Int} (e : valB W64 l = v) : l = can v := by
  have h0 : 0 ≤ v := by rw [← e]; exact valB_nonneg W64_pos (canL_in h)
  exact canL_inj h (can_canL h0) (by rw [e, can_val h0])
theorem valW_nonneg {l : List Int} (h : inW l) : 0 ≤ valB W64 l := valB_nonneg W64_pos h
/-- A number below W^n has at most n words. -/
theorem canL_low : ∀ {l : List Int}, canL l → l ≠ [] → W64 ^ (l.length - 1) ≤ valB W64 l
  | [], _, h => (h rfl).elim
  | [x], h, _ => by have := canL_pos h; simp only [List.length_cons, List.length_nil, Nat.zero_add, Nat.sub_self, Int.pow_zero]; omega
  | x :: y :: l, h, _ => by
    have h1 := canL_low h.2.1 (by simp)
    have h2 := h.1.1
    have h3 := Int.mul_le_mul_of_nonneg_left h1 (Int.le_of_lt W64_pos)
    show W64 ^ (l.length + 1) ≤ x + W64 * valB W64 (y :: l)
    simp only [List.length_cons, Nat.add_sub_cancel] at h3
    rw [Int.pow_succ, Int.mul_comm]
    omega
theorem pow_mono {B : Int} (hB : 1 ≤ B) {m n : Nat} (h : m ≤ n) : B ^ m ≤ B ^ n := by
  obtain ⟨d, rfl⟩ := Nat.exists_eq_add_of_le h
  rw [Int.pow_add]
  have h1 : 0 < B ^ d := pow_posB (by omega) d
  have h2 : 0 < B ^ m := pow_posB (by omega) m
  have := Int.mul_le_mul_of_nonneg_left (show 1 ≤ B ^ d by omega) (Int.le_of_lt h2)
  omega
/-- Trimming a row. -/
theorem take_can {l : List Int} (hl : inW l) {m : Nat} (hm : m ≤ l.length) (hv : valB W64 (l.take m) = valB W64 l) (he : m = 0 ∨ l.getD (m - 1) 0 ≠ 0) : l.take m = can (valB W64 l) := by
  refine can_eq (canL_of (inB_take hl m) ?_) hv
  rcases he with rfl | he
  · exact .inl rfl
  · by_cases h0 : m = 0
    · subst h0; exact .inl rfl
    · right
      rw [List.length_take, Nat.min_eq_left hm, List.getD_eq_getElem?_getD, List.getElem?_take, if_pos (by omega), ← List.getD_eq_getElem?_getD]
      exact he
theorem last_nz (l : List Int) : ∀ n, n ≤ l.length → valB W64 (l.take n) = valB W64 l → ∃ m, m ≤ l.length ∧ valB W64 (l.take m) = valB W64 l ∧ (m = 0 ∨ l.getD (m - 1) 0 ≠ 0)
  | 0, _, h => ⟨0, Nat.zero_le _, h, .inl rfl⟩
  | n + 1, hn, h => by
    by_cases hz : l.getD n 0 = 0
    · refine last_nz l n (by omega) ?_
      rw [← h, valB_take_succ W64 l n (by omega), hz, Int.mul_zero, Int.add_zero]
    · exact ⟨n + 1, hn, h, .inr hz⟩
theorem can_take_le {l : List Int} (hl : inW l) : (can (valB W64 l)).length ≤ l.length ∧ l.take (can (valB W64 l)).length = can (valB W64 l) := by
  obtain ⟨m, hm, hv, he⟩ := last_nz l l.length (Nat.le_refl _) (by rw [List.take_length])
  have h1 := take_can hl hm hv he
  have h2 : (can (valB W64 l)).length = m := by rw [← h1, List.length_take, Nat.min_eq_left hm]
  exact ⟨by omega, by rw [h2]; exact h1⟩
theorem can_le {l : List Int} (hl : inW l) : (can (valB W64 l)).length ≤ l.length := (can_take_le hl).1
theorem can_take {l : List Int} (hl : inW l) : l.take (can (valB W64 l)).length = can (valB W64 l) := (can_take_le hl).2
theorem can_zero : can 0 = [] := rfl
theorem can_nil_iff {v : Int} (h : 0 ≤ v) : can v = [] ↔ v = 0 := by
  constructor
  · intro e; have := can_val h; rw [e] at this; exact this.symm
  · rintro rfl; rfl
end Go.Proofs.Ytkkkbalefnileaa.Ex
/- nat.trim. -/
namespace Go.Proofs.Ytkkkbalefnileaa.Ex
open Go.RowKit Go.Proofs.YtkkkbalefnileaaW.PrintWords Go.Proofs.YtkkkbalefnileaaW.PrintLast Go.Proofs.YtkkkbalefnileaaW.PrintMore
set_option linter.unusedVariables false
set_option linter.unusedSimpArgs false

theorem trim_exit {l : List Int} (hl : inW l) {k : Nat} (hk : k ≤ l.length) (hv : valB W64 (l.take k) = valB W64 l) (he : k = 0 ∨ l.getD (k - 1) 0 ≠ 0) : l.take k = can (valB W64 l) := take_can hl hk hv he
theorem trim_len {l : List Int} {k : Nat} (hk : k ≤ l.length) (h : l.take k = can (valB W64 l)) : (can (valB W64 l)).length = k := by rw [← h, List.length_take, Nat.min_eq_left hk]
set_option maxHeartbeats 1000000 in
theorem trim1 (A0 : Option Addr) (c0 : Nat) (l0 : List Int) (w : World) (hw : inW l0) (hr0 : Kd.C (Kd.int .u64) w A0 l0.length l0) (hc0 : l0.length ≤ c0) :
    Calls Try.prog 41 #[.slice A0 l0.length c0] w
      fun e w' => e = .returned (.slice A0 (can (valB W64 l0)).length c0) ∧ w = w' := by
  have hn : l0.length ≤ 9223372036854775807 := hr0.2.1
  have HR := Aside0.mk hr0
  clear hr0
  go_enter Try.func41, Try.ntmps41
  go_wp2
  go_loop [3] (fun i => ∃ k : Nat, k ≤ l0.length ∧ i = .int .i64 k ∧ Aside0 (valB W64 (l0.take k) = valB W64 l0)) (fun i => (intOf i).toNat)
  case atStart => exact ⟨l0.length, Nat.le_refl _, rfl, ⟨by rw [List.take_length]⟩⟩
  case round =>
    obtain ⟨k, hk, rfl, HA⟩ := hrel
    by_cases h0 : (0 : Int) < (k : Int)
    · have h0b : decide ((0 : Int) < (k : Int)) = true := decide_eq_true h0
      obtain ⟨ad, rfl, hx0⟩ := Kd.at_int HR.out ((k : Int) - 1) (by omega) (by omega)
      have e0 : rd l0 ((k : Int) - 1) = l0.getD (k - 1) 0 := by unfold rd; congr 1; omega
      have e1 : ((k : Int) - 1).toNat = k - 1 := by omega
      rw [e0, e1] at hx0
      have HG := Aside0.mk (show valB W64 (l0.take k) = valB W64 (l0.take (k - 1)) + W64 ^ (k - 1) * l0.getD (k - 1) 0 by
        have := valB_take_succ W64 l0 (k - 1) (by omega)
        rw [show k - 1 + 1 = k by omega] at this; exact this)
      have HX := Aside0.mk (show ∀ y, l0.getD (k - 1) 0 = y → y ≠ 0 → l0.take k = can (valB W64 l0) from fun y hy hy0 => trim_exit hw hk HA.out (.inr (by rw [hy]; exact hy0)))
      obtain ⟨x, hx⟩ : ∃ x, x = l0.getD (k - 1) 0 := ⟨_, rfl⟩
      rw [← hx] at hx0 HG HX
      clear hx e0
      have i1 : (0 : Int) ≤ (k : Int) - 1 := by omega
      have i2 : (k : Int) - 1 < (l0.length : Int) := by omega
      by_cases hz : x = 0
      · have hzb : (x == 0) = true := beq_iff_eq.2 hz
        subst hz
        go_wp2
        go_round
        case rel => exact ⟨k - 1, by omega, by go_num, ⟨by rw [← HA.out, HG.out]; simp⟩⟩
        case measure => simp [intOf]; omega
      · have hzb : (x == 0) = false := beq_eq_false_iff_ne.2 hz
        go_wp2
        go_ret
        exact ⟨by rw [trim_len hk (HX.out x rfl hz)]; rfl, rfl⟩
    · have h0b : decide ((0 : Int) < (k : Int)) = false := decide_eq_false h0
      obtain rfl : k = 0 := by omega
      go_wp2
      go_ret
      exact ⟨by rw [trim_len hk (trim_exit hw hk HA.out (.inl rfl))]; rfl, rfl⟩
end Go.Proofs.Ytkkkbalefnileaa.Ex
/- nat.fit, length, Len, compare, tooLong. -/
namespace Go.Proofs.Ytkkkbalefnileaa.Ex
open Go.RowKit Go.Proofs.YtkkkbalefnileaaW.PrintWords Go.Proofs.YtkkkbalefnileaaW.PrintLast Go.Proofs.YtkkkbalefnileaaW.PrintMore
set_option linter.unusedVariables false
set_option linter.unusedSimpArgs false

instance canDec : ∀ l : List Int, Decidable (canL l)
  | [] => isTrue trivial
  | x :: l => have := canDec l; inferInstanceAs (Decidable (isW x ∧ canL l ∧ (l = [] → x ≠ 0)))
theorem C_take {w : World} {A : Option Addr} {l : List Int} (h : Kd.C (Kd.int .u64) w A l.length l) (m : Nat) (hm : m ≤ l.length) : Kd.C (Kd.int .u64) w A (l.take m).length (l.take m) := by
  rw [List.length_take, Nat.min_eq_left hm]
  exact Kd.C_of_reads (h1 := fun _ => rfl) ((Kd.reads_of_C (enc := Value.int .u64) (d := (0 : Int)) (h1 := fun _ => rfl) h).take_ m (by omega))
set_option maxHeartbeats 1000000 in
theorem fit1 (A0 : Option Addr) (c0 : Nat) (l0 : List Int) (w : World) (hw : inW l0) (hr0 : Kd.C (Kd.int .u64) w A0 l0.length l0) (hc0 : l0.length ≤ c0) :
    Calls Try.prog 45 #[.slice A0 l0.length c0] w
      fun e w' => e = .returned (if (can (valB W64 l0)).length ≤ 4096 then .tuple #[.slice A0 (can (valB W64 l0)).length c0, .int .i64 0] else .tuple #[.slice none 0 0, .int .i64 2]) ∧ w = w' := by
  have HR := Aside0.mk hr0
  clear hr0
  by_cases h4 : (can (valB W64 l0)).length ≤ 4096
  · rw [if_pos h4]
    have h4b : decide ((4096 : Int) < ((can (valB W64 l0)).length : Int)) = false := decide_eq_false (by omega)
    go_enter Try.func45, Try.ntmps45
    go_wp2_with (go_at_call 41; refine (trim1 _ _ l0 _ hw HR.out hc0).mono ?_; rintro e w' ⟨rfl, rfl⟩)
    go_ret2
    exact ⟨rfl, rfl⟩
  · rw [if_neg h4]
    have h4b : decide ((4096 : Int) < ((can (valB W64 l0)).length : Int)) = true := decide_eq_true (by omega)
    go_enter Try.func45, Try.ntmps45
    go_wp2_with (go_at_call 41; refine (trim1 _ _ l0 _ hw HR.out hc0).mono ?_; rintro e w' ⟨rfl, rfl⟩)
    go_ret2
    exact ⟨rfl, rfl⟩
/-- The length in bits. -/
def lenL (l : List Int) : Int := if l.length = 0 then 0 else 64 * (l.length : Int) - (64 - (Lib.bitLen (l.getD (l.length - 1) 0).toNat : Int))
def nat_length.f (l0 : List Int) : Option Int := if inW l0 ∧ l0.length ≤ 1000000 then some (lenL l0) else none
set_option maxHeartbeats 1000000 in
theorem nat_length.calls (A0 : Option Addr) (c0 : Nat) (l0 : List Int) (r : Int) (w : World) (hr0 : Kd.C (Kd.int .u64) w A0 l0.length l0) (hc0 : l0.length ≤ c0) (h : nat_length.f l0 = some r) :
    Calls Try.prog 42 #[.slice A0 l0.length c0] w fun e w' => e = .returned (.int .i64 r) ∧ Drawn0 w w' := by
  unfold nat_length.f at h
  by_cases hw : inW l0 ∧ l0.length ≤ 1000000
  · rw [if_pos hw] at h
    cases h
    obtain ⟨hw, hm⟩ := hw
    unfold lenL
    by_cases h0 : l0.length = 0
    · rw [if_pos h0]
      obtain rfl := List.eq_nil_of_length_eq_zero h0
      clear hr0
      go_enter Try.func42, Try.ntmps42
      go_wp2
      go_ret
      exact ⟨rfl, Drawn0.refl _⟩
    · rw [if_neg h0]
      obtain ⟨ad, rfl, hx0⟩ := Kd.at_int hr0 ((l0.length : Int) - 1) (by omega) (by omega)
      have e0 : rd l0 ((l0.length : Int) - 1) = l0.getD (l0.length - 1) 0 := by unfold rd; congr 1; omega
      have e1 : ((l0.length : Int) - 1).toNat = l0.length - 1 := by omega
      rw [e0, e1] at hx0
      have hx := isW_get hw (l0.length - 1)
      have h0b : ((l0.length : Int) == 0) = false := beq_eq_false_iff_ne.2 (by omega)
      have h0c : (l0.length == 0) = false := beq_eq_false_iff_ne.2 h0
      obtain ⟨x, hxx⟩ : ∃ x, x = l0.getD (l0.length - 1) 0 := ⟨_, rfl⟩
      rw [← hxx] at hx0 hx ⊢
      have i1 : (0 : Int) ≤ (l0.length : Int) - 1 := by omega
      have i2 : (l0.length : Int) - 1 < (l0.length : Int) := by omega
      have hz : bits_LeadingZeros64.f x = some (64 - (Lib.bitLen x.toNat : Int)) := by
        unfold bits_LeadingZeros64.f
        rw [if_pos ⟨hx.1, by have := hx.2; rw [W64_eq] at this; omega⟩]
      have hbl := (bitLen_bounds 64 x.toNat (Nat.le_refl _) (by have := hx.2; rw [W64_eq] at this; omega)).2.2
      clear hxx hr0 hw
      go_enter Try.func42, Try.ntmps42
      go_wp2_with (go_at_call 77; refine (bits_LeadingZeros64.calls x _ _ hz).mono ?_; rintro e w' ⟨rfl, ⟨nd, rfl⟩⟩)
      go_ret
      exact ⟨by go_num, ⟨nd, rfl⟩⟩
  · rw [if_neg hw] at h; cases h
def nat_Len.f (l0 : List Int) : Option Int := if inW l0 ∧ l0.length ≤ 1000000 then some (lenL (can (valB W64 l0))) else none
set_option maxHeartbeats 1000000 in
theorem nat_Len.calls (A0 : Option Addr) (c0 : Nat) (l0 : List Int) (r : Int) (w : World) (hr0 : Kd.C (Kd.int .u64) w A0 l0.length l0) (hc0 : l0.length ≤ c0) (h : nat_Len.f l0 = some r) :
    Calls Try.prog 61 #[.slice A0 l0.length c0] w fun e w' => e = .returned (.int .i64 r) ∧ Drawn0 w w' := by
  unfold nat_Len.f at h
  by_cases hw : inW l0 ∧ l0.length ≤ 1000000
  · rw [if_pos hw] at h
    cases h
    obtain ⟨hw, hm⟩ := hw
    have HR := Aside0.mk hr0
    clear hr0
    have hcall := nat_length.calls A0 c0 (l0.take (can (valB W64 l0)).length) _ w (C_take HR.out _ (can_le hw)) (by rw [List.length_take]; omega) (by unfold nat_length.f; rw [if_pos ⟨inB_take hw _, by rw [List.length_take]; omega⟩])
    rw [can_take hw] at hcall
    go_enter Try.func61, Try.ntmps61
    go_wp2_with (first | (go_at_call 41; refine (trim1 _ _ l0 _ hw HR.out hc0).mono ?_; rintro e w' ⟨rfl, rfl⟩) | (go_at_call 42; refine hcall.mono ?_; rintro e w' ⟨rfl, ⟨nd, rfl⟩⟩))
    go_ret
    exact ⟨rfl, ⟨nd, rfl⟩⟩
  · rw [if_neg hw] at h; cases h
theorem cmp_split {x y : List Int} (hx : inW x) (hy : inW y) (hl : x.length = y.length) {k : Nat} (hk : k < x.length) (hd : x.drop (k + 1) = y.drop (k + 1)) (h : x.getD k 0 < y.getD k 0) : valB W64 x < valB W64 y := by
  have h1 := valB_split W64 x (k + 1) (by omega)
  have h2 := valB_split W64 y (k + 1) (by omega)
  have h3 := valB_take_succ W64 x k (by omega)
  have h4 := valB_take_succ W64 y k (by omega)
  have h5 := valB_lt W64_pos (inB_take hx k)
  rw [List.length_take, Nat.min_eq_left (by omega)] at h5
  have h6 := valB_nonneg W64_pos (inB_take hy k)
  have h7 : W64 ^ k * (x.getD k 0 + 1) ≤ W64 ^ k * y.getD k 0 := Int.mul_le_mul_of_nonneg_left h (Int.le_of_lt (pow_posB W64_pos k))
  rw [Int.mul_add, Int.mul_one] at h7
  rw [hd] at h1
  omega
theorem cmp_short {x y : List Int} (hx : canL x) (hy : canL y) (hl : x.length < y.length) : valB W64 x < valB W64 y := by
  have h1 := valB_lt W64_pos (canL_in hx)
  have h2 := canL_low hy (by rintro rfl; simp at hl)
  have h3 := pow_mono (B := W64) (by decide) (show x.length ≤ y.length - 1 by omega)
  omega
theorem cmpI_lt {a b : Int} (h : a < b) : cmpI a b = -1 := by unfold cmpI; rw [if_pos h]
theorem cmpI_gt {a b : Int} (h : b < a) : cmpI a b = 1 := by unfold cmpI; rw [if_neg (by omega), if_pos h]
theorem cmpI_eq (a : Int) : cmpI a a = 0 := by unfold cmpI; rw [if_neg (by omega), if_neg (by omega)]
theorem drawn_drew {w w' : World} (h : Drawn0 w w') : Drawn0 w w'.drew := h.step 1
def nat_compare.f (l0 l1 : List Int) : Option Int := if canL l0 ∧ canL l1 ∧ l0.length ≤ 1000000 ∧ l1.length ≤ 1000000 then some (cmpI (valB W64 l0) (valB W64 l1)) else none
set_option maxHeartbeats 2000000 in
theorem nat_compare.calls (A0 : Option Addr) (c0 : Nat) (l0 : List Int) (A1 : Option Addr) (c1 : Nat) (l1 : List Int) (r : Int) (w : World) (hr0 : Kd.C (Kd.int .u64) w A0 l0.length l0) (hc0 : l0.length ≤ c0) (hr1 : Kd.C (Kd.int .u64) w A1 l1.length l1) (hc1 : l1.length ≤ c1) (h : nat_compare.f l0 l1 = some r) :
  Calls Try.prog 67 #[.slice A0 l0.length c0, .slice A1 l1.length c1] w fun e w' => e = .returned (.int .i64 r) ∧ Drawn0 w w' := by
 unfold nat_compare.f at h
 by_cases hw : canL l0 ∧ canL l1 ∧ l0.length ≤ 1000000 ∧ l1.length ≤ 1000000
 ·rw [if_pos hw] at h
  cases h
  obtain ⟨hw0, hw1, hm0, hm1⟩ := hw
  have HR0 := Aside0.mk hr0
  have HR1 := Aside0.mk hr1
  clear hr0 hr1
  by_cases hl : l0.length = l1.length
  ·have c3b0 : ((l0.length : Int) == (l1.length : Int)) = true := beq_iff_eq.mpr (by omega)
   have c3b1 : ((l0.length : Int) != (l1.length : Int)) = false := bne_eq_false_iff_eq.mpr (by omega)
   have c3b2 : (l0.length == l1.length) = true := beq_iff_eq.mpr hl
   have HL := Aside0.mk hl
   clear hl
   go_enter Try.func67, Try.ntmps67
   go_wp2
   go_loopw [5] (fun v wr => ∃ k : Nat, k ≤ l0.length ∧ v = .int .i64 ((k : Int) - 1) ∧ Aside0 (l0.drop k = l1.drop k) ∧ Aside0 (Drawn0 w wr)) (fun v _ => (intOf v + 1).toNat)
   case atStart => exact ⟨l0.length, Nat.le_refl _, by go_num, ⟨by rw [List.drop_length, HL.out, List.drop_length]⟩, ⟨Drawn0.refl _⟩⟩
   case round =>
    clear c3b0 c3b1 c3b2
    obtain ⟨k, hk, rfl, HD, HW⟩ := hrel
    by_cases h0 : (0 : Int) ≤ (k : Int) - 1
    ·have h0b : decide ((0 : Int) ≤ (k : Int) - 1) = true := decide_eq_true h0
     have hl := HL.out
     obtain ⟨ad0, rfl, hx0⟩ := Kd.at_int HR0.out ((k : Int) - 1) (by omega) (by omega)
     obtain ⟨ad1, rfl, hx1⟩ := Kd.at_int HR1.out ((k : Int) - 1) (by omega) (by omega)
     have e0 : rd l0 ((k : Int) - 1) = l0.getD (k - 1) 0 := by unfold rd; congr 1; omega
     have e1 : rd l1 ((k : Int) - 1) = l1.getD (k - 1) 0 := by unfold rd; congr 1; omega
     have e2 : ((k : Int) - 1).toNat = k - 1 := by omega
     rw [e0, e2] at hx0
     rw [e1, e2] at hx1
     replace hx0 := (HW.out.below.cell (World.block_lt_of_cell? w _ hx0)).trans hx0
     replace hx1 := (HW.out.below.cell (World.block_lt_of_cell? w _ hx1)).trans hx1
     have i1 : (0 : Int) ≤ (k : Int) - 1 := by omega
     have i2 : (k : Int) - 1 < (l0.length : Int) := by omega
     have i3 : (k : Int) - 1 < (l1.length : Int) := by omega
     have HD' : l0.drop (k - 1 + 1) = l1.drop (k - 1 + 1) := by rw [show k - 1 + 1 = k by omega]; exact HD.out
     have F1 := Aside0.mk (fun h => cmp_split (canL_in hw0) (canL_in hw1) hl (show k - 1 < l0.length by omega) HD' h)
     have F2 := Aside0.mk (fun h => cmp_split (canL_in hw1) (canL_in hw0) hl.symm (show k - 1 < l1.length by omega) HD'.symm h)
     have F3 := Aside0.mk (show l0.getD (k - 1) 0 = l1.getD (k - 1) 0 → l0.drop (k - 1) = l1.drop (k - 1) from fun h => by
      rw [List.drop_eq_getElem_cons (by omega), List.drop_eq_getElem_cons (l := l1) (by omega), HD']
      congr 1
      simpa [List.getD_eq_getElem?_getD, show k - 1 < l0.length by omega, show k - 1 < l1.length by omega] using h)
     clear HD' e0 e1 HD hl
     obtain ⟨x, hx⟩ : ∃ x, x = l0.getD (k - 1) 0 := ⟨_, rfl⟩
     obtain ⟨y, hy⟩ : ∃ y, y = l1.getD (k - 1) 0 := ⟨_, rfl⟩
     rw [← hx] at hx0 F1 F2 F3
     rw [← hy] at hx1 F1 F2 F3
     clear hx hy
     by_cases hxy : x = y
     ·subst hxy
      have b0 : (x == x) = true := beq_iff_eq.2 rfl
      have b1 : (x != x) = false := bne_eq_false_iff_eq.mpr rfl
      go_wp2
      repeat (go_quiet (fail); try go_wp2)
      go_roundw
      case rel => exact ⟨k - 1, by omega, by go_num, ⟨F3.out (by trivial)⟩, ⟨by repeat (first | exact HW.out | apply Drawn0.step | apply drawn_drew)⟩⟩
      case measure => simp [intOf]; omega
     ·have b0 : (x == y) = false := beq_eq_false_iff_ne.2 hxy
      have b1 : (x != y) = true := bne_iff_ne.mpr hxy
      by_cases hlt : x < y
      ·have b2 : decide (x < y) = true := decide_eq_true hlt
       go_wp2
       repeat (go_quiet (fail); try go_wp2)
       go_ret
       exact ⟨by rw [cmpI_lt (F1.out hlt)]; rfl, by repeat (first | exact HW.out | apply Drawn0.step | apply drawn_drew)⟩
      ·have b2 : decide (x < y) = false := decide_eq_false hlt
       go_wp2
       repeat (go_quiet (fail); try go_wp2)
       go_ret
       exact ⟨by rw [cmpI_gt (F2.out (by omega))]; rfl, by repeat (first | exact HW.out | apply Drawn0.step | apply drawn_drew)⟩
    ·have h0b : decide ((0 : Int) ≤ (k : Int) - 1) = false := decide_eq_false h0
     obtain rfl : k = 0 := by omega
     have HE := Aside0.mk (show l0 = l1 from HD.out)
     go_wp2
     go_ret
     exact ⟨by rw [HE.out, cmpI_eq]; rfl, HW.out⟩
  ·have c3b0 : ((l0.length : Int) == (l1.length : Int)) = false := beq_eq_false_iff_ne.mpr (by omega)
   have c3b1 : ((l0.length : Int) != (l1.length : Int)) = true := bne_iff_ne.mpr (by omega)
   have c3b2 : (l0.length == l1.length) = false := beq_eq_false_iff_ne.mpr hl
   have hr : cmpI (valB W64 l0) (valB W64 l1) = 2 * min 1 (max 0 ((l0.length : Int) - l1.length)) - 1 := by
    by_cases hlt : l0.length < l1.length
    ·rw [cmpI_lt (cmp_short hw0 hw1 hlt)]; omega
    ·rw [cmpI_gt (cmp_short hw1 hw0 (by omega))]; omega
   rw [hr]
   clear hr
   go_enter Try.func67, Try.ntmps67
   go_wp2
   go_ret
   exact ⟨by go_num, Drawn0.refl _⟩
 ·rw [if_neg hw] at h; cases h
def nat_tooLong.f (a0 a1 : Int) : Option Bool := if 0 ≤ a0 ∧ 0 ≤ a1 ∧ a0 ≤ 1000000000 ∧ a1 ≤ 1000000000 then some (decide (0 < a0 ∧ 0 < a1 ∧ 262144 < a0 + a1 - 1)) else none
set_option maxHeartbeats 1000000 in
theorem nat_tooLong.calls (a0 : Int) (a1 : Int) (r : Bool) (w : World)  (h : nat_tooLong.f a0 a1 = some r) :
    Calls Try.prog 60 #[.int .i64 a0, .int .i64 a1] w fun e w' => e = .returned (.bool r) ∧ Drawn0 w w' := by
  unfold nat_tooLong.f at h
  by_cases hw : 0 ≤ a0 ∧ 0 ≤ a1 ∧ a0 ≤ 1000000000 ∧ a1 ≤ 1000000000
  · rw [if_pos hw] at h
    cases h
    by_cases h0 : 0 < a0
    · have b0 : decide (0 < a0) = true := decide_eq_true h0
      by_cases h1 : 0 < a1
      · have b1 : decide (0 < a1) = true := decide_eq_true h1
        have b2 : decide (0 < a0 ∧ 0 < a1 ∧ 262144 < a0 + a1 - 1) = decide (262144 < a0 + a1 - 1) := by simp [h0, h1]
        rw [b2]
        clear b2
        go_enter Try.func60, Try.ntmps60
        go_wp2
        go_ret
        exact ⟨by go_num, Drawn0.refl _⟩
      · have b1 : decide (0 < a1) = false := decide_eq_false h1
        have b2 : decide (0 < a0 ∧ 0 < a1 ∧ 262144 < a0 + a1 - 1) = false := by simp [h1]
        rw [b2]
        clear b2
        go_enter Try.func60, Try.ntmps60
        go_wp2
        go_ret
        exact ⟨rfl, Drawn0.refl _⟩
    · have b0 : decide (0 < a0) = false := decide_eq_false h0
      have b2 : decide (0 < a0 ∧ 0 < a1 ∧ 262144 < a0 + a1 - 1) = false := by simp [h0]
      rw [b2]
      clear b2
      go_enter Try.func60, Try.ntmps60
      go_wp2
      go_ret
      exact ⟨rfl, Drawn0.refl _⟩
  · rw [if_neg hw] at h; cases h
end Go.Proofs.Ytkkkbalefnileaa.Ex
/- What a trimmed row is: small helpers. -/
namespace Go.Proofs.Ytkkkbalefnileaa.Ex
open Go.RowKit Go.Proofs.YtkkkbalefnileaaW.PrintWords Go.Proofs.YtkkkbalefnileaaW.PrintLast Go.Proofs.YtkkkbalefnileaaW.PrintMore
set_option linter.unusedVariables false
set_option linter.unusedSimpArgs false

theorem R_can {W : World} {base : Nat} {A : Option Addr} {n c : Nat} {l : List Int} (h : Kd.R (Kd.int .u64) 33 W base (fun _ => True) (.slice A n c) l) (hw : inW l) :
    Kd.R (Kd.int .u64) 33 W base (fun _ => True) (.slice A (can (valB W64 l)).length c) (can (valB W64 l)) := by
  obtain ⟨hn, _, _⟩ := Kd.R_reads' h
  subst hn
  have h1 := Kd.own_of_R (enc := Value.int .u64) (h1 := fun _ => rfl) h
  have h2 := own_take h1 (can_le hw)
  refine Kd.R_of_own (enc := Value.int .u64) (h1 := fun _ => rfl) ?_ (fun _ _ => trivial)
  have e : (encs (Value.int .u64) l).take ((can (valB W64 l)).length * 1) = encs (Value.int .u64) (can (valB W64 l)) := by
    rw [Nat.mul_one]
    unfold encs
    rw [← List.map_take, can_take hw]
  rw [e] at h2
  exact h2
theorem R_C {W : World} {base : Nat} {A : Option Addr} {n c : Nat} {l : List Int} (h : Kd.R (Kd.int .u64) 33 W base (fun _ => True) (.slice A n c) l) : Kd.C (Kd.int .u64) W A l.length l := (Kd.R_reads' h).2.2
theorem R_cap {W : World} {base : Nat} {A : Option Addr} {n c : Nat} {l : List Int} (h : Kd.R (Kd.int .u64) 33 W base (fun _ => True) (.slice A n c) l) : l.length ≤ c := by
  obtain ⟨h1, h2, _⟩ := Kd.R_reads' h
  omega
/-- The words of what is below a power of the base. -/
theorem can_short {v : Int} {n : Nat} (h0 : 0 ≤ v) (h : v < W64 ^ n) : (can v).length ≤ n := by
  by_cases hn : (can v).length ≤ n
  · exact hn
  · exfalso
    have h1 := canL_low (can_canL h0) (by rintro e; rw [e] at hn; simp at hn)
    rw [can_val h0] at h1
    have h2 := pow_mono (B := W64) (by decide) (show n ≤ (can v).length - 1 by omega)
    omega
theorem can_high {v : Int} {n : Nat} (h0 : 0 ≤ v) (h : W64 ^ n ≤ v) : n < (can v).length := by
  by_cases hn : n < (can v).length
  · exact hn
  · exfalso
    have h1 := valB_lt W64_pos (can_in h0)
    rw [can_val h0] at h1
    have h2 := pow_mono (B := W64) (by decide) (show (can v).length ≤ n by omega)
    omega
theorem can_can {l : List Int} (h : canL l) : can (valB W64 l) = l := (can_eq h rfl).symm
end Go.Proofs.Ytkkkbalefnileaa.Ex
/- words.checked, at any rows. -/
namespace Go.Proofs.Ytkkkbalefnileaa.Ex
open Go.RowKit Go.Proofs.YtkkkbalefnileaaW.PrintWords Go.Proofs.YtkkkbalefnileaaW.PrintLast Go.Proofs.YtkkkbalefnileaaW.PrintMore
set_option linter.unusedVariables false
set_option linter.unusedSimpArgs false

/-- What checked tells of rows. -/
def chk (l : List (List Int)) : Int :=
  if (l.all fun x => decide (x.length ≤ 4096)) = true then (if (l.all fun x => decide (x.length = (l.headD []).length)) = true then 0 else 1) else 2
theorem all_take_succ' (n : Nat) (l : List (List Int)) (k : Nat) (h : k < l.length) : ((l.take (k + 1)).all fun x => decide (x.length = n)) = (((l.take k).all fun x => decide (x.length = n)) && decide (l[k].length = n)) := by
  rw [List.take_succ_eq_append_getElem h, List.all_append, List.all_cons, List.all_nil, Bool.and_true]
theorem checked (A0 : Option Addr) (c0 : Nat) (l0 : List (List Int)) (w : World) (hr0 : Kd.C (Kd.slice 33 (Kd.int .u64)) w A0 l0.length l0) (hc0 : l0.length ≤ c0) :
    Calls Try.prog 91 #[.slice A0 l0.length c0] w fun e w' => e = .returned (.int .i64 (chk l0)) ∧ Drawn0 w w' := by
  have HR := Aside0.mk hr0
  have hn : l0.length ≤ 9223372036854775807 := hr0.2.1
  clear hr0
  have HW := Aside0.mk (Drawn0.refl w)
  by_cases hf : (l0.all fun x => decide (x.length ≤ 4096)) = true
  · have HF := Aside0.mk hf
    clear hf
    go_enter Try.func91, Try.ntmps91
    go_wp2_with (go_at_call 83; refine (words_few.calls _ _ l0 true _ HR.out hc0 (by unfold words_few.f; rw [HF.out])).mono ?_; rintro e w' ⟨rfl, hd⟩; obtain ⟨nd, rfl⟩ := hd.out)
    have HR2 := Aside0.mk (Kd.C_below HR.out hd.below)
    have HD := Aside0.mk hd
    clear hd HR HW
    generalize w.drewN nd = W at HR2 HD ⊢
    obtain ⟨N, hN⟩ : ∃ q, q = (l0.headD []).length := ⟨_, rfl⟩
    have HN := Aside0.mk hN
    clear hN
    go_loop [4, 10] (fun _ i => ∃ k : Nat, k ≤ l0.length ∧ i = .int .i64 k ∧ Aside0 (((l0.take k).all fun x => decide (x.length = N)) = true)) (fun _ i => l0.length - (intOf i).toNat)
    case atStart => exact ⟨0, Nat.zero_le _, rfl, ⟨by simp⟩⟩
    case round =>
      obtain ⟨k, hk, rfl, HA⟩ := hrel
      by_cases hlt : k < l0.length
      · obtain ⟨ad, c, rfl, hcl, hK, hcell⟩ := Kd.C_get HR2.out [] k (by omega) (by omega)
        obtain ⟨A1, c1, rfl, hl1, hC1⟩ := hK
        have hc1 := hcell 0 _ rfl
        simp only [Int.toNat_natCast] at hc1 hC1 hl1
        have e0 : k * (Kd.slice 33 (Kd.int .u64)).sz + 0 = k := by simp [Kd.slice]
        rw [e0] at hc1
        have HS := Aside0.mk (all_take_succ' N l0 k hlt)
        have hg : (l0[k]?.getD []) = l0[k] := by rw [List.getElem?_eq_getElem hlt]; rfl
        have hgd : l0.getD k [] = l0[k] := by rw [List.getD_eq_getElem?_getD, hg]
        rw [hgd] at hc1
        clear hcell hC1 hl1 hcl hg hgd e0
        obtain ⟨ad', c', e', hcl, hK, hcell⟩ := Kd.C_get HR2.out [] 0 (by omega) (by omega)
        cases e'
        obtain ⟨A2, c2, rfl, hl1, hC1⟩ := hK
        have hc2 := hcell 0 _ rfl
        have e0 : (0 : Int).toNat * (Kd.slice 33 (Kd.int .u64)).sz + 0 = 0 := by simp
        rw [e0] at hc2
        have hz : l0.getD (0 : Int).toNat [] = l0.headD [] := by cases l0 <;> rfl
        rw [hz, ← HN.out] at hc2
        have hc3 : W.cell? ad = some (.slice A2 N c2) := hc2
        clear hc2
        clear hcell hC1 hl1 hcl hz e0
        have hp : (0:Int) < (l0.length : Int) := by omega
        have hpn : 0 < l0.length := by omega
        by_cases h4 : l0[k].length = N
        · have h4b : ((l0[k].length : Int) != (N : Int)) = false := bne_eq_false_iff_eq.2 (by rw [h4])
          have HQ := Aside0.mk h4
          clear h4
          go_wp2
          go_round
          case rel => exact ⟨k + 1, by omega, by go_num, ⟨by rw [HS.out, HA.out]; simp [HQ.out]⟩⟩
          case measure => simp [intOf]; omega
        · have h4b : ((l0[k].length : Int) != (N : Int)) = true := bne_iff_ne.2 (fun e => h4 (by omega))
          have HQ := Aside0.mk h4
          clear h4
          go_wp2
          go_ret
          have hf : (l0.all fun x => decide (x.length = N)) = false := by
            rw [List.all_eq_false]
            exact ⟨l0[k], List.getElem_mem _, by simpa using HQ.out⟩
          refine ⟨?_, HD.out⟩
          unfold chk
          rw [← HN.out, if_pos HF.out, hf]
          rfl
      · obtain rfl : k = l0.length := by omega
        go_wp2
        go_ret
        have h1 := HA.out
        rw [List.take_length] at h1
        refine ⟨?_, HD.out⟩
        unfold chk
        rw [← HN.out, if_pos HF.out, h1]
        rfl
  · have HF := Aside0.mk (show (l0.all fun x => decide (x.length ≤ 4096)) = false by simpa using hf)
    clear hf
    go_enter Try.func91, Try.ntmps91
    go_wp2_with (go_at_call 83; refine (words_few.calls _ _ l0 false _ HR.out hc0 (by unfold words_few.f; rw [HF.out])).mono ?_; rintro e w' ⟨rfl, hd⟩; obtain ⟨nd, rfl⟩ := hd.out)
    go_ret
    refine ⟨?_, hd⟩
    unfold chk
    rw [HF.out]
    rfl
end Go.Proofs.Ytkkkbalefnileaa.Ex
/- words.Add and words.Sub. -/
namespace Go.Proofs.Ytkkkbalefnileaa.Ex
open Go.RowKit Go.Proofs.YtkkkbalefnileaaW.PrintWords Go.Proofs.YtkkkbalefnileaaW.PrintLast Go.Proofs.YtkkkbalefnileaaW.PrintMore
set_option linter.unusedVariables false
set_option linter.unusedSimpArgs false

theorem C_two {W : World} {b : Nat} {A0 A1 : Option Addr} {c0 c1 : Nat} {l0 l1 : List Int} {t : TypeId} {fr : Nat × Nat} (h0 : Kd.C (Kd.int .u64) W A0 l0.length l0) (g0 : l0.length ≤ c0) (h1 : Kd.C (Kd.int .u64) W A1 l1.length l1) (g1 : l1.length ≤ c1)
    (hb : W.heap[b]? = some (.cells #[.slice A0 l0.length c0, .slice A1 l1.length c1] t fr)) : Kd.C (Kd.slice 33 (Kd.int .u64)) W (some ⟨b, 0, none⟩) 2 [l0, l1] := by
  refine ⟨rfl, by decide, fun _ => ⟨_, rfl, fun j p hj => ?_⟩⟩
  match j, hj with
  | 0, hj =>
    cases hj
    refine ⟨[.slice A0 l0.length c0], rfl, ⟨A0, c0, rfl, g0, h0⟩, fun i u hu => ?_⟩
    cases i with
    | zero => cases hu; simp [World.cell?, Addr.add, hb]
    | succ i => simp at hu
  | 1, hj =>
    cases hj
    refine ⟨[.slice A1 l1.length c1], rfl, ⟨A1, c1, rfl, g1, h1⟩, fun i u hu => ?_⟩
    cases i with
    | zero => cases hu; simp [World.cell?, Addr.add, hb, Kd.slice]
    | succ i => simp at hu
  | j + 2, hj => simp at hj
theorem C_one {W : World} {b : Nat} {A0 : Option Addr} {c0 : Nat} {l0 : List Int} {t : TypeId} {fr : Nat × Nat} (h0 : Kd.C (Kd.int .u64) W A0 l0.length l0) (g0 : l0.length ≤ c0)
    (hb : W.heap[b]? = some (.cells #[.slice A0 l0.length c0] t fr)) : Kd.C (Kd.slice 33 (Kd.int .u64)) W (some ⟨b, 0, none⟩) 1 [l0] := by
  refine ⟨rfl, by decide, fun _ => ⟨_, rfl, fun j p hj => ?_⟩⟩
  match j, hj with
  | 0, hj =>
    cases hj
    refine ⟨[.slice A0 l0.length c0], rfl, ⟨A0, c0, rfl, g0, h0⟩, fun i u hu => ?_⟩
    cases i with
    | zero => cases hu; simp [World.cell?, Addr.add, hb]
    | succ i => simp at hu
  | j + 1, hj => simp at hj
theorem chk_two {l0 l1 : List Int} (h : chk [l0, l1] = 0) : l0.length ≤ 4096 ∧ l1.length = l0.length := by
  unfold chk at h
  by_cases h1 : ([l0, l1].all fun x => decide (x.length ≤ 4096)) = true
  · rw [if_pos h1] at h
    by_cases h2 : ([l0, l1].all fun x => decide (x.length = ([l0, l1].headD []).length)) = true
    · simp at h1 h2; exact ⟨h1.1, h2⟩
    · rw [if_neg h2] at h; cases h
  · rw [if_neg h1] at h; cases h
/-- Boxes in memory. -/
theorem box2 (w : World) (x y : Value) (cs : Array Value) (t u t3 : TypeId) : let W := ((w.alloc (.cells #[x] t)).alloc (.cells #[y] u)).alloc (.cells cs t3); W.cell? ⟨w.heap.size, 0, none⟩ = some x ∧ W.cell? ⟨w.heap.size + 1, 0, none⟩ = some y ∧ W.heap[w.heap.size + 1 + 1]? = some (.cells cs t3 (0, 0)) ∧ Below w.heap.size w W := by
  have h1 : (w.alloc (.cells #[x] t)).cell? ⟨w.heap.size, 0, none⟩ = some x := by unfold World.cell?; rw [heap_alloc_new]; rfl
  have e1 : (w.alloc (.cells #[x] t)).heap.size = w.heap.size + 1 := by simp
  have h2 : ((w.alloc (.cells #[x] t)).alloc (.cells #[y] u)).cell? ⟨w.heap.size + 1, 0, none⟩ = some y := by unfold World.cell?; rw [← e1, heap_alloc_new]; rfl
  have e2 : ((w.alloc (.cells #[x] t)).alloc (.cells #[y] u)).heap.size = w.heap.size + 1 + 1 := by simp
  have b2 : Below (w.alloc (.cells #[x] t)).heap.size (w.alloc (.cells #[x] t)) ((w.alloc (.cells #[x] t)).alloc (.cells #[y] u)) := below_alloc (Below.refl _ _) _
  have b3 : Below ((w.alloc (.cells #[x] t)).alloc (.cells #[y] u)).heap.size ((w.alloc (.cells #[x] t)).alloc (.cells #[y] u)) (((w.alloc (.cells #[x] t)).alloc (.cells #[y] u)).alloc (.cells cs t3)) := below_alloc (Below.refl _ _) _
  refine ⟨pw_cell_below b3 (pw_cell_below b2 h1), pw_cell_below b3 h2, by rw [← e2]; exact heap_alloc_new _ _, below_alloc (below_alloc (below_alloc (Below.refl _ _) _) _) _⟩
def words_Sub.f (l0 l1 : List Int) (a2 : Int) : Option (List Int × Int × Int) :=
  if inW l0 ∧ inW l1 ∧ isW a2 then
    if chk [l0, l1] = 0 then
      if 1 < a2 then some ([], 0, 1)
      else some ((carryL (fun i c => subS (l0.getD i 0) (l1.getD i 0) c) l0.length 0 a2).1, (carryL (fun i c => subS (l0.getD i 0) (l1.getD i 0) c) l0.length 0 a2).2, 0)
    else some ([], 0, chk [l0, l1])
  else none
set_option maxHeartbeats 2000000 in
theorem words_Sub.calls (A0 : Option Addr) (c0 : Nat) (l0 : List Int) (A1 : Option Addr) (c1 : Nat) (l1 : List Int) (a2 : Int) (r1 : List Int) (r2 : Int) (r3 : Int) (w : World) (hr0 : Kd.C (Kd.int .u64) w A0 l0.length l0) (hc0 : l0.length ≤ c0) (hr1 : Kd.C (Kd.int .u64) w A1 l1.length l1) (hc1 : l1.length ≤ c1) (h : words_Sub.f l0 l1 a2 = some (r1, r2, r3)) :
  Calls Try.prog 68 #[.slice A0 l0.length c0, .slice A1 l1.length c1, .int .u64 a2] w fun e w' => ∃ v0_ : Value, e = .returned (.tuple #[v0_, .int .u64 r2, .int .i64 r3]) ∧ Kd.R (Kd.int .u64) 33 w' w.heap.size (fun _ => True) v0_ r1 ∧ Below w.heap.size w w' := by
 unfold words_Sub.f at h
 by_cases hw : inW l0 ∧ inW l1 ∧ isW a2
 ·rw [if_pos hw] at h
  obtain ⟨hw0, hw1, hw2⟩ := hw
  have HR0 := Aside0.mk hr0
  have HR1 := Aside0.mk hr1
  clear hr0 hr1
  go_enter Try.func68, Try.ntmps68
  go_wp2_with fail
  obtain ⟨b0, b1, b2, hB⟩ := box2 w (.slice A0 l0.length c0) (.slice A1 l1.length c1) #[.slice A0 l0.length c0, .slice A1 l1.length c1] 22 22 22
  have C0 := Aside0.mk (Kd.C_below HR0.out hB)
  have C1 := Aside0.mk (Kd.C_below HR1.out hB)
  have HB := Aside0.mk hB
  clear hB HR0 HR1
  generalize (((w.alloc (.cells #[.slice A0 l0.length c0] 22)).alloc (.cells #[.slice A1 l1.length c1] 22)).alloc (.cells #[.slice A0 l0.length c0, .slice A1 l1.length c1] 22)) = W at *
  refine (checked (some ⟨w.heap.size + 1 + 1, 0, none⟩) 2 [l0, l1] _ (C_two C0.out hc0 C1.out hc1 b2) (Nat.le_refl 2)).mono ?_
  rintro e w' ⟨rfl, hd⟩
  have b0' := pw_cell_below hd.below b0
  have b1' := pw_cell_below hd.below b1
  have C0' := Aside0.mk (Kd.C_below C0.out hd.below)
  have C1' := Aside0.mk (Kd.C_below C1.out hd.below)
  have HB' := Aside0.mk (below_step HB.out hd.below)
  clear b0 b1 b2 C0 C1 HB hd
  clear W
  by_cases hc : chk [l0, l1] = 0
  ·rw [if_pos hc] at h
   have hcb : (chk [l0, l1] != 0) = false := bne_eq_false_iff_eq.2 hc
   obtain ⟨hl0, hl1⟩ := chk_two hc
   have HC := Aside0.mk hc
   clear hc
   by_cases h1 : 1 < a2
   ·rw [if_pos h1] at h
    cases h
    go_wp2
    go_ret3
    exact ⟨_, rfl, Kd.R_nil _ _ _ _ _, HB'.out⟩
   ·rw [if_neg h1] at h
    cases h
    have HL := Aside0.mk hl1
    clear hl1
    go_wp2_with fail
    refine (carrying 93 (enters_of Try.func93 (by kernel_rfl) rfl) #[.pointer (some ⟨w.heap.size, 0, none⟩), .pointer (some ⟨w.heap.size + 1, 0, none⟩)] (fun i c => subS (l0.getD i 0) (l1.getD i 0) c) (fun c => 0 ≤ c ∧ c ≤ 1) A0 c0 l0 a2 _ hl0 ⟨hw2.1, by omega⟩ ?_).mono ?_
    ·intro i hi c hI
     refine ⟨subS_c _ _ _, fun W' hW' => ?_⟩
     exact sub1 w.heap.size (w.heap.size + 1) A0 A1 c0 c1 l0 l1 i c W' hi (by rw [HL.out]; exact hi) hI.1 hI.2 hw0 hw1 (Kd.C_below C0'.out hW') (Kd.C_below C1'.out hW') (pw_cell_below hW' b0') (pw_cell_below hW' b1')
    ·rintro e w2 ⟨v0, rfl, hR, hB2⟩
     have HRr := Aside0.mk (Kd.R_lower hR (below_size HB'.out))
     have HB2 := Aside0.mk (below_step HB'.out hB2)
     clear hR hB2
     go_wp2
     go_ret3
     exact ⟨_, rfl, HRr.out, HB2.out⟩
  ·rw [if_neg hc] at h
   have hcb : (chk [l0, l1] != 0) = true := bne_iff_ne.2 hc
   cases h
   clear hc
   go_wp2
   go_ret3
   exact ⟨_, rfl, Kd.R_nil _ _ _ _ _, HB'.out⟩
 ·rw [if_neg hw] at h; cases h
end Go.Proofs.Ytkkkbalefnileaa.Ex
/- nat.add, Add. -/
namespace Go.Proofs.Ytkkkbalefnileaa.Ex
open Go.RowKit Go.Proofs.YtkkkbalefnileaaW.PrintWords Go.Proofs.YtkkkbalefnileaaW.PrintLast Go.Proofs.YtkkkbalefnileaaW.PrintMore
set_option linter.unusedVariables false
set_option linter.unusedSimpArgs false

theorem print_make2 (m c : Nat) (hm : m ≤ c) (hc : c ≤ 1000000) :
    ∀ W : World, (Instr.makeSlice 23 (.int .i64 (m : Int)) (.int .i64 (c : Int))).run Try.prog W = .ok (.slice (some ⟨W.heap.size, 0, none⟩) m c) (W.alloc (.cells (madeCells #[.int .u64 0] c) 33)) := by
  intro W
  obtain ⟨i0, hi0, hz0, hz1, hz2⟩ := info_parts iW
  have h := run_makeSlice W 23 33 i0 (.int .u64 0) Try.underlying23 hi0 hz0 .i64 .i64 (m : Int) (c : Int) (by omega) (by omega) (by rw [hz1]; omega) (by rw [hz2]; omega) (by omega)
  rw [h, hz1]
  simp only [Int.toNat_natCast, Nat.mul_one]
  rfl
/-- What large tells of one number, of two. -/
theorem large_one (A0 : Option Addr) (c0 : Nat) (l0 : List Int) (w : World) (b : Bool) (hr0 : Kd.C (Kd.int .u64) w A0 l0.length l0) (hc0 : l0.length ≤ c0) (hb : decide (4096 < l0.length) = b) :
    Calls Try.prog 40 #[.slice (some ⟨w.heap.size, 0, none⟩) 1 1] (w.alloc (.cells #[.slice A0 l0.length c0] 23)) fun e w' => e = .returned (.bool b) ∧ Below w.heap.size w w' := by
  have hB := below_alloc (Below.refl w.heap.size w) (.cells #[.slice A0 l0.length c0] 23)
  refine (nat_large.calls (some ⟨w.heap.size, 0, none⟩) 1 [l0] b _ (C_one (Kd.C_below hr0 hB) hc0 (heap_alloc_new _ _)) (Nat.le_refl 1) (by unfold nat_large.f; rw [← hb]; simp only [List.all_cons, List.all_nil, Bool.and_true, Option.some.injEq]; by_cases h : 4096 < l0.length <;> simp [h] <;> omega)).mono ?_
  rintro e w' ⟨he, hd⟩
  exact ⟨he, below_step hB hd.below⟩
theorem large_two (A0 A1 : Option Addr) (c0 c1 : Nat) (l0 l1 : List Int) (w : World) (b : Bool) (hr0 : Kd.C (Kd.int .u64) w A0 l0.length l0) (hc0 : l0.length ≤ c0) (hr1 : Kd.C (Kd.int .u64) w A1 l1.length l1) (hc1 : l1.length ≤ c1) (hb : decide (4096 < l0.length ∨ 4096 < l1.length) = b) :
    Calls Try.prog 40 #[.slice (some ⟨w.heap.size, 0, none⟩) 2 2] (w.alloc (.cells #[.slice A0 l0.length c0, .slice A1 l1.length c1] 23)) fun e w' => e = .returned (.bool b) ∧ Below w.heap.size w w' := by
  have hB := below_alloc (Below.refl w.heap.size w) (.cells #[.slice A0 l0.length c0, .slice A1 l1.length c1] 23)
  refine (nat_large.calls (some ⟨w.heap.size, 0, none⟩) 2 [l0, l1] b _ (C_two (Kd.C_below hr0 hB) hc0 (Kd.C_below hr1 hB) hc1 (heap_alloc_new _ _)) (Nat.le_refl 2) (by unfold nat_large.f; rw [← hb]; simp only [List.all_cons, List.all_nil, Bool.and_true, Option.some.injEq]; by_cases h : 4096 < l0.length <;> by_cases h' : 4096 < l1.length <;> simp [h, h'] <;> omega)).mono ?_
  rintro e w' ⟨he, hd⟩
  exact ⟨he, below_step hB hd.below⟩
end Go.Proofs.Ytkkkbalefnileaa.Ex
/- words.from: a row's indices and words, from the highest on: what the iterator hands to a loop over it. -/
namespace Go.Proofs.Ytkkkbalefnileaa.Ex
open Go.RowKit Go.Shelf Go.Proofs.YtkkkbalefnileaaW.PrintWords Go.Proofs.YtkkkbalefnileaaW.PrintLast Go.Proofs.YtkkkbalefnileaaW.PrintMore
set_option linter.unusedVariables false
set_option linter.unusedSimpArgs false
attribute [local go_sem] Oper.semAt_some

/-- The indices below n, from the highest on. -/
def downs (n : Nat) : List (Fin n) := List.ofFn fun j : Fin n => (⟨n - 1 - j.1, by have := j.2; omega⟩ : Fin n)
theorem downs_length (n : Nat) : (downs n).length = n := by simp [downs]
theorem downs_at (n k : Nat) (h : k < n) : (downs n)[k]'(by rw [downs_length]; exact h) = ⟨n - 1 - k, by omega⟩ := by simp [downs]
theorem downs_take (n k : Nat) (h : k < n) : (downs n).take (k + 1) = (downs n).take k ++ [⟨n - 1 - k, by omega⟩] := by
  rw [List.take_succ_eq_append_getElem (by rw [downs_length]; exact h), downs_at n k h]
/-- What a round keeps: what lay below n₀, and the box Bs. -/
def KeepB (n₀ Bs : Nat) (W W' : World) : Prop := Below n₀ W W' ∧ W'.heap[Bs]? = W.heap[Bs]?
theorem KeepB.refl (n₀ Bs : Nat) (W : World) : KeepB n₀ Bs W W := ⟨Below.refl _ _, rfl⟩
theorem KeepB.trans {n₀ Bs : Nat} {A B C : World} (h : KeepB n₀ Bs A B) (k : KeepB n₀ Bs B C) : KeepB n₀ Bs A C := ⟨h.1.trans k.1, k.2.trans h.2⟩
/-- A word of a row. -/
def wd (l : List Int) (i : Nat) : Int := l.getD i 0
/-- What a loop over a row's words is handed. -/
def encW (l : List Int) (x : Fin l.length) : Array Value := #[.int .i64 (x.1 : Int), .int .u64 (wd l x.1)]
set_option maxRecDepth 100000 in
set_option maxHeartbeats 2000000 in
theorem from1_in (F : Fence) (n : Nat) (hf : F.fn 102) (hro : F.round = none) (hn : 1 ≤ n) (lp Bs : Nat) (A0 : Option Addr) (c0 : Nat) (l0 : List Int) (w0 : World) (hr0 : Kd.C (Kd.int .u64) w0 A0 l0.length l0) (J Jx : List (Fin l0.length) → World → Prop)
    (hY : ∀ pre x W, J pre W → pre.length < l0.length → YieldAt F (n - 1) Try.prog lp (encW l0 x) W fun e W' =>
      (e = .returned (.bool true) ∧ J (pre ++ [x]) W' ∧ KeepB w0.heap.size Bs W W') ∨ (e = .returned (.bool false) ∧ Jx (pre ++ [x]) W'))
    (W : World) (hW : Below w0.heap.size w0 W) (hBs : Boxed W Bs 22 (.slice A0 l0.length c0)) (h0 : J [] W) :
    CallsIn F n Try.prog 102 #[.func (.yield lp) #[] #[], .pointer (some ⟨Bs, 0, none⟩)] W fun e W' => (∃ v, e = .returned v) ∧
      ((∃ ys, ys = downs l0.length ∧ J ys W') ∨ (∃ pre, (∃ k, k ≤ l0.length ∧ pre = (downs l0.length).take k) ∧ Jx pre W')) := by
  have hlen : l0.length ≤ 9223372036854775807 := hr0.2.1
  have HR := Aside0.mk hr0
  clear hr0
  have hc := hBs.cell
  refine callsIn_of_wp Try.func102 rfl hf ?_ hro
  simp only [Try.ntmps102, List.size_toArray, List.length_cons, List.length_nil, Nat.reduceAdd, Nat.reduceSub, Array.replicate_succ, Array.replicate_zero, List.push_toArray, List.append_toArray, List.nil_append, List.cons_append]
  gi_wp2
  gi_loopw [3] (fun i wr => ∃ k : Nat, k ≤ l0.length ∧ i = .int .i64 ((l0.length : Int) - 1 - k) ∧ J ((downs l0.length).take k) wr ∧ Below w0.heap.size w0 wr ∧ Boxed wr Bs 22 (.slice A0 l0.length c0))
    (fun i _ => ((intOf i) + 1).toNat)
  case atStart => exact ⟨0, Nat.zero_le _, by go_num, by simpa using h0, hW, hBs⟩
  case round =>
    clear hc hBs h0
    obtain ⟨k, hk, rfl, hJs, hnx, hbx⟩ := hrel
    have hc := hbx.cell
    by_cases hlt : k < l0.length
    · have hC := Kd.C_below HR.out hnx
      obtain ⟨ad, rfl, hx0⟩ := Kd.at_int hC ((l0.length : Int) - 1 - k) (by omega) (by omega)
      have e0 : rd l0 ((l0.length : Int) - 1 - k) = l0.getD (l0.length - 1 - k) 0 := by unfold rd; congr 1; omega
      have e1 : ((l0.length : Int) - 1 - k).toNat = l0.length - 1 - k := by omega
      rw [e0, e1] at hx0
      obtain ⟨fn, tmps, assign, body, hy, hR⟩ := hY _ ⟨l0.length - 1 - k, by omega⟩ wr hJs (by rw [List.length_take, downs_length]; omega)
      unfold encW wd at hy
      dsimp only at hy
      have e2 : (((l0.length - 1 - k : Nat)) : Int) = (l0.length : Int) - 1 - k := by omega
      rw [e2] at hy
      obtain ⟨x, hx⟩ : ∃ x, x = l0.getD (l0.length - 1 - k) 0 := ⟨_, rfl⟩
      rw [← hx] at hy hx0
      have HX := Aside0.mk hx
      clear hx
      have i1 : (0 : Int) ≤ (l0.length : Int) - 1 - k := by omega
      have i2 : (l0.length : Int) - 1 - k < (l0.length : Int) := by omega
      clear hC e0
      gi_wp2
      refine hR.mono ?_
      rintro e W3 (⟨rfl, hJ3, hk3⟩ | ⟨rfl, hJx3⟩)
      · gi_wp2
        go_roundw
        case rel => exact ⟨k + 1, by omega, by go_num, by rw [downs_take _ _ hlt]; exact hJ3, hnx.trans hk3.1, hk3.2.trans hbx⟩
        case measure => simp [intOf]; omega
      · gi_wp2
        refine bodyPost_ret (results_none rfl _ _ _) rfl ?_
        exact ⟨⟨_, rfl⟩, .inr ⟨_, ⟨k + 1, by omega, (downs_take _ _ hlt).symm⟩, hJx3⟩⟩
    · obtain rfl : k = l0.length := by omega
      gi_wp2
      go_end0
      exact ⟨⟨_, rfl⟩, .inl ⟨_, rfl, by rw [List.take_of_length_le (by rw [downs_length]; exact Nat.le_refl _)] at hJs; exact hJs⟩⟩
set_option maxHeartbeats 1000000 in
theorem from_in (F : Fence) (n : Nat) (hf : F.fn 84) (hro : F.round = none) (a : Option Addr) (len cap : Nat) (w : World) :
    CallsIn F n Try.prog 84 #[.slice a len cap] w fun e w' => e = .returned (.func (.func 102) #[] #[.pointer (some ⟨w.heap.size, 0, none⟩)]) ∧ w' = w.alloc (.cells #[.slice a len cap] 22) := by
  refine callsIn_of_wp Try.func84 rfl hf ?_ hro
  simp only [Try.ntmps84, List.size_toArray, List.length_cons, List.length_nil, Nat.reduceAdd, Nat.reduceSub, Array.replicate_succ, Array.replicate_zero, List.push_toArray, List.append_toArray, List.nil_append, List.cons_append]
  gi_wp2
  go_ret
  exact ⟨rfl, rfl⟩
theorem from_stops (F : Fence) (n : Nat) (hf : F.fn 102) (hro : F.round = none) (hn : 1 ≤ n) (Bs : Nat) (A0 : Option Addr) (c0 : Nat) (l0 : List Int) (w0 : World) (hr0 : Kd.C (Kd.int .u64) w0 A0 l0.length l0) (w : World)
    (hw : Below w0.heap.size w0 w) (hBs : Boxed w Bs 22 (.slice A0 l0.length c0)) :
    SeqStopsK F n Try.prog 102 #[.pointer (some ⟨Bs, 0, none⟩)] (encW l0) (KeepB w0.heap.size Bs) (fun ys => ys = downs l0.length) (fun pre => ∃ k, k ≤ l0.length ∧ pre = (downs l0.length).take k) l0.length w := fun l J Jx W hW _ _ hY h0 => by
  have hB' : Boxed W Bs 22 (.slice A0 l0.length c0) := (hW.block Bs hBs.lt).trans hBs
  exact from1_in F n hf hro hn l Bs A0 c0 l0 w0 hr0 J Jx hY W (below_step hw hW) hB' h0
end Go.Proofs.Ytkkkbalefnileaa.Ex
/- A row in a block of its own; loops over words.from; words.DivWord. -/
namespace Go.Proofs.Ytkkkbalefnileaa.Ex
open Go.RowKit Go.Shelf Go.Proofs.YtkkkbalefnileaaW.PrintWords Go.Proofs.YtkkkbalefnileaaW.PrintLast Go.Proofs.YtkkkbalefnileaaW.PrintMore
set_option linter.unusedVariables false
set_option linter.unusedSimpArgs false
attribute [local go_sem] Oper.semAt_some

/-- Block g is a row of words. -/
def RowB (W : World) (g : Nat) (l : List Int) : Prop := W.heap[g]? = some (.cells (nums .u64 l).toArray 33 (0, 0))
theorem RowB.lt {W : World} {g : Nat} {l : List Int} (h : RowB W g l) : g < W.heap.size := (Array.getElem?_eq_some_iff.1 h).1
theorem RowB.cell {W : World} {g : Nat} {l : List Int} (h : RowB W g l) (i : Nat) (hi : i < l.length) : W.cell? ⟨g, i, none⟩ = some (.int .u64 (l.getD i 0)) := by
  rw [blk_cell h]
  simp [nums, List.getD_eq_getElem?_getD, List.getElem?_eq_getElem hi]
theorem RowB.frozen {W : World} {g : Nat} {l : List Int} (h : RowB W g l) (i : Nat) : W.frozen? ⟨g, i, none⟩ = false := blk_frozen h i
theorem RowB.set {W : World} {g : Nat} {l : List Int} (h : RowB W g l) (i : Nat) (x : Int) : RowB (W.setCell ⟨g, i, none⟩ (.int .u64 x)) g (l.set i x) := by
  have h1 := blk_set h i (.int .u64 x)
  unfold RowB
  rw [h1]
  simp [nums, List.map_set]
theorem RowB.far {W : World} {g : Nat} {l : List Int} (h : RowB W g l) {p : Addr} (hp : g ≠ p.block) (u : Value) : RowB (W.setCell p u) g l := blk_far h hp u
theorem RowB.alloc {W : World} {g : Nat} {l : List Int} (h : RowB W g l) (o : Obj) : RowB (W.alloc o) g l := (below_alloc (Below.refl _ _) o).block g h.lt |>.trans h
theorem RowB.below {W W' : World} {g : Nat} {l : List Int} (h : RowB W g l) (hb : Below W.heap.size W W') : RowB W' g l := (hb.block g h.lt).trans h
theorem RowB.made (W : World) (n : Nat) : RowB (W.alloc (.cells (madeCells #[.int .u64 0] n) 33)) W.heap.size (List.replicate n 0) := by
  unfold RowB
  rw [heap_alloc_new]
  congr 2
  apply Array.ext
  · simp [nums, madeCells]
  · intro i h1 h2
    simp [nums, madeCells, Nat.mod_one]
theorem RowB.own {W : World} {g : Nat} {l : List Int} (h : RowB W g l) (base : Nat) (hb : base ≤ g) (hl : l.length ≤ 4096) : Kd.R (Kd.int .u64) 33 W base (fun _ => True) (.slice (some ⟨g, 0, none⟩) l.length l.length) l := by
  refine Kd.R_of_own (enc := Value.int .u64) (h1 := fun _ => rfl) ⟨by simp [encs], .inr ⟨g, l.length, (nums .u64 l).toArray, rfl, hb, h, Nat.le_refl _, by unfold maxLen; omega, by simp [nums], ?_⟩⟩ (fun _ _ => trivial)
  simp only [nums, encs, Nat.mul_one]
  rw [List.take_of_length_le (by simp)]
theorem Boxed.below {W W' : World} {B : Nat} {t : TypeId} {v : Value} (h : Boxed W B t v) (hb : Below W.heap.size W W') : Boxed W' B t v := (hb.block B h.lt).trans h
theorem Boxed.far {W : World} {B : Nat} {t : TypeId} {v : Value} (h : Boxed W B t v) {p : Addr} (hp : B ≠ p.block) (u : Value) : Boxed (W.setCell p u) B t v := (Below.heap_setCell W p u B hp).trans h
/-- A step for each word, from the highest on. -/
def downL (g : Nat → Int → Int × Int) : Nat → Int → List Int × Int
  | 0, c => ([], c)
  | n + 1, c => ((downL g n (g n c).2).1 ++ [(g n c).1], (downL g n (g n c).2).2)
theorem downL_length (g : Nat → Int → Int × Int) : ∀ n c, (downL g n c).1.length = n
  | 0, _ => rfl
  | n + 1, c => by simp [downL, downL_length g n]
/-- One step on a row and what is carried. -/
def downS (g : Nat → Int → Int × Int) (s : List Int × Int) (i : Nat) : List Int × Int := (s.1.set i (g i s.2).1, (g i s.2).2)
def downF (g : Nat → Int → Int × Int) (s : List Int × Int) (l : List Nat) : List Int × Int := l.foldl (downS g) s
theorem downF_snoc (g : Nat → Int → Int × Int) (s : List Int × Int) (l : List Nat) (i : Nat) : downF g s (l ++ [i]) = downS g (downF g s l) i := by simp [downF]
theorem downF_length (g : Nat → Int → Int × Int) (l : List Nat) : ∀ s, (downF g s l).1.length = s.1.length := by
  induction l with
  | nil => exact fun _ => rfl
  | cons i l ih => intro s; show (downF g (downS g s i) l).1.length = _; rw [ih]; simp [downS]
theorem downs_vals (n : Nat) : (downs n).map (·.1) = (List.range n).reverse := by
  apply List.ext_getElem
  · simp [downs]
  · intro i h1 h2
    simp [downs]
theorem downF_all (g : Nat → Int → Int × Int) : ∀ n (z : List Int) c, n ≤ z.length → downF g (z, c) (List.range n).reverse = ((downL g n c).1 ++ z.drop n, (downL g n c).2)
  | 0, z, c, _ => by simp [downF, downL]
  | n + 1, z, c, h => by
    rw [List.range_succ, List.reverse_append]
    show downF g (downS g (z, c) n) (List.range n).reverse = _
    unfold downS
    rw [downF_all g n _ _ (by simp; omega)]
    simp only [downL]
    congr 1
    rw [List.append_assoc]
    congr 1
    rw [List.drop_eq_getElem_cons (l := z.set n _) (by simp; omega)]
    simp [List.drop_set]
theorem downF_downs (g : Nat → Int → Int × Int) (z : List Int) (c : Int) (n : Nat) (h : z.length = n) : downF g (z, c) ((downs n).map (·.1)) = downL g n c := by
  rw [downs_vals, downF_all g n z c (by omega), List.drop_of_length_le (by omega), List.append_nil]
/-- A word of a quotient, and the rest. -/
def divS (w : Int) (l : List Int) (i : Nat) (c : Int) : Int × Int := ((c * W64 + l.getD i 0) / w, (c * W64 + l.getD i 0) % w)
theorem downF_div (w : Int) (l : List Int) (hw : 0 < w) (is : List Nat) : ∀ z c, 0 ≤ c → c < w → 0 ≤ (downF (divS w l) (z, c) is).2 ∧ (downF (divS w l) (z, c) is).2 < w := by
  induction is with
  | nil => exact fun z c h1 h2 => ⟨h1, h2⟩
  | cons i is ih => exact fun z c h1 h2 => ih _ _ (Int.emod_nonneg _ (by omega)) (Int.emod_lt_of_pos _ hw)
def words_DivWord.f (l0 : List Int) (a1 a2 : Int) : Option (List Int × Int × Int) :=
  if inW l0 ∧ isW a1 ∧ isW a2 then
    if l0.length ≤ 4096 then
      if a1 = 0 then some ([], 0, 5) else if a1 ≤ a2 then some ([], 0, 1) else some ((downL (divS a1 l0) l0.length a2).1, (downL (divS a1 l0) l0.length a2).2, 0)
    else some ([], 0, 2)
  else none
theorem all_one' (l : List Int) : ([l].all fun x => decide (x.length ≤ 4096)) = decide (l.length ≤ 4096) := by simp
/-- No defer statement. -/
def noDefer (ops : Array Oper) : Prop := ∀ (i : Nat) (o : Oper), ops[i]? = some o → ∀ c, o.op ≠ .defer c
def isDefer : Op → Bool
  | .defer _ => true
  | _ => false
theorem noDefer_of {l : List Oper} (h : (l.all fun o => !isDefer o.op) = true) : noDefer l.toArray := by
  intro i o ho c hc
  have h1 := List.all_eq_true.1 h o (List.mem_of_getElem? (by simpa using ho))
  rw [hc] at h1
  simp [isDefer] at h1
theorem oper_round {l n : Nat} {P : Program} {Q : Exit → Act → World → Prop} {o : Oper} {a : Act} {w : World} {K K' : Act → World → Prop} (hd : ∀ c, o.op ≠ .defer c) (hk : ∀ a w, K a w → K' a w) (h : o.wpIn Fence.wide n P a w K Q) : o.wpIn (Fence.wide.inRound l) n P a w K' Q := by
  have h2 := Oper.wpIn_mono hk h
  unfold Oper.wpIn at h2 ⊢
  refine ⟨h2.1, ?_⟩
  have h3 := h2.2
  rw [Oper.semAt_plain _ _ _ hd] at h3 ⊢
  generalize (execOp a.eval o).run P w = r at h3 ⊢
  cases r with
  | ok x w' => cases x <;> exact h3
  | halt x w' => cases x <;> exact h3
theorem any_round {l n : Nat} {P : Program} {md : Region.Mode} {ops : Array Oper} {Q : Exit → Act → World → Prop} (hd : noDefer ops) : ∀ fuel listed a w, wpAnyIn Fence.wide n P md ops Q fuel listed a w → wpAnyIn (Fence.wide.inRound l) n P md ops Q fuel listed a w := by
  intro fuel
  induction fuel with
  | zero => exact fun _ _ _ h => h
  | succ fuel ih =>
    rintro listed a w ⟨h0, h1⟩
    refine ⟨h0, fun i hi => ?_⟩
    have h2 := h1 i hi
    unfold wpOpIn at h2 ⊢
    cases ho : ops[i]? with
    | none => rw [ho] at h2; exact ih _ _ _ h2
    | some o =>
      rw [ho] at h2
      simp only at h2 ⊢
      by_cases hw : Region.wanted o (yielded ops a.tmps) = true
      · rw [if_pos hw] at h2 ⊢
        exact oper_round (hd i o ho) (fun a w => ih _ a w) h2
      · rw [if_neg hw] at h2 ⊢
        exact ⟨h2.1, ih _ _ _ h2.2⟩
set_option maxHeartbeats 2000000 in
theorem words_DivWord.calls (A0 : Option Addr) (c0 : Nat) (l0 : List Int) (a1 : Int) (a2 : Int) (r1 : List Int) (r2 : Int) (r3 : Int) (w : World) (hr0 : Kd.C (Kd.int .u64) w A0 l0.length l0) (hc0 : l0.length ≤ c0) (h : words_DivWord.f l0 a1 a2 = some (r1, r2, r3)) :
  Calls Try.prog 55 #[.slice A0 l0.length c0, .int .u64 a1, .int .u64 a2] w fun e w' => ∃ v0_ : Value, e = .returned (.tuple #[v0_, .int .u64 r2, .int .i64 r3]) ∧ Kd.R (Kd.int .u64) 33 w' w.heap.size (fun _ => True) v0_ r1 ∧ Below w.heap.size w w' := by
 unfold words_DivWord.f at h
 by_cases hw : inW l0 ∧ isW a1 ∧ isW a2
 ·rw [if_pos hw] at h
  obtain ⟨hw0, hw1, hw2⟩ := hw
  have HR0 := Aside0.mk hr0
  clear hr0
  refine (callsIn_wide (n := 9)).1 ?_
  refine callsIn_of_wp_marks Try.func55 rfl trivial ?_ rfl
  simp only [Try.ntmps55, List.size_toArray, List.length_cons, List.length_nil, Nat.reduceAdd, Nat.reduceSub, Array.replicate_succ, Array.replicate_zero, List.push_toArray, List.append_toArray, List.nil_append, List.cons_append]
  gi_wp2_with fail
  have b0 := ((Boxed.new w 33 (.int .u64 a1)).alloc (.cells #[.int .u64 a2] 33)).alloc (.cells #[.slice A0 l0.length c0] 22)
  have b1 := (Boxed.new (w.alloc (.cells #[.int .u64 a1] 33)) 33 (.int .u64 a2)).alloc (.cells #[.slice A0 l0.length c0] 22)
  obtain ⟨q0, q1, b2, hB⟩ := box2 w (.int .u64 a1) (.int .u64 a2) #[.slice A0 l0.length c0] 33 33 22
  rw [World.size_alloc] at b1
  have C0 := Aside0.mk (Kd.C_below HR0.out hB)
  have HB := Aside0.mk hB
  clear hB q0 q1
  generalize (((w.alloc (.cells #[.int .u64 a1] 33)).alloc (.cells #[.int .u64 a2] 33)).alloc (.cells #[.slice A0 l0.length c0] 22)) = W at *
  refine ⟨trivial, (callsIn_wide.2 (words_few.calls (some ⟨w.heap.size + 1 + 1, 0, none⟩) 1 [l0] (decide (l0.length ≤ 4096)) _ (C_one C0.out hc0 b2) (Nat.le_refl 1) (by unfold words_few.f; rw [all_one']))).mono ?_⟩
  rintro e w' ⟨rfl, hd⟩
  have b0' := Boxed.below b0 hd.below
  have b1' := Boxed.below b1 hd.below
  have HB' := Aside0.mk (below_step HB.out hd.below)
  clear b0 b1 b2 C0 HB hd
  clear W
  have g0 := b0'.cell
  have g1 := b1'.cell
  by_cases hc : l0.length ≤ 4096
  ·rw [if_pos hc] at h
   have hcb : decide (l0.length ≤ 4096) = true := decide_eq_true hc
   by_cases h0 : a1 = 0
   ·rw [if_pos h0] at h
    cases h
    have h0b : (a1 == 0) = true := beq_iff_eq.2 h0
    subst h0
    gi_wp2
    exact ⟨_, results_tmp3 rfl _ _ _, _, rfl, Kd.R_nil _ _ _ _ _, HB'.out⟩
   ·rw [if_neg h0] at h
    have h0b : (a1 == 0) = false := beq_eq_false_iff_ne.2 h0
    by_cases h1 : a1 ≤ a2
    ·rw [if_pos h1] at h
     cases h
     have h1b : decide (a1 ≤ a2) = true := decide_eq_true h1
     gi_wp2
     exact ⟨_, results_tmp3 rfl _ _ _, _, rfl, Kd.R_nil _ _ _ _ _, HB'.out⟩
    ·rw [if_neg h1] at h
     cases h
     have h1b : decide (a1 ≤ a2) = false := decide_eq_false h1
     have hmk := print_make (P := Try.prog) 22 33 .u64 8 Try.underlying22 iW (by decide) l0.length (by omega)
     gi_wp2_with fail
     refine ⟨trivial, (from_in Fence.wide 8 trivial rfl _ _ _ _).mono ?_⟩
     rintro e w2 ⟨rfl, rfl⟩
     have r0 := ((RowB.made w' l0.length).alloc (.cells #[.slice (some ⟨w'.heap.size, 0, none⟩) l0.length l0.length] 22)).alloc (.cells #[.slice A0 l0.length c0] 22)
     have bz := (Boxed.new (w'.alloc (.cells (madeCells #[.int .u64 0] l0.length) 33)) 22 (.slice (some ⟨w'.heap.size, 0, none⟩) l0.length l0.length)).alloc (.cells #[.slice A0 l0.length c0] 22)
     have bf := Boxed.new ((w'.alloc (.cells (madeCells #[.int .u64 0] l0.length) 33)).alloc (.cells #[.slice (some ⟨w'.heap.size, 0, none⟩) l0.length l0.length] 22)) 22 (.slice A0 l0.length c0)
     have b0 := ((b0'.alloc (.cells (madeCells #[.int .u64 0] l0.length) 33)).alloc (.cells #[.slice (some ⟨w'.heap.size, 0, none⟩) l0.length l0.length] 22)).alloc (.cells #[.slice A0 l0.length c0] 22)
     have b1 := ((b1'.alloc (.cells (madeCells #[.int .u64 0] l0.length) 33)).alloc (.cells #[.slice (some ⟨w'.heap.size, 0, none⟩) l0.length l0.length] 22)).alloc (.cells #[.slice A0 l0.length c0] 22)
     have HB := below_alloc (below_alloc (below_alloc HB'.out (.cells (madeCells #[.int .u64 0] l0.length) 33)) (.cells #[.slice (some ⟨w'.heap.size, 0, none⟩) l0.length l0.length] 22)) (.cells #[.slice A0 l0.length c0] 22)
     have hsz : (((w'.alloc (.cells (madeCells #[.int .u64 0] l0.length) 33)).alloc (.cells #[.slice (some ⟨w'.heap.size, 0, none⟩) l0.length l0.length] 22)).alloc (.cells #[.slice A0 l0.length c0] 22)).heap.size = w'.heap.size + 3 := by simp
     simp only [World.size_alloc] at bz bf
     have hsw := below_size HB'.out
     have l0' := b0'.lt
     have l1' := b1'.lt
     clear b0' b1' HB' g0 g1 hmk
     simp only [World.size_alloc]
     obtain ⟨g, hg⟩ : ∃ g, g = w'.heap.size := ⟨_, rfl⟩
     rw [← hg] at r0 bz bf b0 b1 HB hsz hsw l0' l1' ⊢
     have HG := Aside0.mk hg
     clear hg
     generalize (((w'.alloc (.cells (madeCells #[.int .u64 0] l0.length) 33)).alloc (.cells #[.slice (some ⟨g, 0, none⟩) l0.length l0.length] 22)).alloc (.cells #[.slice A0 l0.length c0] 22)) = W at *
     gi_wp2_with fail
     have c0' := HR0.out
     refine wpIn_rangeFunc_ownG (n := 9) rfl (by decide) (gf := 102) (lb := #[.pointer (some ⟨g + 1 + 1, 0, none⟩)]) rfl trivial (enters_of Try.func102 (by kernel_rfl) rfl)
      (from_stops Fence.wide 8 trivial rfl (by decide) (g + 1 + 1) A0 c0 l0 w c0' W HB bf) KeepB.trans ?hkb (Below.refl _ _) (fun (_ : Fin l0.length) => rfl)
      (fun (pre : List (Fin l0.length)) W => (RowB W g (downF (divS a1 l0) (List.replicate l0.length 0, a2) (pre.map Fin.val)).1 ∧ Boxed W (g + 1) 22 (.slice (some ⟨g, 0, none⟩) l0.length l0.length) ∧ Boxed W (g + 1 + 1) 22 (.slice A0 l0.length c0) ∧ Boxed W w.heap.size 33 (.int .u64 a1) ∧ Boxed W (w.heap.size + 1) 33 (.int .u64 (downF (divS a1 l0) (List.replicate l0.length 0, a2) (pre.map Fin.val)).2)) ∧ Below w.heap.size w W)
      (fun _ _ _ => False)
      (OwnFrom.and ?own (ownFrom_below (Nat.le_refl _) (by rw [hsz]; omega)))
      (fun _ _ _ _ _ hs _ _ => hs)
      ⟨⟨r0, bz, bf, b0, b1⟩, HB⟩
      (fun (x : Fin l0.length) => { tmps := #[.slice A0 l0.length c0, .int .u64 a1, .int .u64 a2, undef, .pointer (some ⟨w.heap.size, 0, none⟩), .pointer (some ⟨w.heap.size + 1, 0, none⟩), .slice none 0 0, .int .u64 0, .int .i64 0, .pointer (some ⟨g + 1, 0, none⟩), .int .i64 (x.1 : Int), .int .u64 (wd l0 x.1), .bool false, .slice A0 l0.length c0, .slice (some ⟨w.heap.size + 1 + 1, 0, none⟩) 1 1, .bool true, .bool false, .bool false, .int .u64 a1, .bool false, .bool false, .int .u64 a2, .int .u64 a1, .bool false, .slice A0 l0.length c0, .int .i64 (l0.length : Int), .slice (some ⟨g, 0, none⟩) l0.length l0.length, .slice A0 l0.length c0, .func (.func 102) #[] #[.pointer (some ⟨g + 1 + 1, 0, none⟩)], .int .i64 (x.1 : Int), .int .u64 (wd l0 x.1), undef, undef, undef, undef, undef, undef, undef, undef, undef, undef, undef, undef], defers := [] }) ?assign ?body ?done ?stop
     case hkb =>
      intro W1 l o o' hl h ho hw
      exact ⟨belowK_b (w := W) HB.size W1 l o o' hl h ho hw, World.putObj_heap_other (by omega)⟩
     case own =>
      rintro s X Y row ⟨h1, h2, h3, h4, h5⟩ hG hr
      have hne : ∀ B, B < W.heap.size → some B ≠ row := fun B hB e => by have := (hr B e.symm).1; omega
      exact ⟨blk_grown h1 hG (hne _ (by omega)), h2.kept hG (hne _ (by omega)), h3.kept hG (hne _ (by omega)), h4.kept hG (hne _ (by omega)), h5.kept hG (hne _ (by omega))⟩
     case assign =>
      intro l x W K hK
      unfold encW
      gi_wp2
      exact hK
     case body =>
      clear r0 bz bf b0 b1 HB
      rintro l pre x W1 ⟨⟨r0, bz, bf, b0, b1⟩, HB⟩ hlen
      have hmx : Try.prog.follows .mixedOrders = true := by kernel_rfl
      have hx := x.2
      have st_len : (downF (divS a1 l0) (List.replicate l0.length 0, a2) (pre.map Fin.val)).1.length = l0.length := by rw [downF_length]; simp
      obtain ⟨hlt1, hlt2⟩ : 0 ≤ (downF (divS a1 l0) (List.replicate l0.length 0, a2) (pre.map Fin.val)).2 ∧ (downF (divS a1 l0) (List.replicate l0.length 0, a2) (pre.map Fin.val)).2 < a1 := downF_div a1 l0 (by have := hw1.1; omega) _ _ _ hw2.1 h1
      have hstep : downF (divS a1 l0) (List.replicate l0.length 0, a2) ((pre ++ [x]).map Fin.val) = downS (divS a1 l0) (downF (divS a1 l0) (List.replicate l0.length 0, a2) (pre.map Fin.val)) x.1 := by rw [List.map_append]; exact downF_snoc _ _ _ _
      have HS := Aside0.mk hstep
      clear hstep
      obtain ⟨st, hst⟩ : ∃ st, st = downF (divS a1 l0) (List.replicate l0.length 0, a2) (pre.map Fin.val) := ⟨_, rfl⟩
      rw [← hst] at r0 b1 st_len hlt1 hlt2 HS
      clear hst
      obtain ⟨z, c⟩ := st
      simp only at r0 b1 st_len hlt1 hlt2
      have hdiv := fun W => CallsIn.inRound l ((callsIn_wide (n := 6)).2 (div64 c (wd l0 x.1) a1 hlt1 hlt2 (isW_get hw0 x.1) hw1.2 W))
      obtain ⟨i, hi⟩ := x
      simp only at hx hdiv
      have g0 := b0.cell
      have g1 := b1.cell
      have gz := bz.cell
      have gx := r0.cell i (by omega)
      have fx := r0.frozen i
      have f1 := b1.frozen
      have i0 : (0 : Int) ≤ (i : Int) := by omega
      have i1 : (i : Int) < (l0.length : Int) := by omega
      gi_wp2
      rename_i Q1 K1 a9 Q2
      obtain ⟨q, hq⟩ : ∃ q, q = (c * W64 + wd l0 i) / a1 := ⟨_, rfl⟩
      obtain ⟨r, hrr⟩ : ∃ r, r = (c * W64 + wd l0 i) % a1 := ⟨_, rfl⟩
      have hQK : ∀ a' nd, (Exit.inBlock 2 Q2) .normal a' (((W1.drewN nd).setCell ⟨g, i, none⟩ (.int .u64 q)).setCell ⟨w.heap.size + 1, 0, none⟩ (.int .u64 r)) := by
       intro a' nd
       have hb1 : Below w.heap.size W1 (W1.drewN nd) := pw_below_drewN (Below.refl _ _) nd
       have hb2 := (hb1.setCell (p := ⟨g, i, none⟩) hsw (.int .u64 q)).setCell (p := ⟨w.heap.size + 1, 0, none⟩) (by show w.heap.size ≤ w.heap.size + 1; omega) (.int .u64 r)
       have hko : KeepsOthers W1 (((W1.drewN nd).setCell ⟨g, i, none⟩ (.int .u64 q)).setCell ⟨w.heap.size + 1, 0, none⟩ (.int .u64 r)) := (⟨Nat.le_refl _, fun _ _ h _ => h⟩ : KeepsOthers W1 (W1.drewN nd)).trans ((KeepsOthers.setCell _ _ _).trans (KeepsOthers.setCell _ _ _))
       refine ⟨hko.from _, ⟨hb2, ?_⟩, ⟨?_, ?_, ?_, ?_, ?_⟩, HB.trans hb2⟩
       ·exact (Below.heap_setCell _ _ _ _ (by show g + 1 + 1 ≠ w.heap.size + 1; omega)).trans (Below.heap_setCell _ _ _ _ (by show g + 1 + 1 ≠ g; omega))
       ·rw [HS.out]
        have h1 := (RowB.far (show RowB ((W1.drewN nd).setCell ⟨g, i, none⟩ (.int .u64 q)) g (z.set i q) from RowB.set (show RowB (W1.drewN nd) g z from r0) i q) (p := ⟨w.heap.size + 1, 0, none⟩) (by show g ≠ w.heap.size + 1; omega) (.int .u64 r))
        rw [hq] at h1 ⊢
        exact h1
       ·exact Boxed.far (Boxed.far (show Boxed (W1.drewN nd) (g + 1) _ _ from bz) (p := ⟨g, i, none⟩) (by show g + 1 ≠ g; omega) _) (p := ⟨w.heap.size + 1, 0, none⟩) (by show g + 1 ≠ w.heap.size + 1; omega) _
       ·exact Boxed.far (Boxed.far (show Boxed (W1.drewN nd) (g + 1 + 1) _ _ from bf) (p := ⟨g, i, none⟩) (by show g + 1 + 1 ≠ g; omega) _) (p := ⟨w.heap.size + 1, 0, none⟩) (by show g + 1 + 1 ≠ w.heap.size + 1; omega) _
       ·exact Boxed.far (Boxed.far (show Boxed (W1.drewN nd) w.heap.size _ _ from b0) (p := ⟨g, i, none⟩) (by show w.heap.size ≠ g; omega) _) (p := ⟨w.heap.size + 1, 0, none⟩) (by show w.heap.size ≠ w.heap.size + 1; omega) _
       ·rw [HS.out]
        have h1 := Boxed.set (.int .u64 r) (Boxed.far (show Boxed (W1.drewN nd) (w.heap.size + 1) _ _ from b1) (p := ⟨g, i, none⟩) (by show w.heap.size + 1 ≠ g; omega) (.int .u64 q))
        rw [hrr] at h1 ⊢
        exact h1
      have hQp : ∀ c a w, ¬ (Exit.inBlock 2 Q2) (.panic c) a w := fun c a w h => h
      rw [← hq, ← hrr] at hdiv
      clear hq hrr HS r0 bz bf b0 b1 HB HG hsw hlen hlt1 hlt2 c0' HR0 hw0 hw1 hw2 hc hcb h0 h0b h1b h1 a9 K1 Q1 hsz st_len
      clear_value Q2
      obtain ⟨Q3, hQ3⟩ : ∃ Q3, Q3 = Exit.inBlock 2 Q2 := ⟨_, rfl⟩
      rw [← hQ3] at hQK hQp ⊢
      clear hQ3
      have hn1 : g ≠ w.heap.size + 1 := by omega
      clear l1' l0'
      obtain ⟨B, hB⟩ : ∃ B, B = w.heap.size := ⟨_, rfl⟩
      rw [← hB] at hQK g0 g1 f1 hn1 ⊢
      clear hB
      obtain ⟨x, hx0⟩ : ∃ x, x = wd l0 i := ⟨_, rfl⟩
      rw [← hx0] at hdiv ⊢
      clear hx0
      refine wpIn_region_any hmx (any_round (noDefer_of rfl) _ _ _ _ ?_)
      change wpAnyIn _ _ _ _ _ _ _ _ _ (World.drew _)
      refine wpAnyIn_take (i := 1) (v := ?_) rfl rfl (by kernel_rfl) (by kernel_rfl) (by kernel_rfl) (fun c a w h => (hQp c _ w h).elim) ⟨Or.inl ⟨by rfl, ?y1⟩, fun _ => rfl⟩ ?_
      case y1 => (intro w; go_simp; try rfl)
      refine wpAnyIn_take (i := 3) (v := ?_) rfl rfl (by kernel_rfl) (by kernel_rfl) (by kernel_rfl) (fun c a w h => (hQp c _ w h).elim) ⟨Or.inl ⟨by rfl, ?y3⟩, fun _ => rfl⟩ ?_
      case y3 => (intro w; go_simp; try rfl)
      refine wpAnyIn_ready (rs := [0, 2, 4]) (by kernel_rfl) (by simp) ?_
      refine AllReadyIn.cons rfl (fun K hK => ?_) ?_
      ·go_simp
       refine hK _ _ ?_
       clear hK K
       refine wpAnyIn_ready (rs := [2, 4]) (by kernel_rfl) (by simp) ?_
       refine AllReadyIn.cons rfl (fun K hK => ?_) ?_
       ·go_simp
        refine hK _ _ ?_
        clear hK K
        refine wpAnyIn_ready (rs := [4]) (by kernel_rfl) (by simp) ?_
        refine AllReadyIn.cons rfl (fun K hK => ?_) ?_
        ·go_simp
         refine hK _ _ ?_
         clear hK K
         refine wpAnyIn_ready (rs := [5]) (by kernel_rfl) (by simp) ?_
         refine AllReadyIn.cons rfl (fun K hK => ?_) ?_
         ·go_simp
          refine ⟨trivial, (hdiv _).mono ?_⟩
          rintro e w' ⟨rfl, hd⟩
          obtain ⟨nd, rfl⟩ := hd
          refine hK _ _ ?_
          clear hK K
          refine wpAnyIn_take (i := 6) (v := ?_) rfl rfl (by kernel_rfl) (by kernel_rfl) (by kernel_rfl) (fun c a w h => (hQp c _ w h).elim) ⟨Or.inl ⟨by rfl, ?y6⟩, fun _ => rfl⟩ ?_
          case y6 => (intro w; go_simp; try rfl)
          refine wpAnyIn_take (i := 7) (v := ?_) rfl rfl (by kernel_rfl) (by kernel_rfl) (by kernel_rfl) (fun c a w h => (hQp c _ w h).elim) ⟨Or.inl ⟨by rfl, ?y7⟩, fun _ => rfl⟩ ?_
          case y7 => (intro w; go_simp; try rfl)
          refine wpAnyIn_take (i := 8) (v := ?_) rfl rfl (by kernel_rfl) (by kernel_rfl) (by kernel_rfl) (fun c a w h => (hQp c _ w h).elim) ⟨Or.inl ⟨by rfl, ?y8⟩, fun _ => rfl⟩ ?_
          case y8 => (intro w; go_simp; try rfl)
          refine wpAnyIn_take (i := 9) (v := ?_) rfl rfl (by kernel_rfl) (by kernel_rfl) (by kernel_rfl) (fun c a w h => (hQp c _ w h).elim) ⟨Or.inl ⟨by rfl, ?y9⟩, fun _ => rfl⟩ ?_
          case y9 => (intro w; go_simp; try rfl)
          refine wpAnyIn_ready (rs := [10]) (by kernel_rfl) (by simp) ?_
          refine AllReadyIn.cons rfl (fun K hK => ?_) ?_
          ·go_simp
           refine hK _ _ ?_
           clear hK K
           refine wpAnyIn_ready (rs := [11]) (by kernel_rfl) (by simp) ?_
           refine AllReadyIn.cons rfl (fun K hK => ?_) ?_
           ·go_simp
            refine hK _ _ ?_
            clear hK K
            refine wpAnyIn_done (by kernel_rfl) ?_ _
            exact hQK _ _
           exact AllReadyIn.nil
          exact AllReadyIn.nil
         exact AllReadyIn.nil
        exact AllReadyIn.nil
       refine AllReadyIn.cons rfl (fun K hK => ?_) ?_
       ·go_simp
        refine hK _ _ ?_
        clear hK K
        refine wpAnyIn_ready (rs := [2]) (by kernel_rfl) (by simp) ?_
        refine AllReadyIn.cons rfl (fun K hK => ?_) ?_
        ·go_simp
         refine hK _ _ ?_
         clear hK K
         refine wpAnyIn_ready (rs := [5]) (by kernel_rfl) (by simp) ?_
         refine AllReadyIn.cons rfl (fun K hK => ?_) ?_
         ·go_simp
          refine ⟨trivial, (hdiv _).mono ?_⟩
          rintro e w' ⟨rfl, hd⟩
          obtain ⟨nd, rfl⟩ := hd
          refine hK _ _ ?_
          clear hK K
          refine wpAnyIn_take (i := 6) (v := ?_) rfl rfl (by kernel_rfl) (by kernel_rfl) (by kernel_rfl) (fun c a w h => (hQp c _ w h).elim) ⟨Or.inl ⟨by rfl, ?y6⟩, fun _ => rfl⟩ ?_
          case y6 => (intro w; go_simp; try rfl)
          refine wpAnyIn_take (i := 7) (v := ?_) rfl rfl (by kernel_rfl) (by kernel_rfl) (by kernel_rfl) (fun c a w h => (hQp c _ w h).elim) ⟨Or.inl ⟨by rfl, ?y7⟩, fun _ => rfl⟩ ?_
          case y7 => (intro w; go_simp; try rfl)
          refine wpAnyIn_take (i := 8) (v := ?_) rfl rfl (by kernel_rfl) (by kernel_rfl) (by kernel_rfl) (fun c a w h => (hQp c _ w h).elim) ⟨Or.inl ⟨by rfl, ?y8⟩, fun _ => rfl⟩ ?_
          case y8 => (intro w; go_simp; try rfl)
          refine wpAnyIn_take (i := 9) (v := ?_) rfl rfl (by kernel_rfl) (by kernel_rfl) (by kernel_rfl) (fun c a w h => (hQp c _ w h).elim) ⟨Or.inl ⟨by rfl, ?y9⟩, fun _ => rfl⟩ ?_
          case y9 => (intro w; go_simp; try rfl)
          refine wpAnyIn_ready (rs := [10]) (by kernel_rfl) (by simp) ?_
          refine AllReadyIn.cons rfl (fun K hK => ?_) ?_
          ·go_simp
           refine hK _ _ ?_
           clear hK K
           refine wpAnyIn_ready (rs := [11]) (by kernel_rfl) (by simp) ?_
           refine AllReadyIn.cons rfl (fun K hK => ?_) ?_
           ·go_simp
            refine hK _ _ ?_
            clear hK K
            refine wpAnyIn_done (by kernel_rfl) ?_ _
            exact hQK _ _
           exact AllReadyIn.nil
          exact AllReadyIn.nil
         exact AllReadyIn.nil
        exact AllReadyIn.nil
       exact AllReadyIn.nil
      refine AllReadyIn.cons rfl (fun K hK => ?_) ?_
      ·go_simp
       refine hK _ _ ?_
       clear hK K
       refine wpAnyIn_ready (rs := [0, 4]) (by kernel_rfl) (by simp) ?_
       refine AllReadyIn.cons rfl (fun K hK => ?_) ?_
       ·go_simp
        refine hK _ _ ?_
        clear hK K
        refine wpAnyIn_ready (rs := [4]) (by kernel_rfl) (by simp) ?_
        refine AllReadyIn.cons rfl (fun K hK => ?_) ?_
        ·go_simp
         refine hK _ _ ?_
         clear hK K
         refine wpAnyIn_ready (rs := [5]) (by kernel_rfl) (by simp) ?_
         refine AllReadyIn.cons rfl (fun K hK => ?_) ?_
         ·go_simp
          refine ⟨trivial, (hdiv _).mono ?_⟩
          rintro e w' ⟨rfl, hd⟩
          obtain ⟨nd, rfl⟩ := hd
          refine hK _ _ ?_
          clear hK K
          refine wpAnyIn_take (i := 6) (v := ?_) rfl rfl (by kernel_rfl) (by kernel_rfl) (by kernel_rfl) (fun c a w h => (hQp c _ w h).elim) ⟨Or.inl ⟨by rfl, ?y6⟩, fun _ => rfl⟩ ?_
          case y6 => (intro w; go_simp; try rfl)
          refine wpAnyIn_take (i := 7) (v := ?_) rfl rfl (by kernel_rfl) (by kernel_rfl) (by kernel_rfl) (fun c a w h => (hQp c _ w h).elim) ⟨Or.inl ⟨by rfl, ?y7⟩, fun _ => rfl⟩ ?_
          case y7 => (intro w; go_simp; try rfl)
          refine wpAnyIn_take (i := 8) (v := ?_) rfl rfl (by kernel_rfl) (by kernel_rfl) (by kernel_rfl) (fun c a w h => (hQp c _ w h).elim) ⟨Or.inl ⟨by rfl, ?y8⟩, fun _ => rfl⟩ ?_
          case y8 => (intro w; go_simp; try rfl)
          refine wpAnyIn_take (i := 9) (v := ?_) rfl rfl (by kernel_rfl) (by kernel_rfl) (by kernel_rfl) (fun c a w h => (hQp c _ w h).elim) ⟨Or.inl ⟨by rfl, ?y9⟩, fun _ => rfl⟩ ?_
          case y9 => (intro w; go_simp; try rfl)
          refine wpAnyIn_ready (rs := [10]) (by kernel_rfl) (by simp) ?_
          refine AllReadyIn.cons rfl (fun K hK => ?_) ?_
          ·go_simp
           refine hK _ _ ?_
           clear hK K
           refine wpAnyIn_ready (rs := [11]) (by kernel_rfl) (by simp) ?_
           refine AllReadyIn.cons rfl (fun K hK => ?_) ?_
           ·go_simp
            refine hK _ _ ?_
            clear hK K
            refine wpAnyIn_done (by kernel_rfl) ?_ _
            exact hQK _ _
           exact AllReadyIn.nil
          exact AllReadyIn.nil
         exact AllReadyIn.nil
        exact AllReadyIn.nil
       refine AllReadyIn.cons rfl (fun K hK => ?_) ?_
       ·go_simp
        refine hK _ _ ?_
        clear hK K
        refine wpAnyIn_ready (rs := [0, 5]) (by kernel_rfl) (by simp) ?_
        refine AllReadyIn.cons rfl (fun K hK => ?_) ?_
        ·go_simp
         refine hK _ _ ?_
         clear hK K
         refine wpAnyIn_ready (rs := [5]) (by kernel_rfl) (by simp) ?_
         refine AllReadyIn.cons rfl (fun K hK => ?_) ?_
         ·go_simp
          refine ⟨trivial, (hdiv _).mono ?_⟩
          rintro e w' ⟨rfl, hd⟩
          obtain ⟨nd, rfl⟩ := hd
          refine hK _ _ ?_
          clear hK K
          refine wpAnyIn_take (i := 6) (v := ?_) rfl rfl (by kernel_rfl) (by kernel_rfl) (by kernel_rfl) (fun c a w h => (hQp c _ w h).elim) ⟨Or.inl ⟨by rfl, ?y6⟩, fun _ => rfl⟩ ?_
          case y6 => (intro w; go_simp; try rfl)
          refine wpAnyIn_take (i := 7) (v := ?_) rfl rfl (by kernel_rfl) (by kernel_rfl) (by kernel_rfl) (fun c a w h => (hQp c _ w h).elim) ⟨Or.inl ⟨by rfl, ?y7⟩, fun _ => rfl⟩ ?_
          case y7 => (intro w; go_simp; try rfl)
          refine wpAnyIn_take (i := 8) (v := ?_) rfl rfl (by kernel_rfl) (by kernel_rfl) (by kernel_rfl) (fun c a w h => (hQp c _ w h).elim) ⟨Or.inl ⟨by rfl, ?y8⟩, fun _ => rfl⟩ ?_
          case y8 => (intro w; go_simp; try rfl)
          refine wpAnyIn_take (i := 9) (v := ?_) rfl rfl (by kernel_rfl) (by kernel_rfl) (by kernel_rfl) (fun c a w h => (hQp c _ w h).elim) ⟨Or.inl ⟨by rfl, ?y9⟩, fun _ => rfl⟩ ?_
          case y9 => (intro w; go_simp; try rfl)
          refine wpAnyIn_ready (rs := [10]) (by kernel_rfl) (by simp) ?_
          refine AllReadyIn.cons rfl (fun K hK => ?_) ?_
          ·go_simp
           refine hK _ _ ?_
           clear hK K
           refine wpAnyIn_ready (rs := [11]) (by kernel_rfl) (by simp) ?_
           refine AllReadyIn.cons rfl (fun K hK => ?_) ?_
           ·go_simp
            refine hK _ _ ?_
            clear hK K
            refine wpAnyIn_done (by kernel_rfl) ?_ _
            exact hQK _ _
           exact AllReadyIn.nil
          exact AllReadyIn.nil
         exact AllReadyIn.nil
        refine AllReadyIn.cons rfl (fun K hK => ?_) ?_
        ·go_simp
         refine ⟨trivial, (hdiv _).mono ?_⟩
         rintro e w' ⟨rfl, hd⟩
         obtain ⟨nd, rfl⟩ := hd
         refine hK _ _ ?_
         clear hK K
         refine wpAnyIn_take (i := 6) (v := ?_) rfl rfl (by kernel_rfl) (by kernel_rfl) (by kernel_rfl) (fun c a w h => (hQp c _ w h).elim) ⟨Or.inl ⟨by rfl, ?y6⟩, fun _ => rfl⟩ ?_
         case y6 => (intro w; go_simp; try rfl)
         refine wpAnyIn_take (i := 7) (v := ?_) rfl rfl (by kernel_rfl) (by kernel_rfl) (by kernel_rfl) (fun c a w h => (hQp c _ w h).elim) ⟨Or.inl ⟨by rfl, ?y7⟩, fun _ => rfl⟩ ?_
         case y7 => (intro w; go_simp; try rfl)
         refine wpAnyIn_take (i := 8) (v := ?_) rfl rfl (by kernel_rfl) (by kernel_rfl) (by kernel_rfl) (fun c a w h => (hQp c _ w h).elim) ⟨Or.inl ⟨by rfl, ?y8⟩, fun _ => rfl⟩ ?_
         case y8 => (intro w; go_simp; try rfl)
         refine wpAnyIn_ready (rs := [0]) (by kernel_rfl) (by simp) ?_
         refine AllReadyIn.cons rfl (fun K hK => ?_) ?_
         ·go_simp
          refine hK _ _ ?_
          clear hK K
          refine wpAnyIn_take (i := 9) (v := ?_) rfl rfl (by kernel_rfl) (by kernel_rfl) (by kernel_rfl) (fun c a w h => (hQp c _ w h).elim) ⟨Or.inl ⟨by rfl, ?y9⟩, fun _ => rfl⟩ ?_
          case y9 => (intro w; go_simp; try rfl)
          refine wpAnyIn_ready (rs := [10]) (by kernel_rfl) (by simp) ?_
          refine AllReadyIn.cons rfl (fun K hK => ?_) ?_
          ·go_simp
           refine hK _ _ ?_
           clear hK K
           refine wpAnyIn_ready (rs := [11]) (by kernel_rfl) (by simp) ?_
           refine AllReadyIn.cons rfl (fun K hK => ?_) ?_
           ·go_simp
            refine hK _ _ ?_
            clear hK K
            refine wpAnyIn_done (by kernel_rfl) ?_ _
            exact hQK _ _
           exact AllReadyIn.nil
          exact AllReadyIn.nil
         exact AllReadyIn.nil
        exact AllReadyIn.nil
       exact AllReadyIn.nil
      refine AllReadyIn.cons rfl (fun K hK => ?_) ?_
      ·go_simp
       refine hK _ _ ?_
       clear hK K
       refine wpAnyIn_ready (rs := [0, 2]) (by kernel_rfl) (by simp) ?_
       refine AllReadyIn.cons rfl (fun K hK => ?_) ?_
       ·go_simp
        refine hK _ _ ?_
        clear hK K
        refine wpAnyIn_ready (rs := [2]) (by kernel_rfl) (by simp) ?_
        refine AllReadyIn.cons rfl (fun K hK => ?_) ?_
        ·go_simp
         refine hK _ _ ?_
         clear hK K
         refine wpAnyIn_ready (rs := [5]) (by kernel_rfl) (by simp) ?_
         refine AllReadyIn.cons rfl (fun K hK => ?_) ?_
         ·go_simp
          refine ⟨trivial, (hdiv _).mono ?_⟩
          rintro e w' ⟨rfl, hd⟩
          obtain ⟨nd, rfl⟩ := hd
          refine hK _ _ ?_
          clear hK K
          refine wpAnyIn_take (i := 6) (v := ?_) rfl rfl (by kernel_rfl) (by kernel_rfl) (by kernel_rfl) (fun c a w h => (hQp c _ w h).elim) ⟨Or.inl ⟨by rfl, ?y6⟩, fun _ => rfl⟩ ?_
          case y6 => (intro w; go_simp; try rfl)
          refine wpAnyIn_take (i := 7) (v := ?_) rfl rfl (by kernel_rfl) (by kernel_rfl) (by kernel_rfl) (fun c a w h => (hQp c _ w h).elim) ⟨Or.inl ⟨by rfl, ?y7⟩, fun _ => rfl⟩ ?_
          case y7 => (intro w; go_simp; try rfl)
          refine wpAnyIn_take (i := 8) (v := ?_) rfl rfl (by kernel_rfl) (by kernel_rfl) (by kernel_rfl) (fun c a w h => (hQp c _ w h).elim) ⟨Or.inl ⟨by rfl, ?y8⟩, fun _ => rfl⟩ ?_
          case y8 => (intro w; go_simp; try rfl)
          refine wpAnyIn_take (i := 9) (v := ?_) rfl rfl (by kernel_rfl) (by kernel_rfl) (by kernel_rfl) (fun c a w h => (hQp c _ w h).elim) ⟨Or.inl ⟨by rfl, ?y9⟩, fun _ => rfl⟩ ?_
          case y9 => (intro w; go_simp; try rfl)
          refine wpAnyIn_ready (rs := [10]) (by kernel_rfl) (by simp) ?_
          refine AllReadyIn.cons rfl (fun K hK => ?_) ?_
          ·go_simp
           refine hK _ _ ?_
           clear hK K
           refine wpAnyIn_ready (rs := [11]) (by kernel_rfl) (by simp) ?_
           refine AllReadyIn.cons rfl (fun K hK => ?_) ?_
           ·go_simp
            refine hK _ _ ?_
            clear hK K
            refine wpAnyIn_done (by kernel_rfl) ?_ _
            exact hQK _ _
           exact AllReadyIn.nil
          exact AllReadyIn.nil
         exact AllReadyIn.nil
        exact AllReadyIn.nil
       refine AllReadyIn.cons rfl (fun K hK => ?_) ?_
       ·go_simp
        refine hK _ _ ?_
        clear hK K
        refine wpAnyIn_ready (rs := [0, 5]) (by kernel_rfl) (by simp) ?_
        refine AllReadyIn.cons rfl (fun K hK => ?_) ?_
        ·go_simp
         refine hK _ _ ?_
         clear hK K
         refine wpAnyIn_ready (rs := [5]) (by kernel_rfl) (by simp) ?_
         refine AllReadyIn.cons rfl (fun K hK => ?_) ?_
         ·go_simp
          refine ⟨trivial, (hdiv _).mono ?_⟩
          rintro e w' ⟨rfl, hd⟩
          obtain ⟨nd, rfl⟩ := hd
          refine hK _ _ ?_
          clear hK K
          refine wpAnyIn_take (i := 6) (v := ?_) rfl rfl (by kernel_rfl) (by kernel_rfl) (by kernel_rfl) (fun c a w h => (hQp c _ w h).elim) ⟨Or.inl ⟨by rfl, ?y6⟩, fun _ => rfl⟩ ?_
          case y6 => (intro w; go_simp; try rfl)
          refine wpAnyIn_take (i := 7) (v := ?_) rfl rfl (by kernel_rfl) (by kernel_rfl) (by kernel_rfl) (fun c a w h => (hQp c _ w h).elim) ⟨Or.inl ⟨by rfl, ?y7⟩, fun _ => rfl⟩ ?_
          case y7 => (intro w; go_simp; try rfl)
          refine wpAnyIn_take (i := 8) (v := ?_) rfl rfl (by kernel_rfl) (by kernel_rfl) (by kernel_rfl) (fun c a w h => (hQp c _ w h).elim) ⟨Or.inl ⟨by rfl, ?y8⟩, fun _ => rfl⟩ ?_
          case y8 => (intro w; go_simp; try rfl)
          refine wpAnyIn_take (i := 9) (v := ?_) rfl rfl (by kernel_rfl) (by kernel_rfl) (by kernel_rfl) (fun c a w h => (hQp c _ w h).elim) ⟨Or.inl ⟨by rfl, ?y9⟩, fun _ => rfl⟩ ?_
          case y9 => (intro w; go_simp; try rfl)
          refine wpAnyIn_ready (rs := [10]) (by kernel_rfl) (by simp) ?_
          refine AllReadyIn.cons rfl (fun K hK => ?_) ?_
          ·go_simp
           refine hK _ _ ?_
           clear hK K
           refine wpAnyIn_ready (rs := [11]) (by kernel_rfl) (by simp) ?_
           refine AllReadyIn.cons rfl (fun K hK => ?_) ?_
           ·go_simp
            refine hK _ _ ?_
            clear hK K
            refine wpAnyIn_done (by kernel_rfl) ?_ _
            exact hQK _ _
           exact AllReadyIn.nil
          exact AllReadyIn.nil
         exact AllReadyIn.nil
        refine AllReadyIn.cons rfl (fun K hK => ?_) ?_
        ·go_simp
         refine ⟨trivial, (hdiv _).mono ?_⟩
         rintro e w' ⟨rfl, hd⟩
         obtain ⟨nd, rfl⟩ := hd
         refine hK _ _ ?_
         clear hK K
         refine wpAnyIn_take (i := 6) (v := ?_) rfl rfl (by kernel_rfl) (by kernel_rfl) (by kernel_rfl) (fun c a w h => (hQp c _ w h).elim) ⟨Or.inl ⟨by rfl, ?y6⟩, fun _ => rfl⟩ ?_
         case y6 => (intro w; go_simp; try rfl)
         refine wpAnyIn_take (i := 7) (v := ?_) rfl rfl (by kernel_rfl) (by kernel_rfl) (by kernel_rfl) (fun c a w h => (hQp c _ w h).elim) ⟨Or.inl ⟨by rfl, ?y7⟩, fun _ => rfl⟩ ?_
         case y7 => (intro w; go_simp; try rfl)
         refine wpAnyIn_take (i := 8) (v := ?_) rfl rfl (by kernel_rfl) (by kernel_rfl) (by kernel_rfl) (fun c a w h => (hQp c _ w h).elim) ⟨Or.inl ⟨by rfl, ?y8⟩, fun _ => rfl⟩ ?_
         case y8 => (intro w; go_simp; try rfl)
         refine wpAnyIn_ready (rs := [0]) (by kernel_rfl) (by simp) ?_
         refine AllReadyIn.cons rfl (fun K hK => ?_) ?_
         ·go_simp
          refine hK _ _ ?_
          clear hK K
          refine wpAnyIn_take (i := 9) (v := ?_) rfl rfl (by kernel_rfl) (by kernel_rfl) (by kernel_rfl) (fun c a w h => (hQp c _ w h).elim) ⟨Or.inl ⟨by rfl, ?y9⟩, fun _ => rfl⟩ ?_
          case y9 => (intro w; go_simp; try rfl)
          refine wpAnyIn_ready (rs := [10]) (by kernel_rfl) (by simp) ?_
          refine AllReadyIn.cons rfl (fun K hK => ?_) ?_
          ·go_simp
           refine hK _ _ ?_
           clear hK K
           refine wpAnyIn_ready (rs := [11]) (by kernel_rfl) (by simp) ?_
           refine AllReadyIn.cons rfl (fun K hK => ?_) ?_
           ·go_simp
            refine hK _ _ ?_
            clear hK K
            refine wpAnyIn_done (by kernel_rfl) ?_ _
            exact hQK _ _
           exact AllReadyIn.nil
          exact AllReadyIn.nil
         exact AllReadyIn.nil
        exact AllReadyIn.nil
       exact AllReadyIn.nil
      exact AllReadyIn.nil
     case done =>
      clear r0 bz bf b0 b1 HB
      rintro D ys W1 hD rfl ⟨⟨r0, bz, bf, b0, b1⟩, HB⟩ hK
      rw [downF_downs _ _ _ _ (by simp)] at r0 b1
      have g1 := b1.cell
      have gz := bz.cell
      have hll := downL_length (divS a1 l0) l0.length a2
      obtain ⟨zs, hzs⟩ : ∃ zs, zs = (downL (divS a1 l0) l0.length a2).1 := ⟨_, rfl⟩
      obtain ⟨c9, hc9⟩ : ∃ c9, c9 = (downL (divS a1 l0) l0.length a2).2 := ⟨_, rfl⟩
      rw [← hzs] at r0 hll
      rw [← hc9] at b1 g1
      have HZ := Aside0.mk hzs
      have HC := Aside0.mk hc9
      clear hzs hc9
      have HD := Aside0.mk hK
      have HDs := Aside0.mk hD
      have HL := Aside0.mk hll
      clear hK hD hll
      gi_wp2
      try gi_region
      all_goals (try gi_wp2)
      all_goals
       have hK' : W1.drew.heap[D]? = some (.deferred (some [])) := HD.out
       have hDs := HDs.out
       have hr2 : RowB (W1.drew.putObj D (.deferred none)) g zs := (World.putObj_heap_other (by omega)).trans (show W1.drew.heap[g]? = _ from r0)
       have hR := hr2.own w.heap.size hsw (by rw [HL.out]; exact hc)
       rw [HL.out, HZ.out] at hR
       refine ⟨by simp, .inl ⟨_, _, rfl, run_takeDeferred hK', ?_⟩⟩
       refine ⟨_, results_tmp3 rfl _ _ _, _, by rw [← HC.out]; rfl, hR, ?_⟩
       exact (below_drew HB).trans (belowK_b (w := w) (Nat.le_refl _) _ D _ _ (by omega) hK' rfl rfl)
     case stop =>
      rintro D c pre W1 _ _ h _
      exact h.elim
  ·rw [if_neg hc] at h
   cases h
   have hcb : decide (l0.length ≤ 4096) = false := decide_eq_false hc
   clear hc
   gi_wp2
   exact ⟨_, results_tmp3 rfl _ _ _, _, rfl, Kd.R_nil _ _ _ _ _, HB'.out⟩
 ·rw [if_neg hw] at h; cases h
end Go.Proofs.Ytkkkbalefnileaa.Ex
/- words.MulWord, AddMul, SubMul, Left. -/
namespace Go.Proofs.Ytkkkbalefnileaa.Ex
open Go.RowKit Go.Proofs.YtkkkbalefnileaaW.PrintWords Go.Proofs.YtkkkbalefnileaaW.PrintLast Go.Proofs.YtkkkbalefnileaaW.PrintMore
set_option linter.unusedVariables false
set_option linter.unusedSimpArgs false

def words_MulWord.f (l0 : List Int) (a1 a2 : Int) : Option (List Int × Int × Int) :=
  if inW l0 ∧ isW a1 ∧ isW a2 then
    if l0.length ≤ 4096 then some ((carryL (fun i c => moreS (l0.getD i 0) a1 c 0) l0.length 0 a2).1, (carryL (fun i c => moreS (l0.getD i 0) a1 c 0) l0.length 0 a2).2, 0)
    else some ([], 0, 2)
  else none
theorem all_one (l : List Int) : ([l].all fun x => decide (x.length ≤ 4096)) = decide (l.length ≤ 4096) := by simp
set_option maxHeartbeats 2000000 in
theorem words_MulWord.calls (A0 : Option Addr) (c0 : Nat) (l0 : List Int) (a1 : Int) (a2 : Int) (r1 : List Int) (r2 : Int) (r3 : Int) (w : World) (hr0 : Kd.C (Kd.int .u64) w A0 l0.length l0) (hc0 : l0.length ≤ c0) (h : words_MulWord.f l0 a1 a2 = some (r1, r2, r3)) :
    Calls Try.prog 97 #[.slice A0 l0.length c0, .int .u64 a1, .int .u64 a2] w fun e w' => ∃ v0_ : Value, e = .returned (.tuple #[v0_, .int .u64 r2, .int .i64 r3]) ∧ Kd.R (Kd.int .u64) 33 w' w.heap.size (fun _ => True) v0_ r1 ∧ Below w.heap.size w w' := by
  unfold words_MulWord.f at h
  by_cases hw : inW l0 ∧ isW a1 ∧ isW a2
  · rw [if_pos hw] at h
    obtain ⟨hw0, hw1, hw2⟩ := hw
    have HR0 := Aside0.mk hr0
    clear hr0
    go_enter Try.func97, Try.ntmps97
    go_wp2_with fail
    obtain ⟨b0, b1, b2, hB⟩ := box2 w (.slice A0 l0.length c0) (.int .u64 a1) #[.slice A0 l0.length c0] 22 33 22
    have C0 := Aside0.mk (Kd.C_below HR0.out hB)
    have HB := Aside0.mk hB
    clear hB HR0
    generalize (((w.alloc (.cells #[.slice A0 l0.length c0] 22)).alloc (.cells #[.int .u64 a1] 33)).alloc (.cells #[.slice A0 l0.length c0] 22)) = W at *
    refine (words_few.calls (some ⟨w.heap.size + 1 + 1, 0, none⟩) 1 [l0] (decide (l0.length ≤ 4096)) _ (C_one C0.out hc0 b2) (Nat.le_refl 1) (by unfold words_few.f; rw [all_one])).mono ?_
    rintro e w' ⟨rfl, hd⟩
    have b0' := pw_cell_below hd.below b0
    have b1' := pw_cell_below hd.below b1
    have C0' := Aside0.mk (Kd.C_below C0.out hd.below)
    have HB' := Aside0.mk (below_step HB.out hd.below)
    clear b0 b1 b2 C0 HB hd
    clear W
    by_cases hc : l0.length ≤ 4096
    · rw [if_pos hc] at h
      cases h
      have hcb : decide (l0.length ≤ 4096) = true := decide_eq_true hc
      go_wp2_with fail
      refine (carrying 104 (enters_of Try.func104 (by kernel_rfl) rfl) #[.pointer (some ⟨w.heap.size, 0, none⟩), .pointer (some ⟨w.heap.size + 1, 0, none⟩)] (fun i c => moreS (l0.getD i 0) a1 c 0) isW A0 c0 l0 a2 _ hc hw2 ?_).mono ?_
      · intro i hi c hI
        refine ⟨(more_eq (l0.getD i 0) a1 c 0 (isW_get hw0 i) hw1 hI ⟨Int.le_refl 0, W64_pos⟩).2.2.2.2.2.2, fun W' hW' => ?_⟩
        exact mulWord1 w.heap.size (w.heap.size + 1) A0 c0 l0 i c a1 W' hi hI hw1 hw0 (Kd.C_below C0'.out hW') (pw_cell_below hW' b0') (pw_cell_below hW' b1')
      · rintro e w2 ⟨v0, rfl, hR, hB2⟩
        have HRr := Aside0.mk (Kd.R_lower hR (below_size HB'.out))
        have HB2 := Aside0.mk (below_step HB'.out hB2)
        clear hR hB2
        go_wp2
        go_ret3
        exact ⟨_, rfl, HRr.out, HB2.out⟩
    · rw [if_neg hc] at h
      cases h
      have hcb : decide (l0.length ≤ 4096) = false := decide_eq_false hc
      clear hc
      go_wp2
      go_ret3
      exact ⟨_, rfl, Kd.R_nil _ _ _ _ _, HB'.out⟩
  · rw [if_neg hw] at h; cases h
end Go.Proofs.Ytkkkbalefnileaa.Ex
/- A range over a function that lays, in each round, what it hands over; nat.rows. -/
namespace Go.Proofs.Ytkkkbalefnileaa.Ex
open Go.RowKit Go.Shelf Go.Proofs.YtkkkbalefnileaaW.PrintWords Go.Proofs.YtkkkbalefnileaaW.PrintLast Go.Proofs.YtkkkbalefnileaaW.PrintMore
set_option linter.unusedVariables false
set_option linter.unusedSimpArgs false
attribute [local go_sem] Oper.semAt_some

/-- What such an iterator promises: of each element that it hands over, Pr holds in the world of the round. No round leaves the loop. -/
def SeqLays {α : Type} (n : Nat) (P : Program) (g : Nat) (lb : Array Value) (en : α → Array Value) (Kp : World → World → Prop) (Pr : List α → α → World → Prop) (S : List α → Prop) (w : World) : Prop :=
  ∀ (l : Nat) (J : List α → World → Prop) (W : World), Below w.heap.size w W → AbidesFrom W.heap.size J →
    (∀ pre x V, J pre V → Pr pre x V → YieldAt Fence.wide (n - 1) P l (en x) V fun e V' => e = .returned (.bool true) ∧ J (pre ++ [x]) V' ∧ Kp V V') →
    J [] W → CallsIn Fence.wide n P g (#[.func (.yield l) #[] #[]] ++ lb) W fun e V' => (∃ v, e = .returned v) ∧ ∃ xs, S xs ∧ J xs V'
theorem range_lays {α : Type} {n : Nat} {P : Program} {g : Operand} {ps : Array Tmp} {assign body : Code} {Q : Exit → Act → World → Prop} {a : Act} {w : World}
    (h1 : 1 ≤ n) {gf : Nat} {lb : Array Value} (hg : a.eval g = .func (.func gf) #[] lb) (eg : ∀ args w, (callFunc gf args).run P w = .ok (.enter gf args) w)
    {en : α → Array Value} {Kp : World → World → Prop} {Pr : List α → α → World → Prop} {S : List α → Prop} {w0 : World} (hseq : SeqLays (n - 1) P gf lb en Kp Pr S w0)
    (hKt : ∀ {A B C : World}, Kp A B → Kp B C → Kp A C) (hKb : ∀ (W : World) (l : Nat) (o o' : Obj), w.heap.size ≤ l → W.heap[l]? = some o → o.isCells = false → o.isWalk = false → Kp W (W.putObj l o'))
    (hPr : ∀ pre x (W : World) (l : Nat) (o o' : Obj), Pr pre x W → W.heap[l]? = some o → o.isCells = false → Pr pre x (W.putObj l o'))
    (hb0 : Below w0.heap.size w0 w) (hps : ∀ x, (en x).size = ps.size)
    (I : List α → World → Prop) (hI : OwnFrom w.heap.size I) (h0 : I [] w) (a₁ : α → Act)
    (hassign : ∀ (l : Nat) (x : α) (W : World) (K : Act → World → Prop), K (a₁ x) W →
      assign.wpIn (Fence.wide.inRound l) (n - 1 - 1) P (Exit.then K (fun _ _ _ => False)) { tmps := (ps.zip (en x)).foldl (fun t (p, v) => t.setIfInBounds p v) a.tmps, defers := [] } W)
    (hbody : ∀ (l : Nat) (pre : List α) (x : α) (W : World), I pre W → Pr pre x W → body.wpIn (Fence.wide.inRound l) (n - 1 - 1) P (ownPostG w.heap.size Kp I (fun _ _ _ => False) (pre ++ [x]) W) (a₁ x) W)
    (hdone : ∀ (D : Nat) (xs : List α) (W : World), w.heap.size ≤ D → S xs → I xs W → W.heap[D]? = some (.deferred (some [])) → Q .normal { a with defers := { target := .collected D, args := #[] } :: a.defers } W) :
    (Code.rangeFunc g ps assign body).wpIn Fence.wide n P Q a w := by
  refine wpIn_rangeFunc (fun fn hfn => ?_)
  let rec_ : LoopState → Loop := fun st => { state := st, pending := none, fn := fn, tmps := a.tmps, params := ps, assign := assign, body := body, defers := w.heap.size }
  let L := w.heap.size + 1
  let V0 := (w.alloc (.deferred (some []))).alloc (.loop (rec_ .ready))
  have recL : V0.heap[L]? = some (.loop (rec_ .ready)) := by
    have := World.alloc_heap_new (w.alloc (.deferred (some []))) (.loop (rec_ .ready))
    rwa [World.size_alloc] at this
  have recD : V0.heap[w.heap.size]? = some (.deferred (some [])) := (Below.heap_alloc _ _ _ (by simp)).trans (World.alloc_heap_new w _)
  have inv0 : I [] V0 := hI.alloc _ (hI.alloc _ h0)
  have bel0 : Below w0.heap.size w0 V0 := hb0.trans ((((Below.refl _ w).alloc (Nat.le_refl _) _).alloc (by simp) _).mono hb0.size)
  have sz0 : V0.heap.size = w.heap.size + 2 := by show ((w.alloc _).alloc _).heap.size = _; simp
  refine ⟨L, [{ target := .collected w.heap.size, args := #[] }], V0, { target := .fn (.func gf) lb, args := #[.func (.yield L) #[] #[]] }, V0, gf, #[.func (.yield L) #[] #[]] ++ lb, V0, run_enterLoop_outer _ _ _ _ _, ?_, ?_, ?_, fun _ => h1, ?_⟩
  · simp only [resolve, hg]
    simp [go_sem]
  · intro f' _; trivial
  · simp [invoke, go_sem, eg]
  · have book : ∀ {A B : World} {row : Option Nat}, (∀ r, row = some r → V0.heap.size ≤ r ∧ ∃ o : Obj, A.heap[r]? = some o ∧ o.isWalk = true) → ∀ r, row = some r → w.heap.size ≤ r ∧ ∃ o : Obj, A.heap[r]? = some o ∧ o.isCells = false := by
      intro A B row hr r e
      obtain ⟨hB, o, ho, hw⟩ := hr r e
      exact ⟨by omega, o, ho, Obj.not_cells_of_walk hw⟩
    have call := hseq L (fun pre W => I pre W ∧ W.heap[L]? = some (.loop (rec_ .ready)) ∧ W.heap[w.heap.size]? = some (.deferred (some []))) V0 bel0
      (fun s A B row hs hgr hr => ⟨hI s A B row hs.1 hgr (book (B := B) hr), (grownBy_keeps hgr (fun r e => (hr r e).2) hs.2.1 rfl).trans hs.2.1, (grownBy_keeps hgr (fun r e => (hr r e).2) hs.2.2 rfl).trans hs.2.2⟩)
      (by
        rintro pre x W ⟨hi, hl, hk⟩ hpr
        have hlt : L < W.heap.size := (Array.getElem?_eq_some_iff.1 hl).1
        refine ⟨fn, _, assign, body, run_yield (P := P) (args := en x) hl (hps x), roundIn_of_wpIn hfn (hassign _ x W _ ⟨_, run_beginRound hl rfl, ?_⟩)⟩
        have busy : (W.putObj L (.loop (rec_ .busy))).heap[L]? = some (.loop (rec_ .busy)) := World.putObj_heap_same hlt
        have hk2 : (W.putObj L (.loop (rec_ .busy))).heap[w.heap.size]? = some (.deferred (some [])) := (World.putObj_heap_other (show w.heap.size ≠ w.heap.size + 1 by omega)).trans hk
        have kp0 : Kp W (W.putObj L (.loop (rec_ .busy))) := hKb _ _ _ _ (show w.heap.size ≤ w.heap.size + 1 by omega) hl rfl rfl
        refine wpIn_mono (hbody _ pre x _ (hI.putObj _ hi (show w.heap.size ≤ w.heap.size + 1 by omega) hl rfl) (hPr _ _ _ _ _ _ hpr hl rfl)) ?_
        rintro e a3 V hp
        cases e with
        | normal =>
          obtain ⟨k3, kp3, i3⟩ := hp
          have l3 := k3.same _ _ (show w.heap.size ≤ w.heap.size + 1 by omega) busy rfl
          have d3 := k3.same _ _ (Nat.le_refl _) hk2 rfl
          refine ⟨_, _, run_endRound none l3, rfl, ⟨hI.putObj _ i3 (show w.heap.size ≤ w.heap.size + 1 by omega) l3 rfl, World.putObj_heap_same (Array.getElem?_eq_some_iff.1 l3).1, (World.putObj_heap_other (show w.heap.size ≠ w.heap.size + 1 by omega)).trans d3⟩, hKt (hKt kp0 kp3) (hKb _ _ _ _ (show w.heap.size ≤ w.heap.size + 1 by omega) l3 rfl rfl)⟩
        | ret => exact hp.2.elim
        | exit id => exact hp.2.elim
        | goto t => exact hp.2.elim
        | panic ch => exact hp.elim
        | outgrown => exact hp.elim)
      ⟨inv0, recL, recD⟩
    refine call.mono ?_
    rintro e V ⟨⟨v, rfl⟩, xs, hS, hi, hl, hk⟩
    exact ⟨none, _, run_endLoop (P := P) hl (by simp [rec_]), hdone _ xs _ (Nat.le_refl _) hS (hI.putObj _ hi (show w.heap.size ≤ w.heap.size + 1 by omega) hl rfl) ((World.putObj_heap_other (show w.heap.size ≠ w.heap.size + 1 by omega)).trans hk)⟩
/-- What nat.rows hands over: where a row stands, and the row's block and room. -/
def encR (m : Nat) (x : Nat × Nat × Nat) : Array Value := #[.int .i64 (x.1 : Int), .slice (some ⟨x.2.1, 0, none⟩) (m + 1) x.2.2]
def RowAt (n0 : Nat) (l0 l1 : List Int) (pre : List (Nat × Nat × Nat)) (x : Nat × Nat × Nat) (W : World) : Prop :=
  x.1 = pre.length ∧ x.1 < l1.length ∧ ∃ l : List Int, l.length = l0.length + 1 ∧ inW l ∧ valB W64 l = valB W64 l0 * l1.getD x.1 0 ∧ W.ownsRow n0 33 1 (.slice (some ⟨x.2.1, 0, none⟩) (l0.length + 1) x.2.2) (l0.length + 1) (nums .u64 l)
theorem RowAt.put {n0 : Nat} {l0 l1 : List Int} (pre x) (W : World) (l : Nat) (o o' : Obj) (h : RowAt n0 l0 l1 pre x W) (hl : W.heap[l]? = some o) (ho : o.isCells = false) : RowAt n0 l0 l1 pre x (W.putObj l o') := by
  obtain ⟨h1, h2, r, h3, h4, h5, h6⟩ := h
  exact ⟨h1, h2, r, h3, h4, h5, ownsRow_putObj h6 o' hl ho⟩
theorem one_new (W : World) (x : Value) (t : TypeId) : ∀ (j : Nat) (u : Value), [x][j]? = some u → (W.alloc (.cells #[x] t)).cell? (Addr.add ⟨W.heap.size, 0, none⟩ j) = some u := by
  intro j u hj
  cases j with
  | zero =>
    simp only [List.getElem?_cons_zero, Option.some.injEq] at hj
    subst hj
    have h := World.alloc_heap_new W (.cells #[x] t)
    show (W.alloc (.cells #[x] t)).cell? ⟨W.heap.size, 0, none⟩ = some x
    unfold World.cell?
    rw [show (W.alloc (.cells #[x] t)).heap[(⟨W.heap.size, 0, none⟩ : Addr).block]? = _ from h]
    rfl
  | succ j => simp at hj
theorem iW_ : ∃ i0, Aside0 (Try.prog.info? 33 = some i0 ∧ i0.zero = some (.int .u64 0) ∧ i0.size = 1 ∧ i0.bytes = 8) := by
  have h := iW
  cases hi : Try.prog.info? 33 with
  | none => rw [hi] at h; cases h
  | some i0 =>
    rw [hi] at h
    simp only [Option.map_some, Option.some.injEq, Prod.mk.injEq] at h
    exact ⟨i0, ⟨rfl, h.1, h.2.1, h.2.2⟩⟩
set_option maxRecDepth 100000 in
set_option maxHeartbeats 2000000 in
theorem rows1_in (n : Nat) (hn : 1 ≤ n) (nb lp By Bx : Nat) (A0 A1 : Option Addr) (c0 c1 : Nat) (l0 l1 : List Int) (w0 : World) (hr0 : Kd.C (Kd.int .u64) w0 A0 l0.length l0) (hc0 : l0.length ≤ c0) (hr1 : Kd.C (Kd.int .u64) w0 A1 l1.length l1)
    (hw0 : inW l0) (hw1 : inW l1) (h4 : l0.length ≤ 4096) (J : List (Nat × Nat × Nat) → World → Prop) (W : World) (hW : Below w0.heap.size w0 W) (hnb : nb ≤ W.heap.size) (hJa : AbidesFrom W.heap.size J)
    (hY : ∀ pre x V, J pre V → RowAt nb l0 l1 pre x V → YieldAt Fence.wide (n - 1) Try.prog lp (encR l0.length x) V fun e V' => e = .returned (.bool true) ∧ J (pre ++ [x]) V' ∧ KeepB w0.heap.size Bx V V')
    (hBy : Boxed W By 23 (.slice A1 l1.length c1)) (hBx : Boxed W Bx 23 (.slice A0 l0.length c0)) (h0 : J [] W) :
    CallsIn Fence.wide n Try.prog 96 #[.func (.yield lp) #[] #[], .pointer (some ⟨By, 0, none⟩), .pointer (some ⟨Bx, 0, none⟩)] W fun e V' => (∃ v, e = .returned v) ∧ ∃ xs, xs.length = l1.length ∧ J xs V' := by
  have hlen : l1.length ≤ 9223372036854775807 := hr1.2.1
  have HR0 := Aside0.mk hr0
  have HR1 := Aside0.mk hr1
  clear hr0 hr1
  have hcy := hBy.cell
  have hcx := hBx.cell
  refine callsIn_of_wp Try.func96 rfl trivial ?_ rfl
  simp only [Try.ntmps96, List.size_toArray, List.length_cons, List.length_nil, Nat.reduceAdd, Nat.reduceSub, Array.replicate_succ, Array.replicate_zero, List.push_toArray, List.append_toArray, List.nil_append, List.cons_append]
  gi_wp2
  gi_loopw [11] (fun i wr => ∃ (k : Nat) (pre : List (Nat × Nat × Nat)), k ≤ l1.length ∧ pre.length = k ∧ i = .int .i64 (k : Int) ∧ J pre wr ∧ Below w0.heap.size w0 wr ∧ Boxed wr Bx 23 (.slice A0 l0.length c0) ∧ W.heap.size ≤ wr.heap.size)
    (fun i _ => l1.length - (intOf i).toNat)
  case atStart => exact ⟨0, [], Nat.zero_le _, rfl, rfl, h0, hW, hBx, Nat.le_refl _⟩
  case round =>
    clear hcy hcx hBx h0 hBy
    obtain ⟨k, pre, hk, hpl, rfl, hJs, hnx, hbx, hsw⟩ := hrel
    have hcx := hbx.cell
    by_cases hlt : k < l1.length
    · have hC := Kd.C_below HR1.out hnx
      obtain ⟨ad, rfl, hx1⟩ := Kd.at_int hC (k : Int) (by omega) (by omega)
      rw [show rd l1 (k : Int) = l1.getD k 0 by simp [rd]] at hx1
      have hxw := isW_get hw1 k
      have HXE := Aside0.mk (show ∃ x, x = l1.getD k 0 from ⟨_, rfl⟩)
      have hlti : (k : Int) < (l1.length : Int) := by omega
      have HK := Aside0.mk hlt
      have hm := mul_val l0 (l1.getD k 0) 0 hw0 hxw ⟨Int.le_refl 0, W64_pos⟩
      have hf : words_MulWord.f l0 (l1.getD k 0) 0 = some ((carryL (fun i c => moreS (l0.getD i 0) (l1.getD k 0) c 0) l0.length 0 0).1, (carryL (fun i c => moreS (l0.getD i 0) (l1.getD k 0) c 0) l0.length 0 0).2, 0) := by
        unfold words_MulWord.f; rw [if_pos ⟨hw0, hxw, ⟨Int.le_refl 0, W64_pos⟩⟩, if_pos h4]
      have hzl := carryL_length (fun i c => moreS (l0.getD i 0) (l1.getD k 0) c 0) l0.length 0 0
      have hcall := words_MulWord.calls A0 c0 l0 (l1.getD k 0) 0 _ _ _ wr (Kd.C_below HR0.out hnx) hc0 hf
      obtain ⟨z, hz⟩ : ∃ z, z = (carryL (fun i c => moreS (l0.getD i 0) (l1.getD k 0) c 0) l0.length 0 0).1 := ⟨_, rfl⟩
      obtain ⟨hi, hhi⟩ : ∃ hi, hi = (carryL (fun i c => moreS (l0.getD i 0) (l1.getD k 0) c 0) l0.length 0 0).2 := ⟨_, rfl⟩
      simp only at hm
      rw [← hz, ← hhi] at hcall hm
      rw [← hz] at hzl
      obtain ⟨x, hx⟩ : ∃ x, x = l1.getD k 0 := ⟨_, rfl⟩
      rw [← hx] at hx1 hcall hm
      have HX := Aside0.mk hx
      have HM := Aside0.mk hm
      have HZL := Aside0.mk hzl
      have HC := Aside0.mk hcall
      have hkk : ((k : Nat) : Int).toNat = k := rfl
      rw [hkk] at hx1
      clear hz hhi hx hm hzl hf hC hxw HXE
      have hcall' := hcall
      clear hcall
      gi_wp2_with fail
      refine ⟨trivial, (callsIn_wide.2 HC.out).mono ?_⟩
      rintro e w3 ⟨v0, rfl, hR, hb3⟩
      obtain ⟨A3, c3, rfl⟩ := Kd.R_slice hR
      have hO := Kd.own_of_R (enc := Value.int .u64) (h1 := fun _ => rfl) hR
      have hsz := below_size hnx
      have HO := Aside0.mk (own_weaken hO (Nat.le_trans hnb hsw))
      have HOB := Aside0.mk (own_base hO)
      have HB3 := Aside0.mk hb3
      obtain ⟨i0, hi0⟩ := iW_
      have hsz3 := below_size hb3
      have HSZ := Aside0.mk hsz3
      have hcapz : z.length ≤ 4096 := by rw [HZL.out]; exact h4
      have HZ4 := Aside0.mk hcapz
      clear hR hO hb3 hsz hsz3 hcapz hcall'
      gi_wp2_with (gi_at_builtin; refine wpListIn_append_own _ rfl _ _ 22 rfl nb 33 i0 (.int .u64 0) 1 8 Try.underlying22 hi0.out.1 hi0.out.2.1 hi0.out.2.2.1 hi0.out.2.2.2 rfl (by decide) _ _ _ rfl (HO.out.alloc _) ⟨w3.heap.size, 0, none⟩ 1 1 [.int .u64 hi] rfl rfl (one_new _ _ _) (by simp [Value.oneCell']) (by have := HZ4.out; unfold maxLen; omega) (by have := HZ4.out; omega) (by have := HSZ.out; simp; omega) ?_; intro v1 w4 hown4 hgrow4 _)
      have b4 : Below wr.heap.size wr w4 := pw_below_grown (below_alloc HB3.out _) _ (by have := HSZ.out; simp; omega) hgrow4 HOB.out
      rw [HZL.out] at hown4
      obtain ⟨g', cap', rfl⟩ := ownsRow_succ hown4
      have hJ4 : J pre w4 := hJa pre wr w4 none hJs (grown_of_below b4 none) (fun r e => by cases e)
      have hRow : RowAt nb l0 l1 pre (k, g', cap') w4 := by
        obtain ⟨m1, m2, m3⟩ := HM.out
        refine ⟨hpl.symm, HK.out, z ++ [hi], by simp [HZL.out], inB_append.2 ⟨m2, inB_cons.2 ⟨m1, inB_nil⟩⟩, ?_, ?_⟩
        · rw [valB_append, HZL.out, ← HX.out]
          simp only [valB, Int.mul_zero, Int.add_zero]
          omega
        · have := hown4
          rw [show nums .u64 (z ++ [hi]) = encs (Value.int .u64) z ++ [Value.int .u64 hi] by simp [nums, encs]]
          exact this
      obtain ⟨fn, tmps, assign, body, hy, hR⟩ := hY pre (k, g', cap') w4 hJ4 hRow
      unfold encR at hy
      dsimp only at hy
      have HB4 := Aside0.mk b4
      have HBX := Aside0.mk (Boxed.below hbx b4)
      have HN := Aside0.mk (below_step hnx b4)
      have HS4 := Aside0.mk (below_size b4)
      clear b4 hown4 hgrow4 hRow hJ4 hbx hnx hJs
      rw [hy, Oper.uponIn_round]
      refine ⟨fun _ => hn, hR.mono ?_⟩
      rintro e W3 ⟨rfl, hJ3, hk3⟩
      gi_wp2
      go_roundw
      case rel => exact ⟨k + 1, pre ++ [(k, g', cap')], by omega, by simp [hpl], by go_num, hJ3, HN.out.trans hk3.1, hk3.2.trans HBX.out, by have := HS4.out; have := hk3.1.size; omega⟩
      case measure => simp [intOf]; omega
    · obtain rfl : k = l1.length := by omega
      gi_wp2
      go_end0
      exact ⟨⟨_, rfl⟩, pre, hpl, hJs⟩
theorem rows_lays (n : Nat) (hn : 1 ≤ n) (By Bx : Nat) (A0 A1 : Option Addr) (c0 c1 : Nat) (l0 l1 : List Int) (w0 w : World) (hr0 : Kd.C (Kd.int .u64) w0 A0 l0.length l0) (hc0 : l0.length ≤ c0) (hr1 : Kd.C (Kd.int .u64) w0 A1 l1.length l1)
    (hw0 : inW l0) (hw1 : inW l1) (h4 : l0.length ≤ 4096) (hb : Below w0.heap.size w0 w) (hBy : Boxed w By 23 (.slice A1 l1.length c1)) (hBx : Boxed w Bx 23 (.slice A0 l0.length c0)) :
    SeqLays n Try.prog 96 #[.pointer (some ⟨By, 0, none⟩), .pointer (some ⟨Bx, 0, none⟩)] (encR l0.length) (KeepB w0.heap.size Bx) (RowAt w.heap.size l0 l1) (fun ys => ys.length = l1.length) w := fun l J W hW hJ hY h0 =>
  rows1_in n hn w.heap.size l By Bx A0 A1 c0 c1 l0 l1 w0 hr0 hc0 hr1 hw0 hw1 h4 J W (below_step hb hW) (below_size hW) hJ hY (Boxed.below hBy hW) (Boxed.below hBx hW) h0
set_option maxHeartbeats 1000000 in
theorem rows_in (n : Nat) (a b : Option Addr) (la ca lb cb : Nat) (w : World) :
    CallsIn Fence.wide n Try.prog 80 #[.slice a la ca, .slice b lb cb] w fun e w' => e = .returned (.func (.func 96) #[] #[.pointer (some ⟨w.heap.size + 1, 0, none⟩), .pointer (some ⟨w.heap.size, 0, none⟩)]) ∧ w' = (w.alloc (.cells #[.slice a la ca] 23)).alloc (.cells #[.slice b lb cb] 23) := by
  refine callsIn_of_wp Try.func80 rfl trivial ?_ rfl
  simp only [Try.ntmps80, List.size_toArray, List.length_cons, List.length_nil, Nat.reduceAdd, Nat.reduceSub, Array.replicate_succ, Array.replicate_zero, List.push_toArray, List.append_toArray, List.nil_append, List.cons_append]
  gi_wp2
  go_ret
  exact ⟨by simp, rfl⟩
end Go.Proofs.Ytkkkbalefnileaa.Ex
/- nat.mul. -/
namespace Go.Proofs.Ytkkkbalefnileaa.Ex
open Go.RowKit Go.Shelf Go.Proofs.YtkkkbalefnileaaW.PrintWords Go.Proofs.YtkkkbalefnileaaW.PrintLast Go.Proofs.YtkkkbalefnileaaW.PrintMore
set_option linter.unusedVariables false
set_option linter.unusedSimpArgs false
attribute [local go_sem] Oper.semAt_some

def nat_mul.f (l0 l1 : List Int) : Option (List Int) :=
  if inW l0 ∧ inW l1 ∧ l0.length ≤ 100000 ∧ l1.length ≤ 100000 ∧ (can (valB W64 l0)).length ≤ 4096 then some (can (valB W64 l0 * valB W64 l1)) else none
/-- What has been added up. -/
def MulI (n : Nat) (X Y : List Int) (z : List Int) (i : Nat) : Prop := inW z ∧ z.length = n ∧ valB W64 z = valB W64 X * valB W64 (Y.take i)
theorem RowB.own' {W : World} {g : Nat} {l : List Int} (h : RowB W g l) (base : Nat) (hb : base ≤ g) (hl : l.length ≤ 1000000) : Kd.R (Kd.int .u64) 33 W base (fun _ => True) (.slice (some ⟨g, 0, none⟩) l.length l.length) l := by
  refine Kd.R_of_own (enc := Value.int .u64) (h1 := fun _ => rfl) ⟨by simp [encs], .inr ⟨g, l.length, (nums .u64 l).toArray, rfl, hb, h, Nat.le_refl _, by unfold maxLen; omega, by simp [nums], ?_⟩⟩ (fun _ _ => trivial)
  simp only [nums, encs, Nat.mul_one]
  rw [List.take_of_length_le (by simp)]
/-- Behind the last word of a row nothing is carried. -/
theorem mul_last {X Y z z' row : List Int} {i : Nat} {cc : Int} (hx : inW X) (hy : inW Y) (hi : i < Y.length) (hv : valB W64 z = valB W64 X * valB W64 (Y.take i)) (hr : valB W64 row = valB W64 X * Y.getD i 0) (hz : inW z') (hc : 0 ≤ cc)
    (h : valB W64 z' + W64 ^ (i + (X.length + 1)) * cc = valB W64 z + W64 ^ i * valB W64 row) : valB W64 z' = valB W64 X * valB W64 (Y.take (i + 1)) ∧ cc = 0 := by
  have h1 : valB W64 z + W64 ^ i * valB W64 row = valB W64 X * valB W64 (Y.take (i + 1)) := by
    rw [hv, hr, valB_take_succ W64 Y i hi, Int.mul_add, Int.mul_left_comm (W64 ^ i)]
  rw [h1] at h
  have b0 := valB_nonneg W64_pos hz
  have b1 := valB_lt W64_pos hx
  have b2 := valB_lt W64_pos (inB_take hy (i + 1))
  rw [List.length_take, Nat.min_eq_left (by omega)] at b2
  have b3 := valB_nonneg W64_pos hx
  have b4 := valB_nonneg W64_pos (inB_take hy (i + 1))
  have p1 := pow_posB W64_pos X.length
  have p2 := pow_posB W64_pos (i + 1)
  have b5 : valB W64 X * valB W64 (Y.take (i + 1)) < W64 ^ (i + (X.length + 1)) := by
    rw [show i + (X.length + 1) = X.length + (i + 1) by omega, Int.pow_add]
    exact Int.lt_of_le_of_lt (Int.mul_le_mul_of_nonneg_right (Int.le_of_lt b1) b4) (Int.mul_lt_mul_of_pos_left b2 p1)
  have hc0 : cc = 0 := by
    by_cases h0 : cc ≤ 0
    · omega
    · have h2 : W64 ^ (i + (X.length + 1)) * 1 ≤ W64 ^ (i + (X.length + 1)) * cc := Int.mul_le_mul_of_nonneg_left (by omega) (Int.le_of_lt (pow_posB W64_pos _))
      rw [Int.mul_one] at h2
      omega
  refine ⟨?_, hc0⟩
  rw [hc0, Int.mul_zero, Int.add_zero] at h
  exact h
set_option maxRecDepth 100000 in
set_option maxHeartbeats 2000000 in
theorem nat_mul.calls (A0 : Option Addr) (c0 : Nat) (l0 : List Int) (A1 : Option Addr) (c1 : Nat) (l1 : List Int) (r : List Int) (w : World) (hr0 : Kd.C (Kd.int .u64) w A0 l0.length l0) (hc0 : l0.length ≤ c0) (hr1 : Kd.C (Kd.int .u64) w A1 l1.length l1) (hc1 : l1.length ≤ c1) (h : nat_mul.f l0 l1 = some r) :
  Calls Try.prog 44 #[.slice A0 l0.length c0, .slice A1 l1.length c1] w fun e w' => ∃ v0_ : Value, e = .returned (v0_) ∧ Kd.R (Kd.int .u64) 33 w' w.heap.size (fun _ => True) v0_ r ∧ Below w.heap.size w w' := by
 unfold nat_mul.f at h
 by_cases hw : inW l0 ∧ inW l1 ∧ l0.length ≤ 100000 ∧ l1.length ≤ 100000 ∧ (can (valB W64 l0)).length ≤ 4096
 ·rw [if_pos hw] at h
  cases h
  obtain ⟨hw0, hw1, hm0, hm1, h4⟩ := hw
  have T0 := trim1 A0 c0 l0 w hw0 hr0 hc0
  have T1 := trim1 A1 c1 l1 w hw1 hr1 hc1
  have C0 := C_take hr0 _ (can_le hw0)
  have C1 := C_take hr1 _ (can_le hw1)
  rw [can_take hw0] at C0
  rw [can_take hw1] at C1
  have hx := can_in (valW_nonneg hw0)
  have hy := can_in (valW_nonneg hw1)
  have vx := can_val (valW_nonneg hw0)
  have vy := can_val (valW_nonneg hw1)
  have lx := can_le hw0
  have ly := can_le hw1
  obtain ⟨X, hX⟩ : ∃ X, X = can (valB W64 l0) := ⟨_, rfl⟩
  obtain ⟨Y, hY⟩ : ∃ Y, Y = can (valB W64 l1) := ⟨_, rfl⟩
  rw [← hX] at T0 C0 hx vx h4 lx
  rw [← hY] at T1 C1 hy vy ly
  rw [← vx, ← vy]
  have hXc : X.length ≤ c0 := by omega
  have hX5 : X.length ≤ 100000 := by omega
  have hY5 : Y.length ≤ 100000 := by omega
  have HC0 := Aside0.mk C0
  have HC1 := Aside0.mk C1
  clear hr0 hr1 hw0 hw1 vx vy hX hY lx ly C0 C1 hm0 hm1
  refine (callsIn_wide (n := 9)).1 ?_
  refine callsIn_of_wp_marks Try.func44 rfl trivial ?_ rfl
  simp only [Try.ntmps44, List.size_toArray, List.length_cons, List.length_nil, Nat.reduceAdd, Nat.reduceSub, Array.replicate_succ, Array.replicate_zero, List.push_toArray, List.append_toArray, List.nil_append, List.cons_append]
  gi_wp2_with fail
  refine ⟨trivial, (callsIn_wide.2 T0).mono ?_⟩
  rintro e w1 ⟨rfl, rfl⟩
  gi_wp2_with fail
  refine ⟨trivial, (callsIn_wide.2 T1).mono ?_⟩
  rintro e w1 ⟨rfl, rfl⟩
  have hmk := print_make (P := Try.prog) 23 33 .u64 8 Try.underlying23 iW (by decide) (X.length + Y.length) (by omega)
  simp only [Int.natCast_add] at hmk
  clear T0 T1
  gi_wp2_with fail
  refine ⟨trivial, (rows_in 8 _ _ _ _ _ _ _).mono ?_⟩
  rintro e w2 ⟨rfl, rfl⟩
  have r0 := (((RowB.made w (X.length + Y.length)).alloc (.cells #[.slice (some ⟨w.heap.size, 0, none⟩) (X.length + Y.length) (X.length + Y.length)] 23)).alloc (.cells #[.slice A0 X.length c0] 23)).alloc (.cells #[.slice A1 Y.length c1] 23)
  have bz := ((Boxed.new (w.alloc (.cells (madeCells #[.int .u64 0] (X.length + Y.length)) 33)) 23 (.slice (some ⟨w.heap.size, 0, none⟩) (X.length + Y.length) (X.length + Y.length))).alloc (.cells #[.slice A0 X.length c0] 23)).alloc (.cells #[.slice A1 Y.length c1] 23)
  have bx := (Boxed.new ((w.alloc (.cells (madeCells #[.int .u64 0] (X.length + Y.length)) 33)).alloc (.cells #[.slice (some ⟨w.heap.size, 0, none⟩) (X.length + Y.length) (X.length + Y.length)] 23)) 23 (.slice A0 X.length c0)).alloc (.cells #[.slice A1 Y.length c1] 23)
  have bY := Boxed.new (((w.alloc (.cells (madeCells #[.int .u64 0] (X.length + Y.length)) 33)).alloc (.cells #[.slice (some ⟨w.heap.size, 0, none⟩) (X.length + Y.length) (X.length + Y.length)] 23)).alloc (.cells #[.slice A0 X.length c0] 23)) 23 (.slice A1 Y.length c1)
  have HB := below_alloc (below_alloc (below_alloc (below_alloc (Below.refl w.heap.size w) (.cells (madeCells #[.int .u64 0] (X.length + Y.length)) 33)) (.cells #[.slice (some ⟨w.heap.size, 0, none⟩) (X.length + Y.length) (X.length + Y.length)] 23)) (.cells #[.slice A0 X.length c0] 23)) (.cells #[.slice A1 Y.length c1] 23)
  have hsz : ((((w.alloc (.cells (madeCells #[.int .u64 0] (X.length + Y.length)) 33)).alloc (.cells #[.slice (some ⟨w.heap.size, 0, none⟩) (X.length + Y.length) (X.length + Y.length)] 23)).alloc (.cells #[.slice A0 X.length c0] 23)).alloc (.cells #[.slice A1 Y.length c1] 23)).heap.size = w.heap.size + 4 := by simp
  simp only [World.size_alloc] at bz bx bY ⊢
  obtain ⟨g, hg⟩ : ∃ g, g = w.heap.size := ⟨_, rfl⟩
  rw [← hg] at r0 bz bx bY HB hsz ⊢
  clear hmk
  generalize ((((w.alloc (.cells (madeCells #[.int .u64 0] (X.length + Y.length)) 33)).alloc (.cells #[.slice (some ⟨g, 0, none⟩) (X.length + Y.length) (X.length + Y.length)] 23)).alloc (.cells #[.slice A0 X.length c0] 23)).alloc (.cells #[.slice A1 Y.length c1] 23)) = W at *
  subst hg
  gi_wp2_with fail
  have sW := hsz
  refine range_lays (n := 9) (by decide) (gf := 96) (lb := #[.pointer (some ⟨w.heap.size + 1 + 1 + 1, 0, none⟩), .pointer (some ⟨w.heap.size + 1 + 1, 0, none⟩)]) rfl (enters_of Try.func96 (by kernel_rfl) rfl)
   (rows_lays 8 (by decide) (w.heap.size + 1 + 1 + 1) (w.heap.size + 1 + 1) A0 A1 c0 c1 X Y w W HC0.out hXc HC1.out hx hy h4 HB bY bx) KeepB.trans ?hkb (fun pre x W l o o' h hl ho => RowAt.put pre x W l o o' h hl ho) (Below.refl _ _) (fun _ => rfl)
   (fun (pre : List (Nat × Nat × Nat)) V => (∃ z, MulI (X.length + Y.length) X Y z pre.length ∧ RowB V w.heap.size z ∧ Boxed V (w.heap.size + 1) 23 (.slice (some ⟨w.heap.size, 0, none⟩) (X.length + Y.length) (X.length + Y.length)) ∧ Boxed V (w.heap.size + 1 + 1) 23 (.slice A0 X.length c0)) ∧ Below w.heap.size w V)
   (OwnFrom.and ?own (ownFrom_below (Nat.le_refl _) (by omega)))
   ⟨⟨_, ⟨inB_zeros W64_pos _, by simp, by rw [valB_zeros]; simp [valB]⟩, r0, bz, bx⟩, HB⟩
   (fun (x : Nat × Nat × Nat) => { tmps := #[.slice A0 X.length c0, .slice A1 Y.length c1, undef, undef, .slice none 0 0, .pointer (some ⟨w.heap.size + 1, 0, none⟩), .int .i64 (x.1 : Int), .slice (some ⟨x.2.1, 0, none⟩) (X.length + 1) x.2.2, undef, undef, undef, .slice A0 l0.length c0, .slice A0 X.length c0, .slice A1 l1.length c1, .slice A1 Y.length c1, .slice A0 X.length c0, .int .i64 (X.length : Int), .slice A1 Y.length c1, .int .i64 (Y.length : Int), .int .i64 ((X.length : Int) + (Y.length : Int)), .slice (some ⟨w.heap.size, 0, none⟩) (X.length + Y.length) (X.length + Y.length), .slice A0 X.length c0, .slice A1 Y.length c1, .func (.func 96) #[] #[.pointer (some ⟨w.heap.size + 1 + 1 + 1, 0, none⟩), .pointer (some ⟨w.heap.size + 1 + 1, 0, none⟩)], .int .i64 (x.1 : Int), .slice (some ⟨x.2.1, 0, none⟩) (X.length + 1) x.2.2, undef, undef, undef, undef, undef, undef, undef, undef, undef, undef, undef, undef, undef, undef, undef, undef, undef, undef, undef, undef, undef, undef, undef, undef, undef, undef, undef], defers := [] }) ?assign ?body ?done
  case hkb =>
   intro W1 l o o' hl h ho hw
   exact ⟨belowK_b (w := W) HB.size W1 l o o' hl h ho hw, World.putObj_heap_other (by omega)⟩
  case own =>
   rintro s V V2 row ⟨z, h0, h1, h2, h3⟩ hG hr
   have hne : ∀ B, B < W.heap.size → some B ≠ row := fun B hB e => by have := (hr B e.symm).1; omega
   exact ⟨z, h0, blk_grown h1 hG (hne _ (by omega)), h2.kept hG (hne _ (by omega)), h3.kept hG (hne _ (by omega))⟩
  case assign =>
   intro l x V K hK
   unfold encR
   gi_wp2
   exact hK
  case body =>
   clear r0 bz bx bY HB
   rintro l pre ⟨i, g2, cap⟩ W1 ⟨⟨z, hz, r0, bz, bx⟩, HB⟩ ⟨hi, hlt, row, hrl, hrw, hrv, hown⟩
   simp only at hi hlt hrv hown
   obtain ⟨hz1, hz2, hz3⟩ := hz
   rw [← hi] at hz3
   have hg2 : W.heap.size ≤ g2 := own_base hown g2 rfl
   have HV := Aside0.mk (show valB W64 z = valB W64 X * valB W64 (Y.take i) from hz3)
   have HRV := Aside0.mk hrv
   have HI := Aside0.mk hi
   have HZ1 := Aside0.mk hz1
   have HRW := Aside0.mk hrw
   have HB1 := Aside0.mk HB
   clear hz3 hrv hi hz1 hrw HB
   have HBX1 := Aside0.mk bx
   gi_wp2
   gi_loopw [8, 28] (fun c v wr => ∃ (k : Nat) (z' : List Int) (cc : Int), k ≤ X.length + 1 ∧ v = .int .i64 (k : Int) ∧ c = .int .u64 cc ∧ 0 ≤ cc ∧ cc ≤ 1 ∧ Aside0 (inW z' ∧ z'.length = X.length + Y.length ∧ valB W64 z' + W64 ^ (i + k) * cc = valB W64 z + W64 ^ i * valB W64 (row.take k)) ∧ RowB wr w.heap.size z' ∧ Boxed wr (w.heap.size + 1) 23 (.slice (some ⟨w.heap.size, 0, none⟩) (X.length + Y.length) (X.length + Y.length)) ∧ Boxed wr (w.heap.size + 1 + 1) 23 (.slice A0 X.length c0) ∧ Aside0 (Below w.heap.size W1 wr) ∧ Aside0 (KeepsFrom W.heap.size W1 wr) ∧ wr.ownsRow W.heap.size 33 1 (.slice (some ⟨g2, 0, none⟩) (X.length + 1) cap) (X.length + 1) (nums .u64 row))
    (fun _ v _ => X.length + 1 - (intOf v).toNat)
   case atStart => exact ⟨0, z, 0, Nat.zero_le _, rfl, rfl, Int.le_refl 0, by decide, ⟨HZ1.out, hz2, by simp [valB]⟩, r0, bz, bx, ⟨Below.refl _ _⟩, ⟨KeepsFrom.refl _ _⟩, hown⟩
   case round =>
    clear r0 bz bx hown hz2
    obtain ⟨k, z', cc, hk, rfl, rfl, hc0', hc1', HZ, r0, bz, bx, HBW, HKF, hown⟩ := hrel
    by_cases hlk : k < X.length + 1
    ·have hki : (k : Int) < (X.length : Int) + 1 := by omega
     have hmx : Try.prog.follows .mixedOrders = true := by kernel_rfl
     obtain ⟨q1, q2⟩ := own_at hown (k : Int) (by omega) (by omega)
     have e0 : rd row (k : Int) = row.getD k 0 := by simp [rd]
     have e1 : ((k : Nat) : Int).toNat = k := rfl
     rw [e0, e1] at q1
     have hzl : z'.length = X.length + Y.length := HZ.out.2.1
     have x1 := r0.cell (i + k) (by omega)
     have f1 := r0.frozen (i + k)
     have gz := bz.cell
     have e3 : ((i : Int) + (k : Int)).toNat = i + k := by omega
     have j0 : (0 : Int) ≤ (i : Int) + (k : Int) := by omega
     have j1 : (i : Int) + (k : Int) < (X.length : Int) + (Y.length : Int) := by omega
     have k0 : (0 : Int) ≤ (k : Int) := by omega
     have hxw := isW_get HZ.out.1 (i + k)
     have hyw := isW_get HRW.out k
     have hadd := add64 (z'.getD (i + k) 0) (row.getD k 0) cc hxw.1 hyw.1 hc0' hc1'
     have hok := addS_ok hxw hyw ⟨hc0', hc1'⟩
     have HQ := Aside0.mk (show ∀ s c, (addS (z'.getD (i + k) 0) (row.getD k 0) cc) = (s, c) → (inW (z'.set (i + k) s) ∧ (z'.set (i + k) s).length = X.length + Y.length ∧ valB W64 (z'.set (i + k) s) + W64 ^ (i + (k + 1)) * c = valB W64 z + W64 ^ i * valB W64 (row.take (k + 1))) ∧ 0 ≤ c ∧ c ≤ 1 from by
      intro s c hsc
      rw [hsc] at hok
      obtain ⟨o1, o2, o3⟩ := hok
      refine ⟨⟨inB_set HZ.out.1 _ o2, by simp [hzl], ?_⟩, o1⟩
      rw [valB_set W64 z' (i + k) s (by omega), valB_take_succ W64 row k (by omega)]
      have h3 := HZ.out.2.2
      simp only at o3
      rw [Int.one_mul, Int.one_mul] at o3
      rw [show i + (k + 1) = (i + k) + 1 by omega, Int.pow_succ, show W64 ^ i * (valB W64 (row.take k) + W64 ^ k * row.getD k 0) = W64 ^ i * valB W64 (row.take k) + W64 ^ (i + k) * row.getD k 0 by rw [Int.mul_add, Int.pow_add, Int.mul_assoc]]
      generalize W64 ^ (i + k) = PP at *
      generalize W64 ^ i * valB W64 (row.take k) = QQ at *
      generalize z'.getD (i + k) 0 = zz at *
      generalize row.getD k 0 = rr at *
      have e9 : PP * W64 * c = PP * (W64 * c) := by rw [Int.mul_assoc]
      have e10 : W64 * c = zz + rr + cc - s := by omega
      rw [e9, e10]
      rw [Int.mul_sub, Int.mul_sub, Int.mul_add, Int.mul_add]
      omega)
     obtain ⟨s, c, hsc⟩ : ∃ s c, addS (z'.getD (i + k) 0) (row.getD k 0) cc = (s, c) := ⟨_, _, rfl⟩
     rw [hsc] at hadd
     have HQ' := Aside0.mk (HQ.out s c hsc)
     simp only at hadd
     obtain ⟨zz, hzz⟩ : ∃ zz, zz = z'.getD (i + k) 0 := ⟨_, rfl⟩
     obtain ⟨rr, hrr⟩ : ∃ rr, rr = row.getD k 0 := ⟨_, rfl⟩
     rw [← hzz] at hadd x1
     rw [← hrr] at hadd q1
     clear HQ hok hsc hxw hyw hzz hrr e0 q2 hzl
     gi_wp2
     rename_i Q1 K1 hK1
     have hQK : ∀ u50 : Value, K1 { tmps := #[.slice A0 X.length c0, .slice A1 Y.length c1, undef, undef, .slice none 0 0, .pointer (some ⟨w.heap.size + 1, 0, none⟩), .int .i64 (i : Int), .slice (some ⟨g2, 0, none⟩) (X.length + 1) cap, .int .u64 c, .int .i64 (k : Int), .int .u64 rr, .slice A0 l0.length c0, .slice A0 X.length c0, .slice A1 l1.length c1, .slice A1 Y.length c1, .slice A0 X.length c0, .int .i64 (X.length : Int), .slice A1 Y.length c1, .int .i64 (Y.length : Int), .int .i64 ((X.length : Int) + (Y.length : Int)), .slice (some ⟨w.heap.size, 0, none⟩) (X.length + Y.length) (X.length + Y.length), .slice A0 X.length c0, .slice A1 Y.length c1, .func (.func 96) #[] #[.pointer (some ⟨w.heap.size + 1 + 1 + 1, 0, none⟩), .pointer (some ⟨w.heap.size + 1 + 1, 0, none⟩)], .int .i64 (i : Int), .slice (some ⟨g2, 0, none⟩) (X.length + 1) cap, .slice (some ⟨g2, 0, none⟩) (X.length + 1) cap, .int .i64 ((X.length : Int) + 1), .int .i64 (k : Int), .bool true, .int .i64 (k : Int), .pointer (some ⟨g2, k, none⟩), .int .u64 rr, .tuple #[.int .u64 s, .int .u64 c], .slice (some ⟨w.heap.size, 0, none⟩) (X.length + Y.length) (X.length + Y.length), .int .i64 (i : Int), .int .i64 (k : Int), .int .i64 ((i : Int) + (k : Int)), .slice (some ⟨w.heap.size, 0, none⟩) (X.length + Y.length) (X.length + Y.length), .int .i64 (i : Int), .int .i64 (k : Int), .int .i64 ((i : Int) + (k : Int)), .pointer (some ⟨w.heap.size, i + k, none⟩), .int .u64 zz, .int .u64 rr, .int .u64 cc, .tuple #[.int .u64 s, .int .u64 c], .int .u64 s, .int .u64 c, .pointer (some ⟨w.heap.size, i + k, none⟩), u50, undef, undef], defers := [] } (wr.drew.setCell ⟨w.heap.size, i + k, none⟩ (.int .u64 s)) := by
      intro u50
      refine hK1 _ _ ?_
      gi_wp2
      go_roundw
      case rel =>
       refine ⟨k + 1, z'.set (i + k) s, c, by omega, by go_num, rfl, HQ'.out.2.1, HQ'.out.2.2, ⟨HQ'.out.1⟩, RowB.set (show RowB wr.drew w.heap.size z' from r0) (i + k) s, Boxed.far (show Boxed wr.drew _ _ _ from bz) (by show w.heap.size + 1 ≠ w.heap.size; omega) _, Boxed.far (show Boxed wr.drew _ _ _ from bx) (by show w.heap.size + 1 + 1 ≠ w.heap.size; omega) _, ⟨(below_drew HBW.out).setCell (by show w.heap.size ≤ w.heap.size; omega) _⟩, ⟨HKF.out.trans (((KeepsOthers.drew wr).trans (KeepsOthers.setCell _ _ _)).from _)⟩, ?_⟩
       exact own_setCell (show wr.drew.ownsRow _ _ _ _ _ _ from hown) (by simp only [Value.ownBlock]; intro e; injection e with e; omega) _
      case measure => simp [intOf]; omega
     have hQn : ∀ c a w, ¬ Q1 (.panic c) a w := fun c a w h => h
     have hwr : IntKind.i64.wrap ((i : Int) + (k : Int)) = (i : Int) + (k : Int) := IntWalk.i64_in _ (by omega)
     clear hK1 r0 bz bx hown HBW HKF HQ' hlk hki HZ HV HRV HI HZ1 HRW HB1 hsz sW hg2 hlt hrl HC0 HC1 hx hy hXc hX5 hY5 h4 hc0 hc1 hc0' hc1' hk
     clear_value Q1
     refine wpIn_region_any hmx (any_round (noDefer_of rfl) _ _ _ _ ?_)
     change wpAnyIn _ _ _ _ _ _ _ _ _ (World.drew _)
     have hQp : ∀ c a w, ¬ (Exit.inBlock 3 (Exit.then K1 Q1)) (.panic c) a w := fun c a w h => hQn c a w h
     refine wpAnyIn_take (i := 1) (v := ?_) rfl rfl (by kernel_rfl) (by kernel_rfl) (by kernel_rfl) (fun c a w h => (hQp c _ w h).elim) ⟨Or.inl ⟨by rfl, ?y1⟩, fun _ => rfl⟩ ?_
     case y1 => (intro w; go_simp; try rfl)
     refine wpAnyIn_take (i := 2) (v := ?_) rfl rfl (by kernel_rfl) (by kernel_rfl) (by kernel_rfl) (fun c a w h => (hQp c _ w h).elim) ⟨Or.inl ⟨by rfl, ?y2⟩, fun _ => rfl⟩ ?_
     case y2 => (intro w; go_simp; try rfl)
     refine wpAnyIn_take (i := 3) (v := ?_) rfl rfl (by kernel_rfl) (by kernel_rfl) (by kernel_rfl) (fun c a w h => (hQp c _ w h).elim) ⟨Or.inl ⟨by rfl, ?y3⟩, fun _ => rfl⟩ ?_
     case y3 => (intro w; go_simp; try rfl)
     refine wpAnyIn_take (i := 5) (v := ?_) rfl rfl (by kernel_rfl) (by kernel_rfl) (by kernel_rfl) (fun c a w h => (hQp c _ w h).elim) ⟨Or.inl ⟨by rfl, ?y5⟩, fun _ => rfl⟩ ?_
     case y5 => (intro w; go_simp; try rfl)
     refine wpAnyIn_take (i := 6) (v := ?_) rfl rfl (by kernel_rfl) (by kernel_rfl) (by kernel_rfl) (fun c a w h => (hQp c _ w h).elim) ⟨Or.inl ⟨by rfl, ?y6⟩, fun _ => rfl⟩ ?_
     case y6 => (intro w; go_simp; try rfl)
     refine wpAnyIn_take (i := 7) (v := ?_) rfl rfl (by kernel_rfl) (by kernel_rfl) (by kernel_rfl) (fun c a w h => (hQp c _ w h).elim) ⟨Or.inl ⟨by rfl, ?y7⟩, fun _ => rfl⟩ ?_
     case y7 => (intro w; go_simp; try rfl)
     refine wpAnyIn_take (i := 10) (v := ?_) rfl rfl (by kernel_rfl) (by kernel_rfl) (by kernel_rfl) (fun c a w h => (hQp c _ w h).elim) ⟨Or.inl ⟨by rfl, ?y10⟩, fun _ => rfl⟩ ?_
     case y10 => (intro w; go_simp; try rfl)
     refine wpAnyIn_take (i := 11) (v := ?_) rfl rfl (by kernel_rfl) (by kernel_rfl) (by kernel_rfl) (fun c a w h => (hQp c _ w h).elim) ⟨Or.inl ⟨by rfl, ?y11⟩, fun _ => rfl⟩ ?_
     case y11 => (intro w; go_simp; try rfl)
     refine wpAnyIn_ready (rs := [0, 4]) (by kernel_rfl) (by simp) ?_
     refine AllReadyIn.cons rfl (fun K hK => ?_) ?_
     ·go_simp
      refine hK _ _ ?_
      clear hK K
      refine wpAnyIn_ready (rs := [4]) (by kernel_rfl) (by simp) ?_
      refine AllReadyIn.cons rfl (fun K hK => ?_) ?_
      ·go_simp
       refine hK _ _ ?_
       clear hK K
       refine wpAnyIn_take (i := 8) (v := ?_) rfl rfl (by kernel_rfl) (by kernel_rfl) (by kernel_rfl) (fun c a w h => (hQp c _ w h).elim) ⟨Or.inl ⟨by rfl, ?y8⟩, fun _ => rfl⟩ ?_
       case y8 => (intro w; go_simp; try rfl)
       refine wpAnyIn_ready (rs := [9]) (by kernel_rfl) (by simp) ?_
       refine AllReadyIn.cons rfl (fun K hK => ?_) ?_
       ·go_simp
        refine hK _ _ ?_
        clear hK K
        refine wpAnyIn_ready (rs := [12]) (by kernel_rfl) (by simp) ?_
        refine AllReadyIn.cons rfl (fun K hK => ?_) ?_
        ·go_simp
         try rw [hadd]
         try simp only [go_sem]
         refine ⟨trivial, hK _ _ ?_⟩
         clear hK K
         refine wpAnyIn_take (i := 13) (v := ?_) rfl rfl (by kernel_rfl) (by kernel_rfl) (by kernel_rfl) (fun c a w h => (hQp c _ w h).elim) ⟨Or.inl ⟨by rfl, ?y13⟩, fun _ => rfl⟩ ?_
         case y13 => (intro w; go_simp; try rfl)
         refine wpAnyIn_take (i := 14) (v := ?_) rfl rfl (by kernel_rfl) (by kernel_rfl) (by kernel_rfl) (fun c a w h => (hQp c _ w h).elim) ⟨Or.inl ⟨by rfl, ?y14⟩, fun _ => rfl⟩ ?_
         case y14 => (intro w; go_simp; try rfl)
         refine wpAnyIn_take (i := 15) (v := ?_) rfl rfl (by kernel_rfl) (by kernel_rfl) (by kernel_rfl) (fun c a w h => (hQp c _ w h).elim) ⟨Or.inl ⟨by rfl, ?y15⟩, fun _ => rfl⟩ ?_
         case y15 => (intro w; go_simp; try rfl)
         refine wpAnyIn_take (i := 16) (v := ?_) rfl rfl (by kernel_rfl) (by kernel_rfl) (by kernel_rfl) (fun c a w h => (hQp c _ w h).elim) ⟨Or.inl ⟨by rfl, ?y16⟩, fun _ => rfl⟩ ?_
         case y16 => (intro w; go_simp; try rfl)
         refine wpAnyIn_ready (rs := [17]) (by kernel_rfl) (by simp) ?_
         refine AllReadyIn.cons rfl (fun K hK => ?_) ?_
         ·go_simp
          refine hK _ _ ?_
          clear hK K
          refine wpAnyIn_ready (rs := [18]) (by kernel_rfl) (by simp) ?_
          refine AllReadyIn.cons rfl (fun K hK => ?_) ?_
          ·go_simp
           refine hK _ _ ?_
           clear hK K
           refine wpAnyIn_done (by kernel_rfl) ?_ _
           exact hQK _
          exact AllReadyIn.nil
         exact AllReadyIn.nil
        exact AllReadyIn.nil
       exact AllReadyIn.nil
      exact AllReadyIn.nil
     refine AllReadyIn.cons rfl (fun K hK => ?_) ?_
     ·go_simp
      refine hK _ _ ?_
      clear hK K
      refine wpAnyIn_take (i := 8) (v := ?_) rfl rfl (by kernel_rfl) (by kernel_rfl) (by kernel_rfl) (fun c a w h => (hQp c _ w h).elim) ⟨Or.inl ⟨by rfl, ?y8⟩, fun _ => rfl⟩ ?_
      case y8 => (intro w; go_simp; try rfl)
      refine wpAnyIn_ready (rs := [0, 9]) (by kernel_rfl) (by simp) ?_
      refine AllReadyIn.cons rfl (fun K hK => ?_) ?_
      ·go_simp
       refine hK _ _ ?_
       clear hK K
       refine wpAnyIn_ready (rs := [9]) (by kernel_rfl) (by simp) ?_
       refine AllReadyIn.cons rfl (fun K hK => ?_) ?_
       ·go_simp
        refine hK _ _ ?_
        clear hK K
        refine wpAnyIn_ready (rs := [12]) (by kernel_rfl) (by simp) ?_
        refine AllReadyIn.cons rfl (fun K hK => ?_) ?_
        ·go_simp
         try rw [hadd]
         try simp only [go_sem]
         refine ⟨trivial, hK _ _ ?_⟩
         clear hK K
         refine wpAnyIn_take (i := 13) (v := ?_) rfl rfl (by kernel_rfl) (by kernel_rfl) (by kernel_rfl) (fun c a w h => (hQp c _ w h).elim) ⟨Or.inl ⟨by rfl, ?y13⟩, fun _ => rfl⟩ ?_
         case y13 => (intro w; go_simp; try rfl)
         refine wpAnyIn_take (i := 14) (v := ?_) rfl rfl (by kernel_rfl) (by kernel_rfl) (by kernel_rfl) (fun c a w h => (hQp c _ w h).elim) ⟨Or.inl ⟨by rfl, ?y14⟩, fun _ => rfl⟩ ?_
         case y14 => (intro w; go_simp; try rfl)
         refine wpAnyIn_take (i := 15) (v := ?_) rfl rfl (by kernel_rfl) (by kernel_rfl) (by kernel_rfl) (fun c a w h => (hQp c _ w h).elim) ⟨Or.inl ⟨by rfl, ?y15⟩, fun _ => rfl⟩ ?_
         case y15 => (intro w; go_simp; try rfl)
         refine wpAnyIn_take (i := 16) (v := ?_) rfl rfl (by kernel_rfl) (by kernel_rfl) (by kernel_rfl) (fun c a w h => (hQp c _ w h).elim) ⟨Or.inl ⟨by rfl, ?y16⟩, fun _ => rfl⟩ ?_
         case y16 => (intro w; go_simp; try rfl)
         refine wpAnyIn_ready (rs := [17]) (by kernel_rfl) (by simp) ?_
         refine AllReadyIn.cons rfl (fun K hK => ?_) ?_
         ·go_simp
          refine hK _ _ ?_
          clear hK K
          refine wpAnyIn_ready (rs := [18]) (by kernel_rfl) (by simp) ?_
          refine AllReadyIn.cons rfl (fun K hK => ?_) ?_
          ·go_simp
           refine hK _ _ ?_
           clear hK K
           refine wpAnyIn_done (by kernel_rfl) ?_ _
           exact hQK _
          exact AllReadyIn.nil
         exact AllReadyIn.nil
        exact AllReadyIn.nil
       exact AllReadyIn.nil
      refine AllReadyIn.cons rfl (fun K hK => ?_) ?_
      ·go_simp
       refine hK _ _ ?_
       clear hK K
       refine wpAnyIn_ready (rs := [0, 12]) (by kernel_rfl) (by simp) ?_
       refine AllReadyIn.cons rfl (fun K hK => ?_) ?_
       ·go_simp
        refine hK _ _ ?_
        clear hK K
        refine wpAnyIn_ready (rs := [12]) (by kernel_rfl) (by simp) ?_
        refine AllReadyIn.cons rfl (fun K hK => ?_) ?_
        ·go_simp
         try rw [hadd]
         try simp only [go_sem]
         refine ⟨trivial, hK _ _ ?_⟩
         clear hK K
         refine wpAnyIn_take (i := 13) (v := ?_) rfl rfl (by kernel_rfl) (by kernel_rfl) (by kernel_rfl) (fun c a w h => (hQp c _ w h).elim) ⟨Or.inl ⟨by rfl, ?y13⟩, fun _ => rfl⟩ ?_
         case y13 => (intro w; go_simp; try rfl)
         refine wpAnyIn_take (i := 14) (v := ?_) rfl rfl (by kernel_rfl) (by kernel_rfl) (by kernel_rfl) (fun c a w h => (hQp c _ w h).elim) ⟨Or.inl ⟨by rfl, ?y14⟩, fun _ => rfl⟩ ?_
         case y14 => (intro w; go_simp; try rfl)
         refine wpAnyIn_take (i := 15) (v := ?_) rfl rfl (by kernel_rfl) (by kernel_rfl) (by kernel_rfl) (fun c a w h => (hQp c _ w h).elim) ⟨Or.inl ⟨by rfl, ?y15⟩, fun _ => rfl⟩ ?_
         case y15 => (intro w; go_simp; try rfl)
         refine wpAnyIn_take (i := 16) (v := ?_) rfl rfl (by kernel_rfl) (by kernel_rfl) (by kernel_rfl) (fun c a w h => (hQp c _ w h).elim) ⟨Or.inl ⟨by rfl, ?y16⟩, fun _ => rfl⟩ ?_
         case y16 => (intro w; go_simp; try rfl)
         refine wpAnyIn_ready (rs := [17]) (by kernel_rfl) (by simp) ?_
         refine AllReadyIn.cons rfl (fun K hK => ?_) ?_
         ·go_simp
          refine hK _ _ ?_
          clear hK K
          refine wpAnyIn_ready (rs := [18]) (by kernel_rfl) (by simp) ?_
          refine AllReadyIn.cons rfl (fun K hK => ?_) ?_
          ·go_simp
           refine hK _ _ ?_
           clear hK K
           refine wpAnyIn_done (by kernel_rfl) ?_ _
           exact hQK _
          exact AllReadyIn.nil
         exact AllReadyIn.nil
        exact AllReadyIn.nil
       refine AllReadyIn.cons rfl (fun K hK => ?_) ?_
       ·go_simp
        try rw [hadd]
        try simp only [go_sem]
        refine ⟨trivial, hK _ _ ?_⟩
        clear hK K
        refine wpAnyIn_take (i := 13) (v := ?_) rfl rfl (by kernel_rfl) (by kernel_rfl) (by kernel_rfl) (fun c a w h => (hQp c _ w h).elim) ⟨Or.inl ⟨by rfl, ?y13⟩, fun _ => rfl⟩ ?_
        case y13 => (intro w; go_simp; try rfl)
        refine wpAnyIn_take (i := 14) (v := ?_) rfl rfl (by kernel_rfl) (by kernel_rfl) (by kernel_rfl) (fun c a w h => (hQp c _ w h).elim) ⟨Or.inl ⟨by rfl, ?y14⟩, fun _ => rfl⟩ ?_
        case y14 => (intro w; go_simp; try rfl)
        refine wpAnyIn_take (i := 15) (v := ?_) rfl rfl (by kernel_rfl) (by kernel_rfl) (by kernel_rfl) (fun c a w h => (hQp c _ w h).elim) ⟨Or.inl ⟨by rfl, ?y15⟩, fun _ => rfl⟩ ?_
        case y15 => (intro w; go_simp; try rfl)
        refine wpAnyIn_ready (rs := [0]) (by kernel_rfl) (by simp) ?_
        refine AllReadyIn.cons rfl (fun K hK => ?_) ?_
        ·go_simp
         refine hK _ _ ?_
         clear hK K
         refine wpAnyIn_take (i := 16) (v := ?_) rfl rfl (by kernel_rfl) (by kernel_rfl) (by kernel_rfl) (fun c a w h => (hQp c _ w h).elim) ⟨Or.inl ⟨by rfl, ?y16⟩, fun _ => rfl⟩ ?_
         case y16 => (intro w; go_simp; try rfl)
         refine wpAnyIn_ready (rs := [17]) (by kernel_rfl) (by simp) ?_
         refine AllReadyIn.cons rfl (fun K hK => ?_) ?_
         ·go_simp
          refine hK _ _ ?_
          clear hK K
          refine wpAnyIn_ready (rs := [18]) (by kernel_rfl) (by simp) ?_
          refine AllReadyIn.cons rfl (fun K hK => ?_) ?_
          ·go_simp
           refine hK _ _ ?_
           clear hK K
           refine wpAnyIn_done (by kernel_rfl) ?_ _
           exact hQK _
          exact AllReadyIn.nil
         exact AllReadyIn.nil
        exact AllReadyIn.nil
       exact AllReadyIn.nil
      exact AllReadyIn.nil
     exact AllReadyIn.nil
    ·obtain rfl : k = X.length + 1 := by omega
     obtain ⟨hz1, hz2', hz3⟩ := HZ.out
     have hrt : row.take (X.length + 1) = row := List.take_of_length_le (by omega)
     rw [hrt] at hz3
     obtain ⟨hval, rfl⟩ := mul_last hx hy hlt HV.out HRV.out hz1 hc0' hz3
     have HZ' := Aside0.mk hz1
     have HL' := Aside0.mk hz2'
     have HV' := Aside0.mk hval
     clear hz1 hz2' hz3 hrt hval HZ
     gi_wp2
     refine ⟨HKF.out, ⟨HBW.out, bx.trans HBX1.out.symm⟩, ⟨z', ⟨HZ'.out, HL'.out, ?_⟩, r0, bz, bx⟩, HB1.out.trans HBW.out⟩
     rw [List.length_append, ← HI.out]
     exact HV'.out
  case done =>
   clear r0 bz bx bY HB
   rintro D ys V hD hys ⟨⟨z, hz, r0, bz, bx⟩, HB⟩ hK
   obtain ⟨hz1, hz2, hz3⟩ := hz
   rw [hys, List.take_of_length_le (Nat.le_refl _)] at hz3
   have gz := bz.cell
   have hR0 := r0.own' w.heap.size (Nat.le_refl _) (by omega)
   rw [hz2] at hR0
   have T := trim1 (some ⟨w.heap.size, 0, none⟩) (X.length + Y.length) z V hz1 (R_C hR0) (by omega)
   have hR1 := R_can hR0 hz1
   rw [hz2] at T
   rw [hz3] at T hR1
   have HR1 := Aside0.mk hR1
   have HD := Aside0.mk hK
   have HDs := Aside0.mk hD
   have HB' := Aside0.mk HB
   have HR0 := Aside0.mk r0
   clear hz1 hz2 hz3 hR0 hR1 hK hD HB r0 bz bx
   gi_wp2_with fail
   refine ⟨trivial, (callsIn_wide.2 T).mono ?_⟩
   rintro e w9 ⟨rfl, rfl⟩
   gi_wp2
   have hK' := HD.out
   have hDs := HDs.out
   refine ⟨by simp, .inl ⟨_, _, rfl, run_takeDeferred hK', ?_⟩⟩
   refine ⟨_, results_tmp rfl _ _ _, _, rfl, ?_, ?_⟩
   ·have h1 := Kd.own_of_R (enc := Value.int .u64) (h1 := fun _ => rfl) HR1.out
    exact Kd.R_of_own (enc := Value.int .u64) (h1 := fun _ => rfl) (ownsRow_putObj h1 _ hK' rfl) (fun _ _ => trivial)
   ·exact HB'.out.trans (belowK_b (w := w) (Nat.le_refl _) _ D _ _ (by omega) hK' rfl rfl)
 ·rw [if_neg hw] at h; cases h
end Go.Proofs.Ytkkkbalefnileaa.Ex
/- nat.Sub. -/
namespace Go.Proofs.Ytkkkbalefnileaa.Ex
open Go.RowKit Go.Proofs.YtkkkbalefnileaaW.PrintWords Go.Proofs.YtkkkbalefnileaaW.PrintLast Go.Proofs.YtkkkbalefnileaaW.PrintMore
set_option linter.unusedVariables false
set_option linter.unusedSimpArgs false

def nat_Sub.f (l0 l1 : List Int) : Option (List Int × Int) :=
  if inW l0 ∧ inW l1 then
    if l0.length ≤ 4096 ∧ l1.length ≤ 4096 then
      if valB W64 l0 < valB W64 l1 then some ([], 8) else some (can (valB W64 l0 - valB W64 l1), 0)
    else some ([], 2)
  else none
theorem sub_words {X Y : List Int} (hX : canL X) (hY : canL Y) (hx4 : X.length ≤ 4096) (h : valB W64 Y ≤ valB W64 X) :
    Y.length ≤ X.length ∧ inW (Y ++ List.replicate (X.length - Y.length) 0) ∧ (Y ++ List.replicate (X.length - Y.length) 0).length = X.length ∧
    ∃ r, words_Sub.f X (Y ++ List.replicate (X.length - Y.length) 0) 0 = some (r, 0, 0) ∧ inW r ∧ r.length = X.length ∧ valB W64 r = valB W64 X - valB W64 Y := by
  have hle : Y.length ≤ X.length := by
    by_cases hl : Y.length ≤ X.length
    · exact hl
    · have := cmp_short hX hY (by omega); omega
  have hO : inW (Y ++ List.replicate (X.length - Y.length) 0) := inB_append.2 ⟨canL_in hY, inB_zeros W64_pos _⟩
  have hlen : (Y ++ List.replicate (X.length - Y.length) 0).length = X.length := by simp; omega
  have hval : valB W64 (Y ++ List.replicate (X.length - Y.length) 0) = valB W64 Y := by rw [valB_append, valB_zeros, Int.mul_zero, Int.add_zero]
  refine ⟨hle, hO, hlen, ?_⟩
  have hs := sub_val X (Y ++ List.replicate (X.length - Y.length) 0) 0 (canL_in hX) hO hlen ⟨Int.le_refl 0, by decide⟩
  have hl := carryL_length (fun i c => subS (X.getD i 0) ((Y ++ List.replicate (X.length - Y.length) 0).getD i 0) c) X.length 0 0
  simp only at hs
  have hchk : chk [X, Y ++ List.replicate (X.length - Y.length) 0] = 0 := by
    unfold chk
    have h1 : ([X, Y ++ List.replicate (X.length - Y.length) 0].all fun x => decide (x.length ≤ 4096)) = true := by
      simp only [List.all_cons, List.all_nil, Bool.and_true, hlen]; simp [hx4]
    have h2 : ([X, Y ++ List.replicate (X.length - Y.length) 0].all fun x => decide (x.length = ([X, Y ++ List.replicate (X.length - Y.length) 0].headD []).length)) = true := by
      simp only [List.all_cons, List.all_nil, Bool.and_true, hlen, List.headD_cons]; simp
    rw [if_pos h1, if_pos h2]
  have hf : words_Sub.f X (Y ++ List.replicate (X.length - Y.length) 0) 0 = some ((carryL (fun i c => subS (X.getD i 0) ((Y ++ List.replicate (X.length - Y.length) 0).getD i 0) c) X.length 0 0).1, (carryL (fun i c => subS (X.getD i 0) ((Y ++ List.replicate (X.length - Y.length) 0).getD i 0) c) X.length 0 0).2, 0) := by
    unfold words_Sub.f
    rw [if_pos ⟨canL_in hX, hO, ⟨Int.le_refl 0, W64_pos⟩⟩, if_pos hchk, if_neg (by decide)]
  generalize carryL (fun i c => subS (X.getD i 0) ((Y ++ List.replicate (X.length - Y.length) 0).getD i 0) c) X.length 0 0 = R at hs hl hf
  obtain ⟨⟨c0, c1⟩, hin, hv⟩ := hs
  rw [hval] at hv
  have b0 := valB_nonneg W64_pos hin
  have b1 := valB_lt W64_pos hin
  rw [hl] at b1
  have hp := pow_posB W64_pos X.length
  have hc : R.2 = 0 := by
    by_cases h0 : R.2 = 0
    · exact h0
    · have h1 : R.2 = 1 := by omega
      rw [h1, Int.mul_one] at hv
      omega
  rw [hc] at hf hv
  exact ⟨R.1, hf, hin, hl, by omega⟩
set_option maxRecDepth 100000 in
set_option maxHeartbeats 2000000 in
theorem nat_Sub.calls (A0 : Option Addr) (c0 : Nat) (l0 : List Int) (A1 : Option Addr) (c1 : Nat) (l1 : List Int) (r1 : List Int) (r2 : Int) (w : World) (hr0 : Kd.C (Kd.int .u64) w A0 l0.length l0) (hc0 : l0.length ≤ c0) (hr1 : Kd.C (Kd.int .u64) w A1 l1.length l1) (hc1 : l1.length ≤ c1) (h : nat_Sub.f l0 l1 = some (r1, r2)) :
  Calls Try.prog 25 #[.slice A0 l0.length c0, .slice A1 l1.length c1] w fun e w' => ∃ v0_ : Value, e = .returned (.tuple #[v0_, .int .i64 r2]) ∧ Kd.R (Kd.int .u64) 33 w' w.heap.size (fun _ => True) v0_ r1 ∧ Below w.heap.size w w' := by
 unfold nat_Sub.f at h
 by_cases hw : inW l0 ∧ inW l1
 ·rw [if_pos hw] at h
  obtain ⟨hw0, hw1⟩ := hw
  by_cases h4 : l0.length ≤ 4096 ∧ l1.length ≤ 4096
  ·rw [if_pos h4] at h
   have HL := Aside0.mk (large_two A0 A1 c0 c1 l0 l1 w false hr0 hc0 hr1 hc1 (decide_eq_false (by omega)))
   have cX := can_canL (valW_nonneg hw0)
   have cY := can_canL (valW_nonneg hw1)
   have vx := can_val (valW_nonneg hw0)
   have vy := can_val (valW_nonneg hw1)
   have lx := can_le hw0
   have ly := can_le hw1
   have T0 := fun w' (hb : Below w.heap.size w w') => trim1 A0 c0 l0 w' hw0 (Kd.C_below hr0 hb) hc0
   have T1 := fun w' (hb : Below w.heap.size w w') => trim1 A1 c1 l1 w' hw1 (Kd.C_below hr1 hb) hc1
   have C0 := C_take hr0 _ (can_le hw0)
   have C1 := C_take hr1 _ (can_le hw1)
   rw [can_take hw0] at C0
   rw [can_take hw1] at C1
   obtain ⟨X, hX⟩ : ∃ X, X = can (valB W64 l0) := ⟨_, rfl⟩
   obtain ⟨Y, hY⟩ : ∃ Y, Y = can (valB W64 l1) := ⟨_, rfl⟩
   rw [← hX] at T0 C0 cX vx lx
   rw [← hY] at T1 C1 cY vy ly
   rw [← vx, ← vy] at h
   have HT0 := Aside0.mk T0
   have HT1 := Aside0.mk T1
   have HC0 := Aside0.mk C0
   have HC1 := Aside0.mk C1
   have hXc : X.length ≤ c0 := by omega
   have hYc : Y.length ≤ c1 := by omega
   have hX4 : X.length ≤ 4096 := by omega
   have hY4 : Y.length ≤ 4096 := by omega
   clear T0 T1 C0 C1 hr0 hr1 hX hY vx vy
   by_cases hlt : valB W64 X < valB W64 Y
   ·rw [if_pos hlt] at h
    cases h
    have HCmp := Aside0.mk (show nat_compare.f X Y = some (-1) by unfold nat_compare.f; rw [if_pos ⟨cX, cY, by omega, by omega⟩, cmpI_lt hlt])
    go_enter Try.func25, Try.ntmps25
    go_wp2_with fail
    refine HL.out.mono ?_
    rintro e w1 ⟨rfl, hb1⟩
    have HB1 := Aside0.mk hb1
    clear hb1
    go_wp2_with fail
    refine (HT0.out _ HB1.out).mono ?_
    rintro e w2 ⟨rfl, rfl⟩
    go_wp2_with fail
    refine (HT1.out _ HB1.out).mono ?_
    rintro e w2 ⟨rfl, rfl⟩
    go_wp2_with fail
    refine (nat_compare.calls _ _ X _ _ Y _ _ (Kd.C_below HC0.out HB1.out) hXc (Kd.C_below HC1.out HB1.out) hYc HCmp.out).mono ?_
    rintro e w2 ⟨rfl, hd⟩
    have HB2 := Aside0.mk (below_step HB1.out hd.below)
    clear hd
    go_wp2
    go_ret2
    exact ⟨_, rfl, Kd.R_nil _ _ _ _ _, HB2.out⟩
   ·rw [if_neg hlt] at h
    cases h
    obtain ⟨hle, hO, hlen, r, hf, hri, hrl, hrv⟩ := sub_words cX cY hX4 (by omega)
    obtain ⟨q, hq0, hq⟩ : ∃ q : Int, 0 ≤ q ∧ nat_compare.f X Y = some q := by
     refine ⟨cmpI (valB W64 X) (valB W64 Y), ?_, by unfold nat_compare.f; rw [if_pos ⟨cX, cY, by omega, by omega⟩]⟩
     unfold cmpI; rw [if_neg hlt]; split <;> decide
    have hqb : decide (q < 0) = false := decide_eq_false (by omega)
    have HCmp := Aside0.mk hq
    have HF := Aside0.mk hf
    have HRI := Aside0.mk hri
    have HRV := Aside0.mk hrv
    have HLE := Aside0.mk hlen
    have hmk := print_make (P := Try.prog) 23 33 .u64 8 Try.underlying23 iW (by decide) X.length (by omega)
    clear hq hf hri hrv hlen hrl
    go_enter Try.func25, Try.ntmps25
    go_wp2_with fail
    refine HL.out.mono ?_
    rintro e w1 ⟨rfl, hb1⟩
    have HB1 := Aside0.mk hb1
    clear hb1
    go_wp2_with fail
    refine (HT0.out _ HB1.out).mono ?_
    rintro e w2 ⟨rfl, rfl⟩
    go_wp2_with fail
    refine (HT1.out _ HB1.out).mono ?_
    rintro e w2 ⟨rfl, rfl⟩
    go_wp2_with fail
    refine (nat_compare.calls _ _ X _ _ Y _ _ (Kd.C_below HC0.out HB1.out) hXc (Kd.C_below HC1.out HB1.out) hYc HCmp.out).mono ?_
    rintro e w2 ⟨rfl, hd⟩
    have HB2 := Aside0.mk (below_step HB1.out hd.below)
    clear hd HB1
    have HRB := Aside0.mk (RowB.made w2 X.length)
    have HB3 := Aside0.mk (below_alloc HB2.out (.cells (madeCells #[.int .u64 0] X.length) 33))
    have HYR := Aside0.mk (show ∀ j v, (nums .u64 Y)[j]? = some v → ∃ ad, A1 = some ad ∧ (w2.alloc (.cells (madeCells #[.int .u64 0] X.length) 33)).cell? (ad.add j) = some v from by
     intro j v hj
     have hjl : j < Y.length := by have := (List.getElem?_eq_some_iff.1 hj).1; simpa [nums] using this
     obtain ⟨ad, had, hx⟩ := Kd.at_int (Kd.C_below HC1.out HB3.out) (j : Int) (by omega) (by omega)
     refine ⟨ad, had, ?_⟩
     rw [show rd Y (j : Int) = Y.getD j 0 by simp [rd]] at hx
     have e : v = .int .u64 (Y.getD j 0) := by
      simp only [nums, List.getElem?_map, List.getElem?_eq_getElem hjl, Option.map_some, Option.some.injEq] at hj
      rw [← hj, List.getD_eq_getElem?_getD, List.getElem?_eq_getElem hjl]; rfl
     rw [e]
     exact hx)
    go_wp2_with ((with_reducible refine gate_builtin (b := .copy) (xs := #[.tmp 25, .tmp 26]) rfl ?_); refine wpList_copy_splice rfl (.tmp 25) (.tmp 26) 23 23 rfl 33 Try.underlying23 ?z1 _ _ _ _ _ _ rfl rfl w2.heap.size 0 (nums .u64 (List.replicate X.length 0)) 33 HRB.out (nums .u64 Y) ?z2 ?z3 ?z4 ?z5 w.heap.size w HB3.out ?z6 ?_)
    case z1 => kernel_rfl
    case z2 => simp only [nums, List.length_map]; exact (Nat.min_eq_left hle).symm
    case z3 =>
     intro hp
     have h0 : 0 < (nums .u64 Y).length := hp
     obtain ⟨ad, had, _⟩ := HYR.out 0 _ (List.getElem?_eq_getElem h0)
     have hall : ∀ j v, (nums .u64 Y)[j]? = some v → (w2.alloc (.cells (madeCells #[.int .u64 0] X.length) 33)).cell? (ad.add j) = some v := by
      intro j v hj
      obtain ⟨ad', had', hc'⟩ := HYR.out j v hj
      rw [had] at had'
      cases had'
      exact hc'
     first | exact ⟨rfl, ad, had, hall⟩ | exact ⟨ad, had, hall⟩ | (trace_state; exact ⟨ad, had, hall⟩)
    case z4 => simp [nums]; exact hle
    case z5 =>
     intro v hv
     simp only [nums, List.mem_map] at hv
     obtain ⟨x, _, rfl⟩ := hv
     rfl
    case z6 => exact below_size HB2.out
    intro w3 hg3 hb3
    have hRB : RowB w3 w2.heap.size (Y ++ List.replicate (X.length - Y.length) 0) := by
     have h1 := hg3.out
     unfold RowB
     rw [h1]
     congr 2
     simp [splice, nums, List.map_append]
    have HR := Aside0.mk (hRB.own' 0 (Nat.zero_le _) (by rw [HLE.out]; omega))
    have HB4 := Aside0.mk hb3
    clear HRB HB3 HYR hg3 hb3 hRB hmk
    obtain ⟨O, hOO⟩ : ∃ O, O = Y ++ List.replicate (X.length - Y.length) 0 := ⟨_, rfl⟩
    rw [← hOO] at HR HF HLE
    clear hOO hO
    have hOc : O.length ≤ X.length := by rw [HLE.out]; exact Nat.le_refl _
    have HW := Aside0.mk (words_Sub.calls A0 c0 X (some ⟨w2.heap.size, 0, none⟩) X.length O 0 r 0 0 w3 (Kd.C_below HC0.out HB4.out) hXc (R_C HR.out) hOc HF.out)
    rw [HLE.out] at HW
    go_wp2_with fail
    refine HW.out.mono ?_
    rintro e w4 ⟨v0, rfl, hR, hb4⟩
    obtain ⟨A5, c5, rfl⟩ := Kd.R_slice hR
    have HR5 := Aside0.mk (Kd.R_lower hR (below_size HB4.out))
    have HB5 := Aside0.mk (below_step HB4.out hb4)
    clear hR hb4 HW HR
    go_wp2_with fail
    refine (trim1 _ _ r _ HRI.out (R_C HR5.out) (R_cap HR5.out)).mono ?_
    rintro e w6 ⟨rfl, rfl⟩
    go_wp2
    go_ret2
    refine ⟨_, rfl, ?_, HB5.out⟩
    have h5 := R_can HR5.out HRI.out
    rw [HRV.out] at h5
    rw [HRV.out]
    exact h5
  ·rw [if_neg h4] at h
   cases h
   have HL := Aside0.mk (large_two A0 A1 c0 c1 l0 l1 w true hr0 hc0 hr1 hc1 (decide_eq_true (by omega)))
   clear hr0 hr1
   go_enter Try.func25, Try.ntmps25
   go_wp2_with fail
   refine HL.out.mono ?_
   rintro e w1 ⟨rfl, hb1⟩
   have HB1 := Aside0.mk hb1
   clear hb1
   go_wp2
   go_ret2
   exact ⟨_, rfl, Kd.R_nil _ _ _ _ _, HB1.out⟩
 ·rw [if_neg hw] at h; cases h
end Go.Proofs.Ytkkkbalefnileaa.Ex
