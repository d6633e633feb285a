/- NatOwn (a card): for every two rows of words, the results of Add, Mul, Left, Sum, Trim, DivMod and Or are new memory, and none of them changes its arguments (their first 20 words). (Part 2 of 4.) -/
import Derived.LoopTactic
import Derived.Outline
import Derived.Deep.RegionLaw
import Derived.Shelf.Abstract
import Derived.Laws.Externs
import Derived.Deep.QuietTactic
import Derived.BigQuiet
import Derived.Shelf.Spec.BitsCarry
import Derived.StillTailTactics
import Derived.RangeFuncNested
import Derived.RangeFuncBound
import Derived.RangeFuncCalls
import Derived.RangeFuncLeaves
import Derived.RangeFuncWrites
import Derived.RangeFuncBox
import Derived.Shelf.RegionOpen
import Derived.WalkKit
import Derived.OwnWalkIn
import Derived.TacticsInMore
import Derived.LoopNIn
import Derived.LoopIn
import Derived.Laws.CopyOwn
import Derived.WalkMore
import Derived.Lib.RabinKarpLaws
import Derived.RegionTactic
import Derived.ChangeAlike
import Derived.BigRegion
import Derived.Laws.EntriesVeiled
import Derived.Lib.SliceRun
import Derived.Test.YtkkkbalefnileaaDoorMNatOwn0
/- The loop over the words of a row that carries something along (words.carrying), at whatever step. -/
namespace Go.Proofs.YtkkkbalefnileaaDoor.Ex
open Go.RowKit Go.Proofs.YtkkkbalefnileaaDoorW.PrintWords Go.Proofs.YtkkkbalefnileaaDoorW.PrintLast Go.Proofs.YtkkkbalefnileaaDoorW.PrintMore
set_option linter.unusedVariables false
set_option linter.unusedSimpArgs false

theorem iW : (Tryd.prog.info? 36).map (fun i => (i.zero, i.size, i.bytes)) = some (some (.int .u64 0), 1, 8) := by kernel_rfl
theorem two_cell0 (W : World) (x y : Value) (t : TypeId) : (W.alloc (.cells #[x, y] t)).cell? ⟨W.heap.size, 0, none⟩ = some x := by
  unfold World.cell?
  rw [heap_alloc_new]
  rfl
theorem two_cell1 (W : World) (x y : Value) (t : TypeId) : (W.alloc (.cells #[x, y] t)).cell? ⟨W.heap.size, 1, none⟩ = some y := by
  unfold World.cell?
  rw [heap_alloc_new]
  rfl
/-- What a step of the loop hands back. -/
def StepAt (g : FuncId) (lb : Array Value) (f : Nat → Int → Int × Int) (i : Nat) (c : Int) (w : World) : Prop :=
  ∀ W, Below w.heap.size w W → Calls Tryd.prog g (#[.int .i64 i, .int .u64 c] ++ lb) W fun e W' => e = .returned (.agg #[.int .u64 (f i c).1, .int .u64 (f i c).2]) ∧ Below W.heap.size W W'
set_option maxHeartbeats 1000000 in
set_option maxRecDepth 100000 in
theorem carrying (g : FuncId) (eg : ∀ (args : Array Value) (w : World), (callFunc g args).run Tryd.prog w = .ok (.enter g args) w) (lb : Array Value) (f : Nat → Int → Int × Int) (I : Int → Prop) (A0 : Option Addr) (c0 : Nat) (l0 : List Int) (a1 : Int) (w : World)
    (hl : l0.length ≤ 4096) (hI : I a1) (hs : ∀ i : Nat, i < l0.length → ∀ c, I c → I (f i c).2 ∧ StepAt g lb f i c w) :
    Calls Tryd.prog 90 #[.slice A0 l0.length c0, .int .u64 a1, .func (.func g) #[] lb] w
      fun e w' => ∃ v0_ : Value, e = .returned (.tuple #[v0_, .int .u64 (carryL f l0.length 0 a1).2]) ∧ Kd.R (Kd.int .u64) 36 w' w.heap.size (fun _ => True) v0_ (carryL f l0.length 0 a1).1 ∧ Below w.heap.size w w' := by
  have HS := Aside0.mk hs
  have HI := Aside0.mk hI
  clear hs hI
  have HB := Aside0.mk (Below.refl w.heap.size w)
  go_enter Tryd.func90, Tryd.ntmps90
  obtain ⟨i0, hi0, hz0, hz1, hz2⟩ := info_parts iW
  have HI0 := Aside0.mk hi0
  have HZ0 := Aside0.mk hz0
  have HZ1 := Aside0.mk hz1
  have HZ2 := Aside0.mk hz2
  clear hi0 hz0 hz1 hz2
  go_wp2_with (at_make; refine wpList_make_own _ rfl _ _ 22 rfl w.heap.size 36 i0 (.int .u64 0) 1 Tryd.underlying22 HI0.out HZ0.out HZ1.out .i64 .i64 _ l0.length rfl rfl rfl ?b2 ?b3 (Nat.le_refl _) ?_; (case b2 => rw [HZ2.out]; omega); (case b3 => unfold maxLen; omega); intro w1 ho1 hg1; have HO := Aside0.mk (Kd.R_of_own (enc := Value.int .u64) (h1 := fun _ => rfl) (xs := []) (ok := fun _ => True) ho1 (fun _ _ => trivial)); have HB1 := Aside0.mk (HB.out.grown hg1 (Nat.le_refl _) (fun _ h => by cases h)); clear ho1 hg1 HB)
  go_loopw [1, 8, 16] (fun c v i W => ∃ k : Nat, k ≤ l0.length ∧ i = .int .i64 k ∧ c = .int .u64 (carryL f k 0 a1).2 ∧ Aside0 (I (carryL f k 0 a1).2) ∧ Aside0 (Kd.R (Kd.int .u64) 36 W w.heap.size (fun _ => True) v (carryL f k 0 a1).1) ∧ Aside0 (Below w.heap.size w W)) (fun _ _ i _ => l0.length - (intOf i).toNat)
  case atStart => exact ⟨0, Nat.zero_le _, rfl, rfl, HI, HO, HB1⟩
  case round =>
    clear HO HB1 HI
    obtain ⟨k, hk, rfl, rfl, HI, HO, HB⟩ := hrel
    by_cases hlt : k < l0.length
    · have HSt := Aside0.mk (HS.out k hlt _ HI.out)
      have HSN := Aside0.mk (carryL_snoc f k 0 a1)
      go_wp2_with fail
      refine (HSt.out.2 wr HB.out).mono ?_
      rintro e w2 ⟨rfl, hb2⟩
      have HO2 := Aside0.mk (Kd.R_below HO.out hb2)
      have HB2 := Aside0.mk (below_step HB.out hb2)
      clear HO HB hb2
      go_wp2
      have hu : u8.ownBlock = none ∨ u8.ownBlock ≠ some w2.heap.size := by
        cases hb : u8.ownBlock with
        | none => exact .inl rfl
        | some b => exact .inr (fun he => by have h1 := Kd.R_lt HO2.out b hb; cases he; omega)
      have HU := Aside0.mk hu
      clear hu
      obtain ⟨lo, hlo⟩ : ∃ q, q = (f k (carryL f k 0 a1).2).1 := ⟨_, rfl⟩
      obtain ⟨hi, hhi⟩ : ∃ q, q = (f k (carryL f k 0 a1).2).2 := ⟨_, rfl⟩
      rw [← hlo, ← hhi]
      have HLO := Aside0.mk hlo
      have HHI := Aside0.mk hhi
      clear hlo hhi
      have hc0 : (w2.alloc (.cells #[.int .u64 lo, .int .u64 hi] 100)).cell? ⟨w2.heap.size, 0, none⟩ = some (.int .u64 lo) := two_cell0 _ _ _ _
      have hc1 : (w2.alloc (.cells #[.int .u64 lo, .int .u64 hi] 100)).cell? ⟨w2.heap.size, 1, none⟩ = some (.int .u64 hi) := two_cell1 _ _ _ _
      have hsz : w2.heap.size < (w2.alloc (.cells #[.int .u64 lo, .int .u64 hi] 100)).heap.size := by simp
      have HO3 := Aside0.mk (Kd.R_alloc HO2.out (.cells #[.int .u64 lo, .int .u64 hi] 100))
      have HB3 := Aside0.mk (HB2.out.alloc (below_size HB2.out) (.cells #[.int .u64 lo, .int .u64 hi] 100))
      obtain ⟨b2, hb2⟩ : ∃ b, b = w2.heap.size := ⟨_, rfl⟩
      rw [← hb2] at HU hc0 hc1 hsz ⊢
      clear HO2 HB2
      generalize (w2.alloc (.cells #[.int .u64 lo, .int .u64 hi] 100)) = W3 at hc0 hc1 hsz HO3 HB3 ⊢
      clear hb2
      have HL := Aside0.mk (carryL_length f k 0 a1)
      have hne : some b2 ≠ u8.ownBlock := by
        rcases HU.out with h | h
        · rw [h]; exact fun h => by cases h
        · exact fun e => h e.symm
      have HNE := Aside0.mk hne
      clear hne HU
      go_region_law ((refine Kd.R_append_step (Kd.int .u64) (w0 := w) (W := W3.drew) w.heap.size rfl (.tmp 23) (.tmp 26) 22 36 (.int .u64 0) 8 rfl Tryd.underlying22 iW rfl (Nat.le_refl 1) (Nat.le_add_left 1 7) u8 (carryL f k 0 a1).1 lo [.int .u64 lo] (fun _ => True) (fun _ => False) rfl rfl rfl (fun _ h => h.elim) (fun _ _ => trivial) (Kd.R_drew HO3.out) (below_drew HB3.out) (below_size (below_drew HB3.out)) ?hlen ?_); (case hlen => rw [HL.out]; omega); intro v1 w4 ho hb hg hat; have hc4 := hg.cell (a := ⟨b2, 1, none⟩) hc1 HNE.out; have HO4 := Aside0.mk ho; have HB4 := Aside0.mk hb; clear ho hb hg hat hc0 hc1 HO3 HB3)
      all_goals
        go_wp2
        go_roundw
        case rel => exact ⟨k + 1, by omega, by go_num, by rw [HSN.out, HHI.out, Nat.zero_add], ⟨by rw [HSN.out, Nat.zero_add]; exact HSt.out.1⟩, ⟨by rw [HSN.out, Nat.zero_add, ← HLO.out]; exact HO4.out⟩, HB4⟩
        case measure => simp [intOf]; omega
    · obtain rfl : k = l0.length := by omega
      go_wp2
      go_ret2
      exact ⟨_, rfl, HO.out, HB.out⟩
end Go.Proofs.YtkkkbalefnileaaDoor.Ex
/- The steps of words.Add, Sub: closures over two rows; words.more. -/
namespace Go.Proofs.YtkkkbalefnileaaDoor.Ex
open Go.RowKit Go.Proofs.YtkkkbalefnileaaDoorW.PrintWords Go.Proofs.YtkkkbalefnileaaDoorW.PrintLast Go.Proofs.YtkkkbalefnileaaDoorW.PrintMore
set_option linter.unusedVariables false
set_option linter.unusedSimpArgs false

theorem add64 (x y c : Int) (hx : 0 ≤ x) (hy : 0 ≤ y) (hc : 0 ≤ c) (hc1 : c ≤ 1) (w : World) :
    (callFunc 70 #[.int .u64 x, .int .u64 y, .int .u64 c]).run Tryd.prog w = .ok (.value (.tuple #[.int .u64 (addS x y c).1, .int .u64 (addS x y c).2])) w := by
  rw [run_callFunc_extern Tryd.func70 (by kernel_rfl) (by kernel_rfl) (by kernel_rfl) (e := add64Entry) (by kernel_rfl), run_add64 x y c hx hy hc hc1]
  rfl
theorem sub64 (x y c : Int) (hx : isW x) (hy : isW y) (hc : 0 ≤ c) (hc1 : c ≤ 1) (w : World) :
    (callFunc 92 #[.int .u64 x, .int .u64 y, .int .u64 c]).run Tryd.prog w = .ok (.value (.tuple #[.int .u64 (subS x y c).1, .int .u64 (subS x y c).2])) w := by
  obtain ⟨X, rfl⟩ := Int.eq_ofNat_of_zero_le hx.1
  obtain ⟨Y, rfl⟩ := Int.eq_ofNat_of_zero_le hy.1
  obtain ⟨C, rfl⟩ := Int.eq_ofNat_of_zero_le hc
  have h1 := hx.2
  have h2 := hy.2
  rw [W64_eq] at h1 h2
  rw [run_callFunc_extern Tryd.func92 (by kernel_rfl) (by kernel_rfl) (by kernel_rfl) (e := sub64Entry) (by kernel_rfl), run_sub64 X Y C (by omega)]
  have e1 : (((X + 18446744073709551616 - Y - C) % 18446744073709551616 : Nat) : Int) = (subS X Y C).1 := by
    unfold subS
    rw [W64_eq]
    omega
  have e2 : ((if X < Y + C then 1 else 0 : Nat) : Int) = (subS X Y C).2 := by
    unfold subS
    by_cases h : X < Y + C
    · rw [if_pos h, if_pos (by omega)]; rfl
    · rw [if_neg h, if_neg (by omega)]; rfl
  rw [e1, e2]
  rfl
/-- What is known of a new block of two words. -/
theorem two_facts (w : World) (t : TypeId) : let W := w.alloc (.cells #[.int .u64 0, .int .u64 0] t); W.cell? ⟨w.heap.size, 0, none⟩ = some (.int .u64 0) ∧ W.cell? ⟨w.heap.size, 1, none⟩ = some (.int .u64 0) ∧ W.frozen? ⟨w.heap.size, 0, none⟩ = false ∧ W.frozen? ⟨w.heap.size, 1, none⟩ = false ∧ Below w.heap.size w W ∧ w.heap.size < W.heap.size := by
  refine ⟨two_cell0 _ _ _ _, two_cell1 _ _ _ _, ?_, ?_, below_alloc (Below.refl _ _) _, by simp⟩
  · unfold World.frozen?; rw [heap_alloc_new]; rfl
  · unfold World.frozen?; rw [heap_alloc_new]; rfl
end Go.Proofs.YtkkkbalefnileaaDoor.Ex
/- words.more and the steps of MulWord, AddMul, SubMul, Left, Sub. -/
namespace Go.Proofs.YtkkkbalefnileaaDoor.Ex
open Go.RowKit Go.Proofs.YtkkkbalefnileaaDoorW.PrintWords Go.Proofs.YtkkkbalefnileaaDoorW.PrintLast Go.Proofs.YtkkkbalefnileaaDoorW.PrintMore
set_option linter.unusedVariables false
set_option linter.unusedSimpArgs false

theorem mulHi (a b : Int) (ha : isW a) (hb : isW b) : isW (a * b / W64) ∧ isW (a * b % W64) ∧ a * b / W64 ≤ W64 - 2 ∧ a * b = W64 * (a * b / W64) + a * b % W64 ∧ a * b ≤ 340282366920938463426481119284349108225 := by
  obtain ⟨h1, h2⟩ := ha
  obtain ⟨h3, h4⟩ := hb
  have hp : 0 ≤ a * b := Int.mul_nonneg h1 h3
  have hq : a * b ≤ (W64 - 1) * (W64 - 1) := Int.mul_le_mul (by omega) (by omega) h3 (by have := W64_pos; omega)
  have e : (W64 - 1) * (W64 - 1) = W64 * (W64 - 2) + 1 := by rw [W64_eq]; rfl
  have hd := Int.mul_ediv_add_emod (a * b) W64
  have hm := Int.emod_nonneg (a * b) (b := W64) (by decide)
  have hm2 := Int.emod_lt_of_pos (a * b) W64_pos
  have hq0 : 0 ≤ a * b / W64 := Int.ediv_nonneg hp (by decide)
  have hle : a * b / W64 ≤ W64 - 2 := by
    rw [W64_eq] at *
    omega
  exact ⟨⟨hq0, by omega⟩, ⟨hm, hm2⟩, hle, hd.symm, by rw [W64_eq] at hq; omega⟩
/-- The product's two words. -/
theorem mul64 (x y : Int) (hx : isW x) (hy : isW y) (w : World) :
    Calls Tryd.prog 93 #[.int .u64 x, .int .u64 y] w fun e w' => e = .returned (.tuple #[.int .u64 (x * y / W64), .int .u64 (x * y % W64)]) ∧ w = w' := by
  obtain ⟨X, rfl⟩ := Int.eq_ofNat_of_zero_le hx.1
  obtain ⟨Y, rfl⟩ := Int.eq_ofNat_of_zero_le hy.1
  have h1 := hx.2
  have h2 := hy.2
  rw [W64_eq] at h1 h2
  refine (Tryd.bits_Mul64 X Y (by omega) (by omega) w).mono ?_
  rintro e w' ⟨rfl, rfl⟩
  exact ⟨rfl, rfl⟩
theorem more_eq (a b c d : Int) (ha : isW a) (hb : isW b) (hc : isW c) (hd : isW d) :
    isW (a * b / W64 + (a * b % W64 + c) / W64) ∧ isW ((a * b % W64 + c) % W64) ∧ isW ((a * b % W64 + c) / W64) ∧
    ((a * b % W64 + c) % W64 + d + 0) % W64 = (moreS a b c d).1 ∧ a * b / W64 + (a * b % W64 + c) / W64 + ((a * b % W64 + c) % W64 + d + 0) / W64 = (moreS a b c d).2 ∧ isW (moreS a b c d).1 ∧ isW (moreS a b c d).2 := by
  obtain ⟨h1, h2, h3, h4, h5⟩ := mulHi a b ha hb
  obtain ⟨c0, c1⟩ := hc
  obtain ⟨d0, d1⟩ := hd
  unfold moreS isW at *
  generalize a * b = p at *
  generalize hH : p / W64 = H at *
  generalize hL : p % W64 = L at *
  subst h4
  rw [W64_eq] at *
  refine ⟨⟨?_, ?_⟩, ⟨?_, ?_⟩, ⟨?_, ?_⟩, ?_, ?_, ⟨?_, ?_⟩, ⟨?_, ?_⟩⟩ <;> omega
set_option maxHeartbeats 1000000 in
theorem more (a b c d : Int) (ha : isW a) (hb : isW b) (hc : isW c) (hd : isW d) (w : World) :
    Calls Tryd.prog 108 #[.int .u64 a, .int .u64 b, .int .u64 c, .int .u64 d] w fun e w' => e = .returned (.agg #[.int .u64 (moreS a b c d).1, .int .u64 (moreS a b c d).2]) ∧ Below w.heap.size w w' := by
  obtain ⟨m1, m2, m3, m4, m5⟩ := mulHi a b ha hb
  obtain ⟨e1, e2, e3, e4, e5, e6, e7⟩ := more_eq a b c d ha hb hc hd
  have HM := Aside0.mk (mul64 a b ha hb)
  have hA := add64 (a * b % W64) c 0 m2.1 hc.1 (Int.le_refl 0) (by decide)
  have hA2 := add64 (addS (a * b % W64) c 0).1 d 0 (by have := e2.1; simpa [addS] using this) hd.1 (Int.le_refl 0) (by decide)
  have HW : IntKind.u64.wrap (a * b / W64 + (addS (a * b % W64) c 0).2) = a * b / W64 + (addS (a * b % W64) c 0).2 := by
    have h1 := e1.1
    have h2 := e1.2
    simp only [addS, Int.add_zero]
    rw [W64_eq] at *
    exact IntWalk.u64_in _ (by omega)
  have HV : IntKind.u64.wrap (a * b / W64 + (addS (a * b % W64) c 0).2 + (addS (addS (a * b % W64) c 0).1 d 0).2) = (moreS a b c d).2 := by
    have h1 := e7.1
    have h2 := e7.2
    rw [← e5] at h1 h2 ⊢
    simp only [addS, Int.add_zero] at h1 h2 ⊢
    rw [W64_eq] at *
    exact IntWalk.u64_in _ (by omega)
  have HX : (addS (addS (a * b % W64) c 0).1 d 0).1 = (moreS a b c d).1 := by
    rw [← e4]
    simp [addS]
  clear m1 m2 m3 m4 m5 e1 e2 e3 e4 e5 e6 e7 ha hb hc hd
  go_enter Tryd.func108, Tryd.ntmps108
  go_wp2_with (go_at_call 93; refine (HM.out _).mono ?_; rintro e w' ⟨rfl, rfl⟩)
  have hB := below_alloc (Below.refl w.heap.size w) (.cells #[.int .u64 (moreS a b c d).1, .int .u64 (moreS a b c d).2] 100)
  exact bodyPost_ret (v := .agg #[.int .u64 (moreS a b c d).1, .int .u64 (moreS a b c d).2]) (by simp [results, Tryd.results108, go_sem, HX, HV]) rfl ⟨rfl, hB⟩
theorem subS_c (x y c : Int) : 0 ≤ (subS x y c).2 ∧ (subS x y c).2 ≤ 1 := by
  unfold subS
  by_cases h : x < y + c <;> simp [h]
set_option maxHeartbeats 1000000 in
theorem sub1 (bx «by» : Nat) (A0 A1 : Option Addr) (c0 c1 : Nat) (l0 l1 : List Int) (i : Nat) (c : Int) (w : World) (h0 : i < l0.length) (h1 : i < l1.length) (hc : 0 ≤ c) (hc1 : c ≤ 1) (hw0 : inW l0) (hw1 : inW l1)
    (hr0 : Kd.C (Kd.int .u64) w A0 l0.length l0) (hr1 : Kd.C (Kd.int .u64) w A1 l1.length l1) (hbx : w.cell? ⟨bx, 0, none⟩ = some (.slice A0 l0.length c0)) (hby : w.cell? ⟨«by», 0, none⟩ = some (.slice A1 l1.length c1)) :
    Calls Tryd.prog 91 #[.int .i64 i, .int .u64 c, .pointer (some ⟨bx, 0, none⟩), .pointer (some ⟨«by», 0, none⟩)] w
      fun e w' => e = .returned (.agg #[.int .u64 (subS (l0.getD i 0) (l1.getD i 0) c).1, .int .u64 (subS (l0.getD i 0) (l1.getD i 0) c).2]) ∧ Below w.heap.size w w' := by
  obtain ⟨a0, rfl, hx0⟩ := Kd.at_int hr0 i (by omega) (by omega)
  obtain ⟨a1, rfl, hx1⟩ := Kd.at_int hr1 i (by omega) (by omega)
  have e0 : rd l0 i = l0.getD i 0 := by simp [rd]
  have e1 : rd l1 i = l1.getD i 0 := by simp [rd]
  rw [e0] at hx0
  rw [e1] at hx1
  have w0 := isW_get hw0 i
  have w1 := isW_get hw1 i
  generalize l0.getD i 0 = x at hx0 w0 ⊢
  generalize l1.getD i 0 = y at hx1 w1 ⊢
  have hadd := sub64 x y c w0 w1 hc hc1
  simp only [Int.toNat_natCast] at hx0 hx1
  clear e0 e1 hr0 hr1 w0 w1 hw0 hw1 hc hc1
  go_enter Tryd.func91, Tryd.ntmps91
  go_wp2
  obtain ⟨f0, f1, f2, f3, hB, hsz⟩ := two_facts w 100
  have g0 := pw_cell_below hB hbx
  have g1 := pw_cell_below hB hby
  have g2 := pw_cell_below hB hx0
  have g3 := pw_cell_below hB hx1
  have HB := Aside0.mk hB
  clear hbx hby hx0 hx1 hB
  obtain ⟨B, hB⟩ : ∃ b, b = w.heap.size := ⟨_, rfl⟩
  rw [← hB] at f0 f1 f2 f3 hsz ⊢
  have HBe := Aside0.mk hB
  clear hB
  generalize (w.alloc (.cells #[.int .u64 0, .int .u64 0] 100)) = W at *
  have i0 : (0:Int) ≤ i := by omega
  have i1 : (i:Int) < (l0.length : Int) := by omega
  have i2 : (i:Int) < (l1.length : Int) := by omega
  go_quiet (fail)
  go_wp2
  refine bodyPost_ret (v := .agg #[.int .u64 (subS x y c).1, .int .u64 (subS x y c).2]) (by simp [results, Tryd.results91, go_sem, f0, f1, f2, f3]) rfl ⟨rfl, ?_⟩
  exact ((pw_below_drewN HB.out nq).setCell (by show _ ≤ B; rw [HBe.out]; exact Nat.le_refl _) _).setCell (by show _ ≤ B; rw [HBe.out]; exact Nat.le_refl _) _
set_option maxHeartbeats 1000000 in
set_option maxRecDepth 100000 in
theorem mulWord1 (bx bw : Nat) (A0 : Option Addr) (c0 : Nat) (l0 : List Int) (i : Nat) (c m : Int) (w : World) (h0 : i < l0.length) (hc : isW c) (hm : isW m) (hw0 : inW l0)
    (hr0 : Kd.C (Kd.int .u64) w A0 l0.length l0) (hbx : w.cell? ⟨bx, 0, none⟩ = some (.slice A0 l0.length c0)) (hbw : w.cell? ⟨bw, 0, none⟩ = some (.int .u64 m)) :
    Calls Tryd.prog 107 #[.int .i64 i, .int .u64 c, .pointer (some ⟨bx, 0, none⟩), .pointer (some ⟨bw, 0, none⟩)] w
      fun e w' => e = .returned (.agg #[.int .u64 (moreS (l0.getD i 0) m c 0).1, .int .u64 (moreS (l0.getD i 0) m c 0).2]) ∧ Below w.heap.size w w' := by
  obtain ⟨a0, rfl, hx0⟩ := Kd.at_int hr0 i (by omega) (by omega)
  have e0 : rd l0 i = l0.getD i 0 := by simp [rd]
  rw [e0] at hx0
  have w0 := isW_get hw0 i
  generalize l0.getD i 0 = x at hx0 w0 ⊢
  have HM := Aside0.mk (fun W => more x m c 0 w0 hm hc ⟨Int.le_refl 0, W64_pos⟩ W)
  simp only [Int.toNat_natCast] at hx0
  clear e0 hr0 w0 hw0 hc hm
  go_enter Tryd.func107, Tryd.ntmps107
  go_wp2
  obtain ⟨f0, f1, f2, f3, hB, hsz⟩ := two_facts w 100
  have g0 := pw_cell_below hB hbx
  have g1 := pw_cell_below hB hbw
  have g2 := pw_cell_below hB hx0
  have HB := Aside0.mk hB
  clear hbx hbw hx0 hB
  obtain ⟨B, hB⟩ : ∃ b, b = w.heap.size := ⟨_, rfl⟩
  rw [← hB] at f0 f1 f2 f3 hsz ⊢
  have HBe := Aside0.mk hB
  clear hB
  generalize (w.alloc (.cells #[.int .u64 0, .int .u64 0] 100)) = W at *
  have i0 : (0:Int) ≤ i := by omega
  have i1 : (i:Int) < (l0.length : Int) := by omega
  go_still_tail 6, (by kernel_rfl)
  change wpList _ _ _ _ _ W.drew
  go_wp2_with (go_at_call 108; refine (HM.out _).mono ?_; rintro e w2 ⟨rfl, hb⟩; have k0 := pw_cell_below (w := W.drew) hb f0; have k1 := pw_cell_below (w := W.drew) hb f1; have k2 := (hb.frozen (p := ⟨B, 0, none⟩) hsz).trans f2; have k3 := (hb.frozen (p := ⟨B, 1, none⟩) hsz).trans f3; have HB2 := Aside0.mk (below_step (below_drew HB.out) hb); clear hb f0 f1 f2 f3 g0 g1 g2)
  refine bodyPost_ret (v := .agg #[.int .u64 (moreS x m c 0).1, .int .u64 (moreS x m c 0).2]) (by simp [results, Tryd.results107, go_sem, k0, k1, k2, k3]) rfl ⟨rfl, ?_⟩
  exact (HB2.out.setCell (by show _ ≤ B; rw [HBe.out]; exact Nat.le_refl _) _).setCell (by show _ ≤ B; rw [HBe.out]; exact Nat.le_refl _) _
end Go.Proofs.YtkkkbalefnileaaDoor.Ex
/- Contracts of the library's ContainsFunc over rows, and of words.few. -/
namespace Go.Proofs.YtkkkbalefnileaaDoor.Ex
open Go.RowKit Go.Proofs.YtkkkbalefnileaaDoorW.PrintWords Go.Proofs.YtkkkbalefnileaaDoorW.PrintLast Go.Proofs.YtkkkbalefnileaaDoorW.PrintMore
set_option linter.unusedVariables false
set_option linter.unusedSimpArgs false

theorem few1 (A : Option Addr) (n c : Nat) (w : World) :
    Calls Tryd.prog 105 #[.slice A n c] w fun e w' => e = .returned (.bool (decide ((4096 : Int) < (n : Int)))) ∧ w = w' := by
  go_enter Tryd.func105, Tryd.ntmps105
  go_wp2
  go_ret
  exact ⟨rfl, rfl⟩
def words_few.f (l0 : List (List Int)) : Option Bool := some (l0.all fun x => decide (x.length ≤ 4096))
theorem all_take_succ (l : List (List Int)) (k : Nat) (h : k < l.length) : ((l.take (k + 1)).all fun x => decide (x.length ≤ 4096)) = (((l.take k).all fun x => decide (x.length ≤ 4096)) && decide (l[k].length ≤ 4096)) := by
  rw [List.take_succ_eq_append_getElem h, List.all_append, List.all_cons, List.all_nil, Bool.and_true]
theorem idxFew (A0 : Option Addr) (c0 : Nat) (l0 : List (List Int)) (w : World) (hr0 : Kd.C (Kd.slice 36 (Kd.int .u64)) w A0 l0.length l0) (hc0 : l0.length ≤ c0) :
    Calls Tryd.prog 109 #[.slice A0 l0.length c0, .func (.func 105) #[] #[]] w
      fun e w' => (∃ i : Int, e = .returned (.int .i64 i) ∧ decide (0 ≤ i) = !(l0.all fun x => decide (x.length ≤ 4096))) ∧ w = w' := by
  have HR := Aside0.mk hr0
  have hn : l0.length ≤ 9223372036854775807 := hr0.2.1
  clear hr0
  go_enter Tryd.func109, Tryd.ntmps109
  go_wp2
  go_loop [5, 8] (fun _ i => ∃ k : Nat, k ≤ l0.length ∧ i = .int .i64 k ∧ Aside0 (((l0.take k).all fun x => decide (x.length ≤ 4096)) = true)) (fun _ i => l0.length - (intOf i).toNat)
  case atStart => exact ⟨0, Nat.zero_le _, rfl, ⟨by simp⟩⟩
  case round =>
    obtain ⟨k, hk, rfl, HA⟩ := hrel
    by_cases hlt : k < l0.length
    · obtain ⟨ad, c, rfl, hcl, hK, hcell⟩ := Kd.C_get HR.out [] k (by omega) (by omega)
      obtain ⟨A1, c1, rfl, hl1, hC1⟩ := hK
      have hc1 := hcell 0 _ rfl
      simp only [Int.toNat_natCast] at hc1 hC1 hl1
      have e0 : k * (Kd.slice 36 (Kd.int .u64)).sz + 0 = k := by simp [Kd.slice]
      rw [e0] at hc1
      have HS := Aside0.mk (all_take_succ l0 k hlt)
      have hg : (l0[k]?.getD []) = l0[k] := by rw [List.getElem?_eq_getElem hlt]; rfl
      have hgd : l0.getD k [] = l0[k] := by rw [List.getD_eq_getElem?_getD, hg]
      rw [hgd] at hc1
      clear hcell hC1 hl1 hcl
      by_cases h4 : (4096 : Int) < (l0[k].length : Int)
      · have h4b : decide ((4096 : Int) < (l0[k].length : Int)) = true := decide_eq_true h4
        go_wp2_with (go_at_call 105; refine (few1 _ _ _ _).mono ?_; rintro e w' ⟨rfl, rfl⟩)
        go_ret
        refine ⟨⟨k, rfl, ?_⟩, rfl⟩
        have hf : (l0.all fun x => decide (x.length ≤ 4096)) = false := by
          rw [List.all_eq_false]
          exact ⟨l0[k], List.getElem_mem _, by simp; omega⟩
        rw [hf]
        exact decide_eq_true (by omega)
      · have h4b : decide ((4096 : Int) < (l0[k].length : Int)) = false := decide_eq_false h4
        go_wp2_with (go_at_call 105; refine (few1 _ _ _ _).mono ?_; rintro e w' ⟨rfl, rfl⟩)
        go_round
        case rel => exact ⟨k + 1, by omega, by go_num, ⟨by rw [HS.out, HA.out]; simp; omega⟩⟩
        case measure => simp [intOf]; omega
    · obtain rfl : k = l0.length := by omega
      go_wp2
      go_ret
      have h1 := HA.out
      rw [List.take_length] at h1
      exact ⟨⟨-1, rfl, by rw [h1]; rfl⟩, rfl⟩
theorem containsFew (A0 : Option Addr) (c0 : Nat) (l0 : List (List Int)) (w : World) (hr0 : Kd.C (Kd.slice 36 (Kd.int .u64)) w A0 l0.length l0) (hc0 : l0.length ≤ c0) :
    Calls Tryd.prog 104 #[.slice A0 l0.length c0, .func (.func 105) #[] #[]] w
      fun e w' => e = .returned (.bool (!(l0.all fun x => decide (x.length ≤ 4096)))) ∧ w = w' := by
  have HR := Aside0.mk hr0
  clear hr0
  go_enter Tryd.func104, Tryd.ntmps104
  go_wp2_with (go_at_call 109; refine (idxFew _ _ l0 _ HR.out hc0).mono ?_; rintro e w' ⟨⟨i, rfl, hi⟩, rfl⟩; have HI := Aside0.mk hi; clear hi)
  go_ret
  exact ⟨by rw [← HI.out]; rfl, rfl⟩
theorem words_few.calls (A0 : Option Addr) (c0 : Nat) (l0 : List (List Int)) (r : Bool) (w : World) (hr0 : Kd.C (Kd.slice 36 (Kd.int .u64)) w A0 l0.length l0) (hc0 : l0.length ≤ c0) (h : words_few.f l0 = some r) :
    Calls Tryd.prog 94 #[.slice A0 l0.length c0] w fun e w' => e = .returned (.bool r) ∧ Drawn0 w w' := by
  have HR := Aside0.mk hr0
  clear hr0
  have H : r = (l0.all fun x => decide (x.length ≤ 4096)) := (Option.some.inj h).symm
  clear h
  subst H
  go_enter Tryd.func94, Tryd.ntmps94
  go_wp2_with (go_at_call 104; refine (containsFew _ _ l0 _ HR.out hc0).mono ?_; rintro e w' ⟨rfl, rfl⟩)
  go_ret
  exact ⟨by simp, Drawn0.refl _⟩
end Go.Proofs.YtkkkbalefnileaaDoor.Ex
/- words.checked, at any rows. -/
namespace Go.Proofs.YtkkkbalefnileaaDoor.Ex
open Go.RowKit Go.Proofs.YtkkkbalefnileaaDoorW.PrintWords Go.Proofs.YtkkkbalefnileaaDoorW.PrintLast Go.Proofs.YtkkkbalefnileaaDoorW.PrintMore
set_option linter.unusedVariables false
set_option linter.unusedSimpArgs false

/-- What checked tells of rows. -/
def chk (l : List (List Int)) : Int :=
  if (l.all fun x => decide (x.length ≤ 4096)) = true then (if (l.all fun x => decide (x.length = (l.headD []).length)) = true then 0 else 1) else 2
theorem all_take_succ' (n : Nat) (l : List (List Int)) (k : Nat) (h : k < l.length) : ((l.take (k + 1)).all fun x => decide (x.length = n)) = (((l.take k).all fun x => decide (x.length = n)) && decide (l[k].length = n)) := by
  rw [List.take_succ_eq_append_getElem h, List.all_append, List.all_cons, List.all_nil, Bool.and_true]
theorem checked (A0 : Option Addr) (c0 : Nat) (l0 : List (List Int)) (w : World) (hr0 : Kd.C (Kd.slice 36 (Kd.int .u64)) w A0 l0.length l0) (hc0 : l0.length ≤ c0) :
    Calls Tryd.prog 89 #[.slice A0 l0.length c0] w fun e w' => e = .returned (.int .i64 (chk l0)) ∧ Drawn0 w w' := by
  have HR := Aside0.mk hr0
  have hn : l0.length ≤ 9223372036854775807 := hr0.2.1
  clear hr0
  have HW := Aside0.mk (Drawn0.refl w)
  by_cases hf : (l0.all fun x => decide (x.length ≤ 4096)) = true
  · have HF := Aside0.mk hf
    clear hf
    go_enter Tryd.func89, Tryd.ntmps89
    go_wp2_with (go_at_call 94; refine (words_few.calls _ _ l0 true _ HR.out hc0 (by unfold words_few.f; rw [HF.out])).mono ?_; rintro e w' ⟨rfl, hd⟩; obtain ⟨nd, rfl⟩ := hd.out)
    have HR2 := Aside0.mk (Kd.C_below HR.out hd.below)
    have HD := Aside0.mk hd
    clear hd HR HW
    generalize w.drewN nd = W at HR2 HD ⊢
    obtain ⟨N, hN⟩ : ∃ q, q = (l0.headD []).length := ⟨_, rfl⟩
    have HN := Aside0.mk hN
    clear hN
    go_loop [4, 10] (fun _ i => ∃ k : Nat, k ≤ l0.length ∧ i = .int .i64 k ∧ Aside0 (((l0.take k).all fun x => decide (x.length = N)) = true)) (fun _ i => l0.length - (intOf i).toNat)
    case atStart => exact ⟨0, Nat.zero_le _, rfl, ⟨by simp⟩⟩
    case round =>
      obtain ⟨k, hk, rfl, HA⟩ := hrel
      by_cases hlt : k < l0.length
      · obtain ⟨ad, c, rfl, hcl, hK, hcell⟩ := Kd.C_get HR2.out [] k (by omega) (by omega)
        obtain ⟨A1, c1, rfl, hl1, hC1⟩ := hK
        have hc1 := hcell 0 _ rfl
        simp only [Int.toNat_natCast] at hc1 hC1 hl1
        have e0 : k * (Kd.slice 36 (Kd.int .u64)).sz + 0 = k := by simp [Kd.slice]
        rw [e0] at hc1
        have HS := Aside0.mk (all_take_succ' N l0 k hlt)
        have hg : (l0[k]?.getD []) = l0[k] := by rw [List.getElem?_eq_getElem hlt]; rfl
        have hgd : l0.getD k [] = l0[k] := by rw [List.getD_eq_getElem?_getD, hg]
        rw [hgd] at hc1
        clear hcell hC1 hl1 hcl hg hgd e0
        obtain ⟨ad', c', e', hcl, hK, hcell⟩ := Kd.C_get HR2.out [] 0 (by omega) (by omega)
        cases e'
        obtain ⟨A2, c2, rfl, hl1, hC1⟩ := hK
        have hc2 := hcell 0 _ rfl
        have e0 : (0 : Int).toNat * (Kd.slice 36 (Kd.int .u64)).sz + 0 = 0 := by simp
        rw [e0] at hc2
        have hz : l0.getD (0 : Int).toNat [] = l0.headD [] := by cases l0 <;> rfl
        rw [hz, ← HN.out] at hc2
        have hc3 : W.cell? ad = some (.slice A2 N c2) := hc2
        clear hc2
        clear hcell hC1 hl1 hcl hz e0
        have hp : (0:Int) < (l0.length : Int) := by omega
        have hpn : 0 < l0.length := by omega
        by_cases h4 : l0[k].length = N
        · have h4b : ((l0[k].length : Int) != (N : Int)) = false := bne_eq_false_iff_eq.2 (by rw [h4])
          have HQ := Aside0.mk h4
          clear h4
          go_wp2
          go_round
          case rel => exact ⟨k + 1, by omega, by go_num, ⟨by rw [HS.out, HA.out]; simp [HQ.out]⟩⟩
          case measure => simp [intOf]; omega
        · have h4b : ((l0[k].length : Int) != (N : Int)) = true := bne_iff_ne.2 (fun e => h4 (by omega))
          have HQ := Aside0.mk h4
          clear h4
          go_wp2
          go_ret
          have hf : (l0.all fun x => decide (x.length = N)) = false := by
            rw [List.all_eq_false]
            exact ⟨l0[k], List.getElem_mem _, by simpa using HQ.out⟩
          refine ⟨?_, HD.out⟩
          unfold chk
          rw [← HN.out, if_pos HF.out, hf]
          rfl
      · obtain rfl : k = l0.length := by omega
        go_wp2
        go_ret
        have h1 := HA.out
        rw [List.take_length] at h1
        refine ⟨?_, HD.out⟩
        unfold chk
        rw [← HN.out, if_pos HF.out, h1]
        rfl
  · have HF := Aside0.mk (show (l0.all fun x => decide (x.length ≤ 4096)) = false by simpa using hf)
    clear hf
    go_enter Tryd.func89, Tryd.ntmps89
    go_wp2_with (go_at_call 94; refine (words_few.calls _ _ l0 false _ HR.out hc0 (by unfold words_few.f; rw [HF.out])).mono ?_; rintro e w' ⟨rfl, hd⟩; obtain ⟨nd, rfl⟩ := hd.out)
    go_ret
    refine ⟨?_, hd⟩
    unfold chk
    rw [HF.out]
    rfl
end Go.Proofs.YtkkkbalefnileaaDoor.Ex
/- words.Add and words.Sub. -/
namespace Go.Proofs.YtkkkbalefnileaaDoor.Ex
open Go.RowKit Go.Proofs.YtkkkbalefnileaaDoorW.PrintWords Go.Proofs.YtkkkbalefnileaaDoorW.PrintLast Go.Proofs.YtkkkbalefnileaaDoorW.PrintMore
set_option linter.unusedVariables false
set_option linter.unusedSimpArgs false

theorem C_two {W : World} {b : Nat} {A0 A1 : Option Addr} {c0 c1 : Nat} {l0 l1 : List Int} {t : TypeId} {fr : Nat × Nat} (h0 : Kd.C (Kd.int .u64) W A0 l0.length l0) (g0 : l0.length ≤ c0) (h1 : Kd.C (Kd.int .u64) W A1 l1.length l1) (g1 : l1.length ≤ c1)
    (hb : W.heap[b]? = some (.cells #[.slice A0 l0.length c0, .slice A1 l1.length c1] t fr)) : Kd.C (Kd.slice 36 (Kd.int .u64)) W (some ⟨b, 0, none⟩) 2 [l0, l1] := by
  refine ⟨rfl, by decide, fun _ => ⟨_, rfl, fun j p hj => ?_⟩⟩
  match j, hj with
  | 0, hj =>
    cases hj
    refine ⟨[.slice A0 l0.length c0], rfl, ⟨A0, c0, rfl, g0, h0⟩, fun i u hu => ?_⟩
    cases i with
    | zero => cases hu; simp [World.cell?, Addr.add, hb]
    | succ i => simp at hu
  | 1, hj =>
    cases hj
    refine ⟨[.slice A1 l1.length c1], rfl, ⟨A1, c1, rfl, g1, h1⟩, fun i u hu => ?_⟩
    cases i with
    | zero => cases hu; simp [World.cell?, Addr.add, hb, Kd.slice]
    | succ i => simp at hu
  | j + 2, hj => simp at hj
theorem C_one {W : World} {b : Nat} {A0 : Option Addr} {c0 : Nat} {l0 : List Int} {t : TypeId} {fr : Nat × Nat} (h0 : Kd.C (Kd.int .u64) W A0 l0.length l0) (g0 : l0.length ≤ c0)
    (hb : W.heap[b]? = some (.cells #[.slice A0 l0.length c0] t fr)) : Kd.C (Kd.slice 36 (Kd.int .u64)) W (some ⟨b, 0, none⟩) 1 [l0] := by
  refine ⟨rfl, by decide, fun _ => ⟨_, rfl, fun j p hj => ?_⟩⟩
  match j, hj with
  | 0, hj =>
    cases hj
    refine ⟨[.slice A0 l0.length c0], rfl, ⟨A0, c0, rfl, g0, h0⟩, fun i u hu => ?_⟩
    cases i with
    | zero => cases hu; simp [World.cell?, Addr.add, hb]
    | succ i => simp at hu
  | j + 1, hj => simp at hj
theorem chk_two {l0 l1 : List Int} (h : chk [l0, l1] = 0) : l0.length ≤ 4096 ∧ l1.length = l0.length := by
  unfold chk at h
  by_cases h1 : ([l0, l1].all fun x => decide (x.length ≤ 4096)) = true
  · rw [if_pos h1] at h
    by_cases h2 : ([l0, l1].all fun x => decide (x.length = ([l0, l1].headD []).length)) = true
    · simp at h1 h2; exact ⟨h1.1, h2⟩
    · rw [if_neg h2] at h; cases h
  · rw [if_neg h1] at h; cases h
/-- Boxes in memory. -/
theorem box2 (w : World) (x y : Value) (cs : Array Value) (t u t3 : TypeId) : let W := ((w.alloc (.cells #[x] t)).alloc (.cells #[y] u)).alloc (.cells cs t3); W.cell? ⟨w.heap.size, 0, none⟩ = some x ∧ W.cell? ⟨w.heap.size + 1, 0, none⟩ = some y ∧ W.heap[w.heap.size + 1 + 1]? = some (.cells cs t3 (0, 0)) ∧ Below w.heap.size w W := by
  have h1 : (w.alloc (.cells #[x] t)).cell? ⟨w.heap.size, 0, none⟩ = some x := by unfold World.cell?; rw [heap_alloc_new]; rfl
  have e1 : (w.alloc (.cells #[x] t)).heap.size = w.heap.size + 1 := by simp
  have h2 : ((w.alloc (.cells #[x] t)).alloc (.cells #[y] u)).cell? ⟨w.heap.size + 1, 0, none⟩ = some y := by unfold World.cell?; rw [← e1, heap_alloc_new]; rfl
  have e2 : ((w.alloc (.cells #[x] t)).alloc (.cells #[y] u)).heap.size = w.heap.size + 1 + 1 := by simp
  have b2 : Below (w.alloc (.cells #[x] t)).heap.size (w.alloc (.cells #[x] t)) ((w.alloc (.cells #[x] t)).alloc (.cells #[y] u)) := below_alloc (Below.refl _ _) _
  have b3 : Below ((w.alloc (.cells #[x] t)).alloc (.cells #[y] u)).heap.size ((w.alloc (.cells #[x] t)).alloc (.cells #[y] u)) (((w.alloc (.cells #[x] t)).alloc (.cells #[y] u)).alloc (.cells cs t3)) := below_alloc (Below.refl _ _) _
  refine ⟨pw_cell_below b3 (pw_cell_below b2 h1), pw_cell_below b3 h2, by rw [← e2]; exact heap_alloc_new _ _, below_alloc (below_alloc (below_alloc (Below.refl _ _) _) _) _⟩
def words_Sub.f (l0 l1 : List Int) (a2 : Int) : Option (List Int × Int × Int) :=
  if inW l0 ∧ inW l1 ∧ isW a2 then
    if chk [l0, l1] = 0 then
      if 1 < a2 then some ([], 0, 1)
      else some ((carryL (fun i c => subS (l0.getD i 0) (l1.getD i 0) c) l0.length 0 a2).1, (carryL (fun i c => subS (l0.getD i 0) (l1.getD i 0) c) l0.length 0 a2).2, 0)
    else some ([], 0, chk [l0, l1])
  else none
set_option maxHeartbeats 2000000 in
theorem words_Sub.calls (A0 : Option Addr) (c0 : Nat) (l0 : List Int) (A1 : Option Addr) (c1 : Nat) (l1 : List Int) (a2 : Int) (r1 : List Int) (r2 : Int) (r3 : Int) (w : World) (hr0 : Kd.C (Kd.int .u64) w A0 l0.length l0) (hc0 : l0.length ≤ c0) (hr1 : Kd.C (Kd.int .u64) w A1 l1.length l1) (hc1 : l1.length ≤ c1) (h : words_Sub.f l0 l1 a2 = some (r1, r2, r3)) :
  Calls Tryd.prog 68 #[.slice A0 l0.length c0, .slice A1 l1.length c1, .int .u64 a2] w fun e w' => ∃ v0_ : Value, e = .returned (.tuple #[v0_, .int .u64 r2, .int .i64 r3]) ∧ Kd.R (Kd.int .u64) 36 w' w.heap.size (fun _ => True) v0_ r1 ∧ Below w.heap.size w w' := by
 unfold words_Sub.f at h
 by_cases hw : inW l0 ∧ inW l1 ∧ isW a2
 ·rw [if_pos hw] at h
  obtain ⟨hw0, hw1, hw2⟩ := hw
  have HR0 := Aside0.mk hr0
  have HR1 := Aside0.mk hr1
  clear hr0 hr1
  go_enter Tryd.func68, Tryd.ntmps68
  go_wp2_with fail
  obtain ⟨b0, b1, b2, hB⟩ := box2 w (.slice A0 l0.length c0) (.slice A1 l1.length c1) #[.slice A0 l0.length c0, .slice A1 l1.length c1] 22 22 22
  have C0 := Aside0.mk (Kd.C_below HR0.out hB)
  have C1 := Aside0.mk (Kd.C_below HR1.out hB)
  have HB := Aside0.mk hB
  clear hB HR0 HR1
  generalize (((w.alloc (.cells #[.slice A0 l0.length c0] 22)).alloc (.cells #[.slice A1 l1.length c1] 22)).alloc (.cells #[.slice A0 l0.length c0, .slice A1 l1.length c1] 22)) = W at *
  refine (checked (some ⟨w.heap.size + 1 + 1, 0, none⟩) 2 [l0, l1] _ (C_two C0.out hc0 C1.out hc1 b2) (Nat.le_refl 2)).mono ?_
  rintro e w' ⟨rfl, hd⟩
  have b0' := pw_cell_below hd.below b0
  have b1' := pw_cell_below hd.below b1
  have C0' := Aside0.mk (Kd.C_below C0.out hd.below)
  have C1' := Aside0.mk (Kd.C_below C1.out hd.below)
  have HB' := Aside0.mk (below_step HB.out hd.below)
  clear b0 b1 b2 C0 C1 HB hd
  clear W
  by_cases hc : chk [l0, l1] = 0
  ·rw [if_pos hc] at h
   have hcb : (chk [l0, l1] != 0) = false := bne_eq_false_iff_eq.2 hc
   obtain ⟨hl0, hl1⟩ := chk_two hc
   have HC := Aside0.mk hc
   clear hc
   by_cases h1 : 1 < a2
   ·rw [if_pos h1] at h
    cases h
    go_wp2
    go_ret3
    exact ⟨_, rfl, Kd.R_nil _ _ _ _ _, HB'.out⟩
   ·rw [if_neg h1] at h
    cases h
    have HL := Aside0.mk hl1
    clear hl1
    go_wp2_with fail
    refine (carrying 91 (enters_of Tryd.func91 (by kernel_rfl) rfl) #[.pointer (some ⟨w.heap.size, 0, none⟩), .pointer (some ⟨w.heap.size + 1, 0, none⟩)] (fun i c => subS (l0.getD i 0) (l1.getD i 0) c) (fun c => 0 ≤ c ∧ c ≤ 1) A0 c0 l0 a2 _ hl0 ⟨hw2.1, by omega⟩ ?_).mono ?_
    ·intro i hi c hI
     refine ⟨subS_c _ _ _, fun W' hW' => ?_⟩
     exact sub1 w.heap.size (w.heap.size + 1) A0 A1 c0 c1 l0 l1 i c W' hi (by rw [HL.out]; exact hi) hI.1 hI.2 hw0 hw1 (Kd.C_below C0'.out hW') (Kd.C_below C1'.out hW') (pw_cell_below hW' b0') (pw_cell_below hW' b1')
    ·rintro e w2 ⟨v0, rfl, hR, hB2⟩
     have HRr := Aside0.mk (Kd.R_lower hR (below_size HB'.out))
     have HB2 := Aside0.mk (below_step HB'.out hB2)
     clear hR hB2
     go_wp2
     go_ret3
     exact ⟨_, rfl, HRr.out, HB2.out⟩
  ·rw [if_neg hc] at h
   have hcb : (chk [l0, l1] != 0) = true := bne_iff_ne.2 hc
   cases h
   clear hc
   go_wp2
   go_ret3
   exact ⟨_, rfl, Kd.R_nil _ _ _ _ _, HB'.out⟩
 ·rw [if_neg hw] at h; cases h
end Go.Proofs.YtkkkbalefnileaaDoor.Ex
/- nat.add, Add. -/
namespace Go.Proofs.YtkkkbalefnileaaDoor.Ex
open Go.RowKit Go.Proofs.YtkkkbalefnileaaDoorW.PrintWords Go.Proofs.YtkkkbalefnileaaDoorW.PrintLast Go.Proofs.YtkkkbalefnileaaDoorW.PrintMore
set_option linter.unusedVariables false
set_option linter.unusedSimpArgs false

theorem print_make2 (m c : Nat) (hm : m ≤ c) (hc : c ≤ 1000000) :
    ∀ W : World, (Instr.makeSlice 23 (.int .i64 (m : Int)) (.int .i64 (c : Int))).run Tryd.prog W = .ok (.slice (some ⟨W.heap.size, 0, none⟩) m c) (W.alloc (.cells (madeCells #[.int .u64 0] c) 36)) := by
  intro W
  obtain ⟨i0, hi0, hz0, hz1, hz2⟩ := info_parts iW
  have h := run_makeSlice W 23 36 i0 (.int .u64 0) Tryd.underlying23 hi0 hz0 .i64 .i64 (m : Int) (c : Int) (by omega) (by omega) (by rw [hz1]; omega) (by rw [hz2]; omega) (by omega)
  rw [h, hz1]
  simp only [Int.toNat_natCast, Nat.mul_one]
  rfl
theorem own_made2 (W : World) (m c base : Nat) (hb : base ≤ W.heap.size) (hm : m ≤ c) (hc : c ≤ 1000000) :
    Kd.R (Kd.int .u64) 36 (W.alloc (.cells (madeCells #[.int .u64 0] c) 36)) base (fun _ => True) (.slice (some ⟨W.heap.size, 0, none⟩) m c) (List.replicate m 0) := by
  have h1 := own_take (own_made W base 36 .u64 c hb (by omega)) hm
  refine Kd.R_of_own (enc := Value.int .u64) (h1 := fun _ => rfl) ?_ (fun _ _ => trivial)
  rw [Nat.mul_one] at h1
  rw [List.length_replicate]
  have e : (nums .u64 (List.replicate c 0)).take m = encs (Value.int .u64) (List.replicate m 0) := by
    unfold nums encs
    rw [← List.map_take, List.take_replicate, Nat.min_eq_left hm]
  rw [e] at h1
  exact h1
theorem valB_take_step (B : Int) (l : List Int) (k : Nat) : valB B (l.take (k + 1)) = valB B (l.take k) + B ^ k * l.getD k 0 := by
  by_cases h : k < l.length
  · exact valB_take_succ B l k h
  · rw [List.take_of_length_le (by omega), List.take_of_length_le (by omega), getD_beyond l k (by omega), Int.mul_zero, Int.add_zero]
/-- What large tells of one number, of two. -/
theorem large_one (A0 : Option Addr) (c0 : Nat) (l0 : List Int) (w : World) (b : Bool) (hr0 : Kd.C (Kd.int .u64) w A0 l0.length l0) (hc0 : l0.length ≤ c0) (hb : decide (4096 < l0.length) = b) :
    Calls Tryd.prog 41 #[.slice (some ⟨w.heap.size, 0, none⟩) 1 1] (w.alloc (.cells #[.slice A0 l0.length c0] 23)) fun e w' => e = .returned (.bool b) ∧ Below w.heap.size w w' := by
  have hB := below_alloc (Below.refl w.heap.size w) (.cells #[.slice A0 l0.length c0] 23)
  refine (nat_large.calls (some ⟨w.heap.size, 0, none⟩) 1 [l0] b _ (C_one (Kd.C_below hr0 hB) hc0 (heap_alloc_new _ _)) (Nat.le_refl 1) (by unfold nat_large.f; rw [← hb]; simp only [List.all_cons, List.all_nil, Bool.and_true, Option.some.injEq]; by_cases h : 4096 < l0.length <;> simp [h] <;> omega)).mono ?_
  rintro e w' ⟨he, hd⟩
  exact ⟨he, below_step hB hd.below⟩
theorem large_two (A0 A1 : Option Addr) (c0 c1 : Nat) (l0 l1 : List Int) (w : World) (b : Bool) (hr0 : Kd.C (Kd.int .u64) w A0 l0.length l0) (hc0 : l0.length ≤ c0) (hr1 : Kd.C (Kd.int .u64) w A1 l1.length l1) (hc1 : l1.length ≤ c1) (hb : decide (4096 < l0.length ∨ 4096 < l1.length) = b) :
    Calls Tryd.prog 41 #[.slice (some ⟨w.heap.size, 0, none⟩) 2 2] (w.alloc (.cells #[.slice A0 l0.length c0, .slice A1 l1.length c1] 23)) fun e w' => e = .returned (.bool b) ∧ Below w.heap.size w w' := by
  have hB := below_alloc (Below.refl w.heap.size w) (.cells #[.slice A0 l0.length c0, .slice A1 l1.length c1] 23)
  refine (nat_large.calls (some ⟨w.heap.size, 0, none⟩) 2 [l0, l1] b _ (C_two (Kd.C_below hr0 hB) hc0 (Kd.C_below hr1 hB) hc1 (heap_alloc_new _ _)) (Nat.le_refl 2) (by unfold nat_large.f; rw [← hb]; simp only [List.all_cons, List.all_nil, Bool.and_true, Option.some.injEq]; by_cases h : 4096 < l0.length <;> by_cases h' : 4096 < l1.length <;> simp [h, h'] <;> omega)).mono ?_
  rintro e w' ⟨he, hd⟩
  exact ⟨he, below_step hB hd.below⟩
def nat_add.f (l0 l1 : List Int) : Option (List Int) := if inW l0 ∧ inW l1 ∧ l0.length ≤ 100000 ∧ l1.length ≤ 100000 then some (can (valB W64 l0 + valB W64 l1)) else none
set_option maxRecDepth 100000 in
set_option maxHeartbeats 2000000 in
theorem nat_add.calls (A0 : Option Addr) (c0 : Nat) (l0 : List Int) (A1 : Option Addr) (c1 : Nat) (l1 : List Int) (r : List Int) (w : World) (hr0 : Kd.C (Kd.int .u64) w A0 l0.length l0) (hc0 : l0.length ≤ c0) (hr1 : Kd.C (Kd.int .u64) w A1 l1.length l1) (hc1 : l1.length ≤ c1) (h : nat_add.f l0 l1 = some r) :
  Calls Tryd.prog 62 #[.slice A0 l0.length c0, .slice A1 l1.length c1] w fun e w' => ∃ v0_ : Value, e = .returned (v0_) ∧ Kd.R (Kd.int .u64) 36 w' w.heap.size (fun _ => True) v0_ r ∧ Below w.heap.size w w' := by
 unfold nat_add.f at h
 by_cases hw : inW l0 ∧ inW l1 ∧ l0.length ≤ 100000 ∧ l1.length ≤ 100000
 ·rw [if_pos hw] at h
  cases h
  obtain ⟨hw0, hw1, hm0, hm1⟩ := hw
  by_cases hl : l0.length < l1.length
  ·have hlb : decide (l0.length < l1.length) = true := by first | exact decide_eq_true hl | exact decide_eq_false hl
   have hle : l0.length ≤ l1.length := by omega
   have HR0 := Aside0.mk hr1
   have HR1 := Aside0.mk hr0
   have hmk := print_make2 0 (l1.length + 1) (Nat.zero_le _) (by omega)
   simp only [Int.natCast_add, Int.natCast_zero, Int.natCast_one] at hmk
   have HB := Aside0.mk (Below.refl w.heap.size w)
   clear hr0 hr1
   go_enter Tryd.func62, Tryd.ntmps62
   go_wp2
   have HO := Aside0.mk (own_made2 w 0 (l1.length + 1) w.heap.size (Nat.le_refl _) (Nat.zero_le _) (by omega))
   have HB1 := Aside0.mk (below_alloc HB.out (.cells (madeCells #[.int .u64 0] (l1.length + 1)) 36))
   clear hmk HB
   go_loopw [5, 6, 24] (fun v c i wr => ∃ (k : Nat) (z : List Int) (cc : Int), k ≤ l1.length ∧ i = .int .i64 k ∧ c = .int .u64 cc ∧ 0 ≤ cc ∧ cc ≤ 1 ∧ Aside0 (inW z ∧ z.length = k ∧ valB W64 z + W64 ^ k * cc = valB W64 (l1.take k) + valB W64 (l0.take k)) ∧ Aside0 (Kd.R (Kd.int .u64) 36 wr w.heap.size (fun _ => True) v z) ∧ Aside0 (Below w.heap.size w wr)) (fun _ _ i _ => l1.length - (intOf i).toNat)
   case atStart => exact ⟨0, [], 0, Nat.zero_le _, rfl, rfl, Int.le_refl 0, by decide, ⟨inW_nil, rfl, by simp [valB]⟩, HO, HB1⟩
   case round =>
    clear HO HB1
    obtain ⟨k, z, cc, hk, rfl, rfl, hc0', hc1', HZ, HO, HB⟩ := hrel
    have hzl := HZ.out.2.1
    by_cases hlt : k < l1.length
    ·have hlti : (k : Int) < (l1.length : Int) := by omega
     have hC := Kd.C_below HR0.out HB.out
     obtain ⟨ad, rfl, hx0⟩ := Kd.at_int hC (k : Int) (by omega) (by omega)
     rw [show rd l1 (k : Int) = l1.getD k 0 by simp [rd]] at hx0
     have hkk : ((k : Nat) : Int).toNat = k := rfl
     rw [hkk] at hx0
     have hxw := isW_get (show inW l1 from hw1) k
     have hyw := isW_get (show inW l0 from hw0) k
     have hadd := add64 (l1.getD k 0) (l0.getD k 0) cc hxw.1 hyw.1 hc0' hc1'
     have hok := addS_ok hxw hyw ⟨hc0', hc1'⟩
     obtain ⟨s, c, hsc⟩ : ∃ s c, addS (l1.getD k 0) (l0.getD k 0) cc = (s, c) := ⟨_, _, rfl⟩
     rw [hsc] at hadd hok
     obtain ⟨o1, o2, o3⟩ := hok
     simp only at hadd o1 o2 o3
     rw [Int.one_mul, Int.one_mul] at o3
     have HQ := Aside0.mk (show inW (z ++ [s]) ∧ (z ++ [s]).length = k + 1 ∧ valB W64 (z ++ [s]) + W64 ^ (k + 1) * c = valB W64 (l1.take (k + 1)) + valB W64 (l0.take (k + 1)) from by
      refine ⟨inB_append.2 ⟨HZ.out.1, inB_cons.2 ⟨o2, inB_nil⟩⟩, by simp [hzl], ?_⟩
      rw [valB_append, hzl, valB_take_step, valB_take_step]
      have h3 := HZ.out.2.2
      simp only [valB, Int.mul_zero, Int.add_zero]
      rw [Int.pow_succ]
      generalize W64 ^ k = PP at *
      have e9 : PP * W64 * c = PP * (W64 * c) := by rw [Int.mul_assoc]
      have e10 : W64 * c = l1.getD k 0 + l0.getD k 0 + cc - s := by omega
      rw [e9, e10]
      rw [Int.mul_sub, Int.mul_add, Int.mul_add]
      omega)
     have HC1 := Aside0.mk o1
     obtain ⟨xx, hxx⟩ : ∃ xx, xx = l1.getD k 0 := ⟨_, rfl⟩
     rw [← hxx] at hadd hx0
     have HZL := Aside0.mk (show (z.length + 1) * 8 ≤ 140737488355328 by omega)
     clear hsc o1 o2 o3 hxw hyw hxx hC hzl HZ
     by_cases hl2 : k < l0.length
     ·have hl2b : decide ((k : Int) < (l0.length : Int)) = true := decide_eq_true (by omega)
      have hC := Kd.C_below HR1.out HB.out
      obtain ⟨ad2, rfl, hy0⟩ := Kd.at_int hC (k : Int) (by omega) (by omega)
      rw [show rd l0 (k : Int) = l0.getD k 0 by simp [rd]] at hy0
      rw [hkk] at hy0
      have hl2i : (k : Int) < (l0.length : Int) := by omega
      obtain ⟨yy, hyy⟩ : ∃ yy, yy = l0.getD k 0 := ⟨_, rfl⟩
      rw [← hyy] at hadd hy0
      clear hyy hC
      go_wp2_with ((with_reducible refine gate_builtin (b := .append) (xs := #[.tmp 44, .tmp 46]) rfl ?_); at_builtin; refine Kd.R_append (Kd.int .u64) (w0 := w) w.heap.size rfl (.tmp 44) (.tmp 46) 23 36 (.int .u64 0) 8 rfl Tryd.underlying23 iW rfl (by decide) (by omega) _ z s [.int .u64 s] (fun _ => True) (fun _ => False) rfl rfl rfl (fun _ hk => hk.elim) (fun _ _ => trivial) HO.out HB.out (below_size HB.out) HZL.out ?_; intro v1 w1 ho hb hg hat; have HO2 := Aside0.mk ho; have HB2 := Aside0.mk hb; clear HO HB ho hb hg hat)
      go_roundw
      case rel => exact ⟨k + 1, z ++ [s], c, by omega, by go_num, rfl, HC1.out.1, HC1.out.2, HQ, HO2, HB2⟩
      case measure => simp [intOf]; omega
     ·have hl2b : decide ((k : Int) < (l0.length : Int)) = false := decide_eq_false (by omega)
      rw [getD_beyond l0 k (by omega)] at hadd
      go_wp2_with ((with_reducible refine gate_builtin (b := .append) (xs := #[.tmp 44, .tmp 46]) rfl ?_); at_builtin; refine Kd.R_append (Kd.int .u64) (w0 := w) w.heap.size rfl (.tmp 44) (.tmp 46) 23 36 (.int .u64 0) 8 rfl Tryd.underlying23 iW rfl (by decide) (by omega) _ z s [.int .u64 s] (fun _ => True) (fun _ => False) rfl rfl rfl (fun _ hk => hk.elim) (fun _ _ => trivial) HO.out HB.out (below_size HB.out) HZL.out ?_; intro v1 w1 ho hb hg hat; have HO2 := Aside0.mk ho; have HB2 := Aside0.mk hb; clear HO HB ho hb hg hat)
      go_roundw
      case rel => exact ⟨k + 1, z ++ [s], c, by omega, by go_num, rfl, HC1.out.1, HC1.out.2, HQ, HO2, HB2⟩
      case measure => simp [intOf]; omega
    ·obtain rfl : k = l1.length := by omega
     have HZL := Aside0.mk (show (z.length + 1) * 8 ≤ 140737488355328 by omega)
     have HV := Aside0.mk (show inW (z ++ [cc]) ∧ valB W64 (z ++ [cc]) = valB W64 l0 + valB W64 l1 from by
      have h3 := HZ.out.2.2
      rw [List.take_length, List.take_of_length_le hle] at h3
      refine ⟨inB_append.2 ⟨HZ.out.1, inB_cons.2 ⟨⟨hc0', Int.lt_of_le_of_lt hc1' (by decide)⟩, inB_nil⟩⟩, ?_⟩
      rw [valB_append, hzl]
      simp only [valB, Int.mul_zero, Int.add_zero]
      omega)
     clear hzl HZ
     obtain ⟨Z, hZ⟩ : ∃ Z, Z = z ++ [cc] := ⟨_, rfl⟩
     have NZ := Aside0.mk hZ
     rw [← hZ] at HV
     clear hZ
     go_wp2_with (first | ((with_reducible refine gate_builtin (b := .append) (xs := #[.tmp 49, .tmp 51]) rfl ?_); at_builtin; refine Kd.R_append (Kd.int .u64) (w0 := w) w.heap.size rfl (.tmp 49) (.tmp 51) 23 36 (.int .u64 0) 8 rfl Tryd.underlying23 iW rfl (by decide) (by omega) _ z cc [.int .u64 cc] (fun _ => True) (fun _ => False) rfl rfl rfl (fun _ hk => hk.elim) (fun _ _ => trivial) HO.out HB.out (below_size HB.out) HZL.out ?_; intro v1 w1 ho hb hg hat; rw [← NZ.out] at ho; obtain ⟨A2, c2, rfl⟩ := Kd.R_slice ho; have HO2 := Aside0.mk ho; have HB2 := Aside0.mk hb; clear HO HB ho hb hg hat) | (go_at_call 42; refine (trim1 _ _ Z _ HV.out.1 (R_C HO2.out) (R_cap HO2.out)).mono ?_; rintro e w' ⟨rfl, rfl⟩))
     go_ret
     refine ⟨_, rfl, ?_, HB2.out⟩
     have h5 := R_can HO2.out HV.out.1
     rw [HV.out.2] at h5
     rw [HV.out.2]
     exact h5
  ·have hlb : decide (l0.length < l1.length) = false := by first | exact decide_eq_true hl | exact decide_eq_false hl
   have hle : l1.length ≤ l0.length := by omega
   have HR0 := Aside0.mk hr0
   have HR1 := Aside0.mk hr1
   have hmk := print_make2 0 (l0.length + 1) (Nat.zero_le _) (by omega)
   simp only [Int.natCast_add, Int.natCast_zero, Int.natCast_one] at hmk
   have HB := Aside0.mk (Below.refl w.heap.size w)
   clear hr0 hr1
   go_enter Tryd.func62, Tryd.ntmps62
   go_wp2
   have HO := Aside0.mk (own_made2 w 0 (l0.length + 1) w.heap.size (Nat.le_refl _) (Nat.zero_le _) (by omega))
   have HB1 := Aside0.mk (below_alloc HB.out (.cells (madeCells #[.int .u64 0] (l0.length + 1)) 36))
   clear hmk HB
   go_loopw [5, 6, 24] (fun v c i wr => ∃ (k : Nat) (z : List Int) (cc : Int), k ≤ l0.length ∧ i = .int .i64 k ∧ c = .int .u64 cc ∧ 0 ≤ cc ∧ cc ≤ 1 ∧ Aside0 (inW z ∧ z.length = k ∧ valB W64 z + W64 ^ k * cc = valB W64 (l0.take k) + valB W64 (l1.take k)) ∧ Aside0 (Kd.R (Kd.int .u64) 36 wr w.heap.size (fun _ => True) v z) ∧ Aside0 (Below w.heap.size w wr)) (fun _ _ i _ => l0.length - (intOf i).toNat)
   case atStart => exact ⟨0, [], 0, Nat.zero_le _, rfl, rfl, Int.le_refl 0, by decide, ⟨inW_nil, rfl, by simp [valB]⟩, HO, HB1⟩
   case round =>
    clear HO HB1
    obtain ⟨k, z, cc, hk, rfl, rfl, hc0', hc1', HZ, HO, HB⟩ := hrel
    have hzl := HZ.out.2.1
    by_cases hlt : k < l0.length
    ·have hlti : (k : Int) < (l0.length : Int) := by omega
     have hC := Kd.C_below HR0.out HB.out
     obtain ⟨ad, rfl, hx0⟩ := Kd.at_int hC (k : Int) (by omega) (by omega)
     rw [show rd l0 (k : Int) = l0.getD k 0 by simp [rd]] at hx0
     have hkk : ((k : Nat) : Int).toNat = k := rfl
     rw [hkk] at hx0
     have hxw := isW_get (show inW l0 from hw0) k
     have hyw := isW_get (show inW l1 from hw1) k
     have hadd := add64 (l0.getD k 0) (l1.getD k 0) cc hxw.1 hyw.1 hc0' hc1'
     have hok := addS_ok hxw hyw ⟨hc0', hc1'⟩
     obtain ⟨s, c, hsc⟩ : ∃ s c, addS (l0.getD k 0) (l1.getD k 0) cc = (s, c) := ⟨_, _, rfl⟩
     rw [hsc] at hadd hok
     obtain ⟨o1, o2, o3⟩ := hok
     simp only at hadd o1 o2 o3
     rw [Int.one_mul, Int.one_mul] at o3
     have HQ := Aside0.mk (show inW (z ++ [s]) ∧ (z ++ [s]).length = k + 1 ∧ valB W64 (z ++ [s]) + W64 ^ (k + 1) * c = valB W64 (l0.take (k + 1)) + valB W64 (l1.take (k + 1)) from by
      refine ⟨inB_append.2 ⟨HZ.out.1, inB_cons.2 ⟨o2, inB_nil⟩⟩, by simp [hzl], ?_⟩
      rw [valB_append, hzl, valB_take_step, valB_take_step]
      have h3 := HZ.out.2.2
      simp only [valB, Int.mul_zero, Int.add_zero]
      rw [Int.pow_succ]
      generalize W64 ^ k = PP at *
      have e9 : PP * W64 * c = PP * (W64 * c) := by rw [Int.mul_assoc]
      have e10 : W64 * c = l0.getD k 0 + l1.getD k 0 + cc - s := by omega
      rw [e9, e10]
      rw [Int.mul_sub, Int.mul_add, Int.mul_add]
      omega)
     have HC1 := Aside0.mk o1
     obtain ⟨xx, hxx⟩ : ∃ xx, xx = l0.getD k 0 := ⟨_, rfl⟩
     rw [← hxx] at hadd hx0
     have HZL := Aside0.mk (show (z.length + 1) * 8 ≤ 140737488355328 by omega)
     clear hsc o1 o2 o3 hxw hyw hxx hC hzl HZ
     by_cases hl2 : k < l1.length
     ·have hl2b : decide ((k : Int) < (l1.length : Int)) = true := decide_eq_true (by omega)
      have hC := Kd.C_below HR1.out HB.out
      obtain ⟨ad2, rfl, hy0⟩ := Kd.at_int hC (k : Int) (by omega) (by omega)
      rw [show rd l1 (k : Int) = l1.getD k 0 by simp [rd]] at hy0
      rw [hkk] at hy0
      have hl2i : (k : Int) < (l1.length : Int) := by omega
      obtain ⟨yy, hyy⟩ : ∃ yy, yy = l1.getD k 0 := ⟨_, rfl⟩
      rw [← hyy] at hadd hy0
      clear hyy hC
      go_wp2_with ((with_reducible refine gate_builtin (b := .append) (xs := #[.tmp 44, .tmp 46]) rfl ?_); at_builtin; refine Kd.R_append (Kd.int .u64) (w0 := w) w.heap.size rfl (.tmp 44) (.tmp 46) 23 36 (.int .u64 0) 8 rfl Tryd.underlying23 iW rfl (by decide) (by omega) _ z s [.int .u64 s] (fun _ => True) (fun _ => False) rfl rfl rfl (fun _ hk => hk.elim) (fun _ _ => trivial) HO.out HB.out (below_size HB.out) HZL.out ?_; intro v1 w1 ho hb hg hat; have HO2 := Aside0.mk ho; have HB2 := Aside0.mk hb; clear HO HB ho hb hg hat)
      go_roundw
      case rel => exact ⟨k + 1, z ++ [s], c, by omega, by go_num, rfl, HC1.out.1, HC1.out.2, HQ, HO2, HB2⟩
      case measure => simp [intOf]; omega
     ·have hl2b : decide ((k : Int) < (l1.length : Int)) = false := decide_eq_false (by omega)
      rw [getD_beyond l1 k (by omega)] at hadd
      go_wp2_with ((with_reducible refine gate_builtin (b := .append) (xs := #[.tmp 44, .tmp 46]) rfl ?_); at_builtin; refine Kd.R_append (Kd.int .u64) (w0 := w) w.heap.size rfl (.tmp 44) (.tmp 46) 23 36 (.int .u64 0) 8 rfl Tryd.underlying23 iW rfl (by decide) (by omega) _ z s [.int .u64 s] (fun _ => True) (fun _ => False) rfl rfl rfl (fun _ hk => hk.elim) (fun _ _ => trivial) HO.out HB.out (below_size HB.out) HZL.out ?_; intro v1 w1 ho hb hg hat; have HO2 := Aside0.mk ho; have HB2 := Aside0.mk hb; clear HO HB ho hb hg hat)
      go_roundw
      case rel => exact ⟨k + 1, z ++ [s], c, by omega, by go_num, rfl, HC1.out.1, HC1.out.2, HQ, HO2, HB2⟩
      case measure => simp [intOf]; omega
    ·obtain rfl : k = l0.length := by omega
     have HZL := Aside0.mk (show (z.length + 1) * 8 ≤ 140737488355328 by omega)
     have HV := Aside0.mk (show inW (z ++ [cc]) ∧ valB W64 (z ++ [cc]) = valB W64 l0 + valB W64 l1 from by
      have h3 := HZ.out.2.2
      rw [List.take_length, List.take_of_length_le hle] at h3
      refine ⟨inB_append.2 ⟨HZ.out.1, inB_cons.2 ⟨⟨hc0', Int.lt_of_le_of_lt hc1' (by decide)⟩, inB_nil⟩⟩, ?_⟩
      rw [valB_append, hzl]
      simp only [valB, Int.mul_zero, Int.add_zero]
      omega)
     clear hzl HZ
     obtain ⟨Z, hZ⟩ : ∃ Z, Z = z ++ [cc] := ⟨_, rfl⟩
     have NZ := Aside0.mk hZ
     rw [← hZ] at HV
     clear hZ
     go_wp2_with (first | ((with_reducible refine gate_builtin (b := .append) (xs := #[.tmp 49, .tmp 51]) rfl ?_); at_builtin; refine Kd.R_append (Kd.int .u64) (w0 := w) w.heap.size rfl (.tmp 49) (.tmp 51) 23 36 (.int .u64 0) 8 rfl Tryd.underlying23 iW rfl (by decide) (by omega) _ z cc [.int .u64 cc] (fun _ => True) (fun _ => False) rfl rfl rfl (fun _ hk => hk.elim) (fun _ _ => trivial) HO.out HB.out (below_size HB.out) HZL.out ?_; intro v1 w1 ho hb hg hat; rw [← NZ.out] at ho; obtain ⟨A2, c2, rfl⟩ := Kd.R_slice ho; have HO2 := Aside0.mk ho; have HB2 := Aside0.mk hb; clear HO HB ho hb hg hat) | (go_at_call 42; refine (trim1 _ _ Z _ HV.out.1 (R_C HO2.out) (R_cap HO2.out)).mono ?_; rintro e w' ⟨rfl, rfl⟩))
     go_ret
     refine ⟨_, rfl, ?_, HB2.out⟩
     have h5 := R_can HO2.out HV.out.1
     rw [HV.out.2] at h5
     rw [HV.out.2]
     exact h5
 ·rw [if_neg hw] at h; cases h
end Go.Proofs.YtkkkbalefnileaaDoor.Ex
/- words.from: a row's indices and words, from the highest on: what the iterator hands to a loop over it. -/
namespace Go.Proofs.YtkkkbalefnileaaDoor.Ex
open Go.RowKit Go.Shelf Go.Proofs.YtkkkbalefnileaaDoorW.PrintWords Go.Proofs.YtkkkbalefnileaaDoorW.PrintLast Go.Proofs.YtkkkbalefnileaaDoorW.PrintMore
set_option linter.unusedVariables false
set_option linter.unusedSimpArgs false
attribute [local go_sem] Oper.semAt_some

/-- The indices below n, from the highest on. -/
def downs (n : Nat) : List (Fin n) := List.ofFn fun j : Fin n => (⟨n - 1 - j.1, by have := j.2; omega⟩ : Fin n)
theorem downs_length (n : Nat) : (downs n).length = n := by simp [downs]
theorem downs_at (n k : Nat) (h : k < n) : (downs n)[k]'(by rw [downs_length]; exact h) = ⟨n - 1 - k, by omega⟩ := by simp [downs]
theorem downs_take (n k : Nat) (h : k < n) : (downs n).take (k + 1) = (downs n).take k ++ [⟨n - 1 - k, by omega⟩] := by
  rw [List.take_succ_eq_append_getElem (by rw [downs_length]; exact h), downs_at n k h]
/-- What a round keeps: what lay below n₀, and the box Bs. -/
def KeepB (n₀ Bs : Nat) (W W' : World) : Prop := Below n₀ W W' ∧ W'.heap[Bs]? = W.heap[Bs]?
theorem KeepB.refl (n₀ Bs : Nat) (W : World) : KeepB n₀ Bs W W := ⟨Below.refl _ _, rfl⟩
theorem KeepB.trans {n₀ Bs : Nat} {A B C : World} (h : KeepB n₀ Bs A B) (k : KeepB n₀ Bs B C) : KeepB n₀ Bs A C := ⟨h.1.trans k.1, k.2.trans h.2⟩
/-- A word of a row. -/
def wd (l : List Int) (i : Nat) : Int := l.getD i 0
/-- What a loop over a row's words is handed. -/
def encW (l : List Int) (x : Fin l.length) : Array Value := #[.int .i64 (x.1 : Int), .int .u64 (wd l x.1)]
set_option maxRecDepth 100000 in
set_option maxHeartbeats 2000000 in
theorem from1_in (F : Fence) (n : Nat) (hf : F.fn 106) (hro : F.round = none) (hn : 1 ≤ n) (lp Bs : Nat) (A0 : Option Addr) (c0 : Nat) (l0 : List Int) (w0 : World) (hr0 : Kd.C (Kd.int .u64) w0 A0 l0.length l0) (J Jx : List (Fin l0.length) → World → Prop)
    (hY : ∀ pre x W, J pre W → pre.length < l0.length → YieldAt F (n - 1) Tryd.prog lp (encW l0 x) W fun e W' =>
      (e = .returned (.bool true) ∧ J (pre ++ [x]) W' ∧ KeepB w0.heap.size Bs W W') ∨ (e = .returned (.bool false) ∧ Jx (pre ++ [x]) W'))
    (W : World) (hW : Below w0.heap.size w0 W) (hBs : Boxed W Bs 22 (.slice A0 l0.length c0)) (h0 : J [] W) :
    CallsIn F n Tryd.prog 106 #[.func (.yield lp) #[] #[], .pointer (some ⟨Bs, 0, none⟩)] W fun e W' => (∃ v, e = .returned v) ∧
      ((∃ ys, ys = downs l0.length ∧ J ys W') ∨ (∃ pre, (∃ k, k ≤ l0.length ∧ pre = (downs l0.length).take k) ∧ Jx pre W')) := by
  have hlen : l0.length ≤ 9223372036854775807 := hr0.2.1
  have HR := Aside0.mk hr0
  clear hr0
  have hc := hBs.cell
  refine callsIn_of_wp Tryd.func106 rfl hf ?_ hro
  simp only [Tryd.ntmps106, List.size_toArray, List.length_cons, List.length_nil, Nat.reduceAdd, Nat.reduceSub, Array.replicate_succ, Array.replicate_zero, List.push_toArray, List.append_toArray, List.nil_append, List.cons_append]
  gi_wp2
  gi_loopw [3] (fun i wr => ∃ k : Nat, k ≤ l0.length ∧ i = .int .i64 ((l0.length : Int) - 1 - k) ∧ J ((downs l0.length).take k) wr ∧ Below w0.heap.size w0 wr ∧ Boxed wr Bs 22 (.slice A0 l0.length c0))
    (fun i _ => ((intOf i) + 1).toNat)
  case atStart => exact ⟨0, Nat.zero_le _, by go_num, by simpa using h0, hW, hBs⟩
  case round =>
    clear hc hBs h0
    obtain ⟨k, hk, rfl, hJs, hnx, hbx⟩ := hrel
    have hc := hbx.cell
    by_cases hlt : k < l0.length
    · have hC := Kd.C_below HR.out hnx
      obtain ⟨ad, rfl, hx0⟩ := Kd.at_int hC ((l0.length : Int) - 1 - k) (by omega) (by omega)
      have e0 : rd l0 ((l0.length : Int) - 1 - k) = l0.getD (l0.length - 1 - k) 0 := by unfold rd; congr 1; omega
      have e1 : ((l0.length : Int) - 1 - k).toNat = l0.length - 1 - k := by omega
      rw [e0, e1] at hx0
      obtain ⟨fn, tmps, assign, body, hy, hR⟩ := hY _ ⟨l0.length - 1 - k, by omega⟩ wr hJs (by rw [List.length_take, downs_length]; omega)
      unfold encW wd at hy
      dsimp only at hy
      have e2 : (((l0.length - 1 - k : Nat)) : Int) = (l0.length : Int) - 1 - k := by omega
      rw [e2] at hy
      obtain ⟨x, hx⟩ : ∃ x, x = l0.getD (l0.length - 1 - k) 0 := ⟨_, rfl⟩
      rw [← hx] at hy hx0
      have HX := Aside0.mk hx
      clear hx
      have i1 : (0 : Int) ≤ (l0.length : Int) - 1 - k := by omega
      have i2 : (l0.length : Int) - 1 - k < (l0.length : Int) := by omega
      clear hC e0
      gi_wp2
      refine hR.mono ?_
      rintro e W3 (⟨rfl, hJ3, hk3⟩ | ⟨rfl, hJx3⟩)
      · gi_wp2
        go_roundw
        case rel => exact ⟨k + 1, by omega, by go_num, by rw [downs_take _ _ hlt]; exact hJ3, hnx.trans hk3.1, hk3.2.trans hbx⟩
        case measure => simp [intOf]; omega
      · gi_wp2
        refine bodyPost_ret (results_none rfl _ _ _) rfl ?_
        exact ⟨⟨_, rfl⟩, .inr ⟨_, ⟨k + 1, by omega, (downs_take _ _ hlt).symm⟩, hJx3⟩⟩
    · obtain rfl : k = l0.length := by omega
      gi_wp2
      go_end0
      exact ⟨⟨_, rfl⟩, .inl ⟨_, rfl, by rw [List.take_of_length_le (by rw [downs_length]; exact Nat.le_refl _)] at hJs; exact hJs⟩⟩
set_option maxHeartbeats 1000000 in
theorem from_in (F : Fence) (n : Nat) (hf : F.fn 95) (hro : F.round = none) (a : Option Addr) (len cap : Nat) (w : World) :
    CallsIn F n Tryd.prog 95 #[.slice a len cap] w fun e w' => e = .returned (.func (.func 106) #[] #[.pointer (some ⟨w.heap.size, 0, none⟩)]) ∧ w' = w.alloc (.cells #[.slice a len cap] 22) := by
  refine callsIn_of_wp Tryd.func95 rfl hf ?_ hro
  simp only [Tryd.ntmps95, List.size_toArray, List.length_cons, List.length_nil, Nat.reduceAdd, Nat.reduceSub, Array.replicate_succ, Array.replicate_zero, List.push_toArray, List.append_toArray, List.nil_append, List.cons_append]
  gi_wp2
  go_ret
  exact ⟨rfl, rfl⟩
theorem from_stops (F : Fence) (n : Nat) (hf : F.fn 106) (hro : F.round = none) (hn : 1 ≤ n) (Bs : Nat) (A0 : Option Addr) (c0 : Nat) (l0 : List Int) (w0 : World) (hr0 : Kd.C (Kd.int .u64) w0 A0 l0.length l0) (w : World)
    (hw : Below w0.heap.size w0 w) (hBs : Boxed w Bs 22 (.slice A0 l0.length c0)) :
    SeqStopsK F n Tryd.prog 106 #[.pointer (some ⟨Bs, 0, none⟩)] (encW l0) (KeepB w0.heap.size Bs) (fun ys => ys = downs l0.length) (fun pre => ∃ k, k ≤ l0.length ∧ pre = (downs l0.length).take k) l0.length w := fun l J Jx W hW _ _ hY h0 => by
  have hB' : Boxed W Bs 22 (.slice A0 l0.length c0) := (hW.block Bs hBs.lt).trans hBs
  exact from1_in F n hf hro hn l Bs A0 c0 l0 w0 hr0 J Jx hY W (below_step hw hW) hB' h0
end Go.Proofs.YtkkkbalefnileaaDoor.Ex
/- A row in a block of its own; loops over words.from; words.DivWord. -/
namespace Go.Proofs.YtkkkbalefnileaaDoor.Ex
open Go.RowKit Go.Shelf Go.Proofs.YtkkkbalefnileaaDoorW.PrintWords Go.Proofs.YtkkkbalefnileaaDoorW.PrintLast Go.Proofs.YtkkkbalefnileaaDoorW.PrintMore
set_option linter.unusedVariables false
set_option linter.unusedSimpArgs false
attribute [local go_sem] Oper.semAt_some

/-- Block g is a row of words. -/
def RowB (W : World) (g : Nat) (l : List Int) : Prop := W.heap[g]? = some (.cells (nums .u64 l).toArray 36 (0, 0))
theorem RowB.lt {W : World} {g : Nat} {l : List Int} (h : RowB W g l) : g < W.heap.size := (Array.getElem?_eq_some_iff.1 h).1
theorem RowB.cell {W : World} {g : Nat} {l : List Int} (h : RowB W g l) (i : Nat) (hi : i < l.length) : W.cell? ⟨g, i, none⟩ = some (.int .u64 (l.getD i 0)) := by
  rw [blk_cell h]
  simp [nums, List.getD_eq_getElem?_getD, List.getElem?_eq_getElem hi]
theorem RowB.frozen {W : World} {g : Nat} {l : List Int} (h : RowB W g l) (i : Nat) : W.frozen? ⟨g, i, none⟩ = false := blk_frozen h i
theorem RowB.set {W : World} {g : Nat} {l : List Int} (h : RowB W g l) (i : Nat) (x : Int) : RowB (W.setCell ⟨g, i, none⟩ (.int .u64 x)) g (l.set i x) := by
  have h1 := blk_set h i (.int .u64 x)
  unfold RowB
  rw [h1]
  simp [nums, List.map_set]
theorem RowB.far {W : World} {g : Nat} {l : List Int} (h : RowB W g l) {p : Addr} (hp : g ≠ p.block) (u : Value) : RowB (W.setCell p u) g l := blk_far h hp u
theorem RowB.alloc {W : World} {g : Nat} {l : List Int} (h : RowB W g l) (o : Obj) : RowB (W.alloc o) g l := (below_alloc (Below.refl _ _) o).block g h.lt |>.trans h
theorem RowB.below {W W' : World} {g : Nat} {l : List Int} (h : RowB W g l) (hb : Below W.heap.size W W') : RowB W' g l := (hb.block g h.lt).trans h
theorem RowB.made (W : World) (n : Nat) : RowB (W.alloc (.cells (madeCells #[.int .u64 0] n) 36)) W.heap.size (List.replicate n 0) := by
  unfold RowB
  rw [heap_alloc_new]
  congr 2
  apply Array.ext
  · simp [nums, madeCells]
  · intro i h1 h2
    simp [nums, madeCells, Nat.mod_one]
theorem RowB.own {W : World} {g : Nat} {l : List Int} (h : RowB W g l) (base : Nat) (hb : base ≤ g) (hl : l.length ≤ 4096) : Kd.R (Kd.int .u64) 36 W base (fun _ => True) (.slice (some ⟨g, 0, none⟩) l.length l.length) l := by
  refine Kd.R_of_own (enc := Value.int .u64) (h1 := fun _ => rfl) ⟨by simp [encs], .inr ⟨g, l.length, (nums .u64 l).toArray, rfl, hb, h, Nat.le_refl _, by unfold maxLen; omega, by simp [nums], ?_⟩⟩ (fun _ _ => trivial)
  simp only [nums, encs, Nat.mul_one]
  rw [List.take_of_length_le (by simp)]
theorem Boxed.below {W W' : World} {B : Nat} {t : TypeId} {v : Value} (h : Boxed W B t v) (hb : Below W.heap.size W W') : Boxed W' B t v := (hb.block B h.lt).trans h
theorem Boxed.far {W : World} {B : Nat} {t : TypeId} {v : Value} (h : Boxed W B t v) {p : Addr} (hp : B ≠ p.block) (u : Value) : Boxed (W.setCell p u) B t v := (Below.heap_setCell W p u B hp).trans h
/-- A step for each word, from the highest on. -/
def downL (g : Nat → Int → Int × Int) : Nat → Int → List Int × Int
  | 0, c => ([], c)
  | n + 1, c => ((downL g n (g n c).2).1 ++ [(g n c).1], (downL g n (g n c).2).2)
theorem downL_length (g : Nat → Int → Int × Int) : ∀ n c, (downL g n c).1.length = n
  | 0, _ => rfl
  | n + 1, c => by simp [downL, downL_length g n]
/-- One step on a row and what is carried. -/
def downS (g : Nat → Int → Int × Int) (s : List Int × Int) (i : Nat) : List Int × Int := (s.1.set i (g i s.2).1, (g i s.2).2)
def downF (g : Nat → Int → Int × Int) (s : List Int × Int) (l : List Nat) : List Int × Int := l.foldl (downS g) s
theorem downF_snoc (g : Nat → Int → Int × Int) (s : List Int × Int) (l : List Nat) (i : Nat) : downF g s (l ++ [i]) = downS g (downF g s l) i := by simp [downF]
theorem downF_length (g : Nat → Int → Int × Int) (l : List Nat) : ∀ s, (downF g s l).1.length = s.1.length := by
  induction l with
  | nil => exact fun _ => rfl
  | cons i l ih => intro s; show (downF g (downS g s i) l).1.length = _; rw [ih]; simp [downS]
theorem downs_vals (n : Nat) : (downs n).map (·.1) = (List.range n).reverse := by
  apply List.ext_getElem
  · simp [downs]
  · intro i h1 h2
    simp [downs]
theorem downF_all (g : Nat → Int → Int × Int) : ∀ n (z : List Int) c, n ≤ z.length → downF g (z, c) (List.range n).reverse = ((downL g n c).1 ++ z.drop n, (downL g n c).2)
  | 0, z, c, _ => by simp [downF, downL]
  | n + 1, z, c, h => by
    rw [List.range_succ, List.reverse_append]
    show downF g (downS g (z, c) n) (List.range n).reverse = _
    unfold downS
    rw [downF_all g n _ _ (by simp; omega)]
    simp only [downL]
    congr 1
    rw [List.append_assoc]
    congr 1
    rw [List.drop_eq_getElem_cons (l := z.set n _) (by simp; omega)]
    simp [List.drop_set]
theorem downF_downs (g : Nat → Int → Int × Int) (z : List Int) (c : Int) (n : Nat) (h : z.length = n) : downF g (z, c) ((downs n).map (·.1)) = downL g n c := by
  rw [downs_vals, downF_all g n z c (by omega), List.drop_of_length_le (by omega), List.append_nil]
/-- A word of a quotient, and the rest. -/
def divS (w : Int) (l : List Int) (i : Nat) (c : Int) : Int × Int := ((c * W64 + l.getD i 0) / w, (c * W64 + l.getD i 0) % w)
theorem downF_div (w : Int) (l : List Int) (hw : 0 < w) (is : List Nat) : ∀ z c, 0 ≤ c → c < w → 0 ≤ (downF (divS w l) (z, c) is).2 ∧ (downF (divS w l) (z, c) is).2 < w := by
  induction is with
  | nil => exact fun z c h1 h2 => ⟨h1, h2⟩
  | cons i is ih => exact fun z c h1 h2 => ih _ _ (Int.emod_nonneg _ (by omega)) (Int.emod_lt_of_pos _ hw)
def words_DivWord.f (l0 : List Int) (a1 a2 : Int) : Option (List Int × Int × Int) :=
  if inW l0 ∧ isW a1 ∧ isW a2 then
    if l0.length ≤ 4096 then
      if a1 = 0 then some ([], 0, 5) else if a1 ≤ a2 then some ([], 0, 1) else some ((downL (divS a1 l0) l0.length a2).1, (downL (divS a1 l0) l0.length a2).2, 0)
    else some ([], 0, 2)
  else none
theorem all_one' (l : List Int) : ([l].all fun x => decide (x.length ≤ 4096)) = decide (l.length ≤ 4096) := by simp
/-- No defer statement. -/
def noDefer (ops : Array Oper) : Prop := ∀ (i : Nat) (o : Oper), ops[i]? = some o → ∀ c, o.op ≠ .defer c
def isDefer : Op → Bool
  | .defer _ => true
  | _ => false
theorem noDefer_of {l : List Oper} (h : (l.all fun o => !isDefer o.op) = true) : noDefer l.toArray := by
  intro i o ho c hc
  have h1 := List.all_eq_true.1 h o (List.mem_of_getElem? (by simpa using ho))
  rw [hc] at h1
  simp [isDefer] at h1
theorem oper_round {l n : Nat} {P : Program} {Q : Exit → Act → World → Prop} {o : Oper} {a : Act} {w : World} {K K' : Act → World → Prop} (hd : ∀ c, o.op ≠ .defer c) (hk : ∀ a w, K a w → K' a w) (h : o.wpIn Fence.wide n P a w K Q) : o.wpIn (Fence.wide.inRound l) n P a w K' Q := by
  have h2 := Oper.wpIn_mono hk h
  unfold Oper.wpIn at h2 ⊢
  refine ⟨h2.1, ?_⟩
  have h3 := h2.2
  rw [Oper.semAt_plain _ _ _ hd] at h3 ⊢
  generalize (execOp a.eval o).run P w = r at h3 ⊢
  cases r with
  | ok x w' => cases x <;> exact h3
  | halt x w' => cases x <;> exact h3
theorem any_round {l n : Nat} {P : Program} {md : Region.Mode} {ops : Array Oper} {Q : Exit → Act → World → Prop} (hd : noDefer ops) : ∀ fuel listed a w, wpAnyIn Fence.wide n P md ops Q fuel listed a w → wpAnyIn (Fence.wide.inRound l) n P md ops Q fuel listed a w := by
  intro fuel
  induction fuel with
  | zero => exact fun _ _ _ h => h
  | succ fuel ih =>
    rintro listed a w ⟨h0, h1⟩
    refine ⟨h0, fun i hi => ?_⟩
    have h2 := h1 i hi
    unfold wpOpIn at h2 ⊢
    cases ho : ops[i]? with
    | none => rw [ho] at h2; exact ih _ _ _ h2
    | some o =>
      rw [ho] at h2
      simp only at h2 ⊢
      by_cases hw : Region.wanted o (yielded ops a.tmps) = true
      · rw [if_pos hw] at h2 ⊢
        exact oper_round (hd i o ho) (fun a w => ih _ a w) h2
      · rw [if_neg hw] at h2 ⊢
        exact ⟨h2.1, ih _ _ _ h2.2⟩
set_option maxHeartbeats 2000000 in
theorem words_DivWord.calls (A0 : Option Addr) (c0 : Nat) (l0 : List Int) (a1 : Int) (a2 : Int) (r1 : List Int) (r2 : Int) (r3 : Int) (w : World) (hr0 : Kd.C (Kd.int .u64) w A0 l0.length l0) (hc0 : l0.length ≤ c0) (h : words_DivWord.f l0 a1 a2 = some (r1, r2, r3)) :
  Calls Tryd.prog 72 #[.slice A0 l0.length c0, .int .u64 a1, .int .u64 a2] w fun e w' => ∃ v0_ : Value, e = .returned (.tuple #[v0_, .int .u64 r2, .int .i64 r3]) ∧ Kd.R (Kd.int .u64) 36 w' w.heap.size (fun _ => True) v0_ r1 ∧ Below w.heap.size w w' := by
 unfold words_DivWord.f at h
 by_cases hw : inW l0 ∧ isW a1 ∧ isW a2
 ·rw [if_pos hw] at h
  obtain ⟨hw0, hw1, hw2⟩ := hw
  have HR0 := Aside0.mk hr0
  clear hr0
  refine (callsIn_wide (n := 9)).1 ?_
  refine callsIn_of_wp_marks Tryd.func72 rfl trivial ?_ rfl
  simp only [Tryd.ntmps72, List.size_toArray, List.length_cons, List.length_nil, Nat.reduceAdd, Nat.reduceSub, Array.replicate_succ, Array.replicate_zero, List.push_toArray, List.append_toArray, List.nil_append, List.cons_append]
  gi_wp2_with fail
  have b0 := ((Boxed.new w 36 (.int .u64 a1)).alloc (.cells #[.int .u64 a2] 36)).alloc (.cells #[.slice A0 l0.length c0] 22)
  have b1 := (Boxed.new (w.alloc (.cells #[.int .u64 a1] 36)) 36 (.int .u64 a2)).alloc (.cells #[.slice A0 l0.length c0] 22)
  obtain ⟨q0, q1, b2, hB⟩ := box2 w (.int .u64 a1) (.int .u64 a2) #[.slice A0 l0.length c0] 36 36 22
  rw [World.size_alloc] at b1
  have C0 := Aside0.mk (Kd.C_below HR0.out hB)
  have HB := Aside0.mk hB
  clear hB q0 q1
  generalize (((w.alloc (.cells #[.int .u64 a1] 36)).alloc (.cells #[.int .u64 a2] 36)).alloc (.cells #[.slice A0 l0.length c0] 22)) = W at *
  refine ⟨trivial, (callsIn_wide.2 (words_few.calls (some ⟨w.heap.size + 1 + 1, 0, none⟩) 1 [l0] (decide (l0.length ≤ 4096)) _ (C_one C0.out hc0 b2) (Nat.le_refl 1) (by unfold words_few.f; rw [all_one']))).mono ?_⟩
  rintro e w' ⟨rfl, hd⟩
  have b0' := Boxed.below b0 hd.below
  have b1' := Boxed.below b1 hd.below
  have HB' := Aside0.mk (below_step HB.out hd.below)
  clear b0 b1 b2 C0 HB hd
  clear W
  have g0 := b0'.cell
  have g1 := b1'.cell
  by_cases hc : l0.length ≤ 4096
  ·rw [if_pos hc] at h
   have hcb : decide (l0.length ≤ 4096) = true := decide_eq_true hc
   by_cases h0 : a1 = 0
   ·rw [if_pos h0] at h
    cases h
    have h0b : (a1 == 0) = true := beq_iff_eq.2 h0
    subst h0
    gi_wp2
    exact ⟨_, results_tmp3 rfl _ _ _, _, rfl, Kd.R_nil _ _ _ _ _, HB'.out⟩
   ·rw [if_neg h0] at h
    have h0b : (a1 == 0) = false := beq_eq_false_iff_ne.2 h0
    by_cases h1 : a1 ≤ a2
    ·rw [if_pos h1] at h
     cases h
     have h1b : decide (a1 ≤ a2) = true := decide_eq_true h1
     gi_wp2
     exact ⟨_, results_tmp3 rfl _ _ _, _, rfl, Kd.R_nil _ _ _ _ _, HB'.out⟩
    ·rw [if_neg h1] at h
     cases h
     have h1b : decide (a1 ≤ a2) = false := decide_eq_false h1
     have hmk := print_make (P := Tryd.prog) 22 36 .u64 8 Tryd.underlying22 iW (by decide) l0.length (by omega)
     gi_wp2_with fail
     refine ⟨trivial, (from_in Fence.wide 8 trivial rfl _ _ _ _).mono ?_⟩
     rintro e w2 ⟨rfl, rfl⟩
     have r0 := ((RowB.made w' l0.length).alloc (.cells #[.slice (some ⟨w'.heap.size, 0, none⟩) l0.length l0.length] 22)).alloc (.cells #[.slice A0 l0.length c0] 22)
     have bz := (Boxed.new (w'.alloc (.cells (madeCells #[.int .u64 0] l0.length) 36)) 22 (.slice (some ⟨w'.heap.size, 0, none⟩) l0.length l0.length)).alloc (.cells #[.slice A0 l0.length c0] 22)
     have bf := Boxed.new ((w'.alloc (.cells (madeCells #[.int .u64 0] l0.length) 36)).alloc (.cells #[.slice (some ⟨w'.heap.size, 0, none⟩) l0.length l0.length] 22)) 22 (.slice A0 l0.length c0)
     have b0 := ((b0'.alloc (.cells (madeCells #[.int .u64 0] l0.length) 36)).alloc (.cells #[.slice (some ⟨w'.heap.size, 0, none⟩) l0.length l0.length] 22)).alloc (.cells #[.slice A0 l0.length c0] 22)
     have b1 := ((b1'.alloc (.cells (madeCells #[.int .u64 0] l0.length) 36)).alloc (.cells #[.slice (some ⟨w'.heap.size, 0, none⟩) l0.length l0.length] 22)).alloc (.cells #[.slice A0 l0.length c0] 22)
     have HB := below_alloc (below_alloc (below_alloc HB'.out (.cells (madeCells #[.int .u64 0] l0.length) 36)) (.cells #[.slice (some ⟨w'.heap.size, 0, none⟩) l0.length l0.length] 22)) (.cells #[.slice A0 l0.length c0] 22)
     have hsz : (((w'.alloc (.cells (madeCells #[.int .u64 0] l0.length) 36)).alloc (.cells #[.slice (some ⟨w'.heap.size, 0, none⟩) l0.length l0.length] 22)).alloc (.cells #[.slice A0 l0.length c0] 22)).heap.size = w'.heap.size + 3 := by simp
     simp only [World.size_alloc] at bz bf
     have hsw := below_size HB'.out
     have l0' := b0'.lt
     have l1' := b1'.lt
     clear b0' b1' HB' g0 g1 hmk
     simp only [World.size_alloc]
     obtain ⟨g, hg⟩ : ∃ g, g = w'.heap.size := ⟨_, rfl⟩
     rw [← hg] at r0 bz bf b0 b1 HB hsz hsw l0' l1' ⊢
     have HG := Aside0.mk hg
     clear hg
     generalize (((w'.alloc (.cells (madeCells #[.int .u64 0] l0.length) 36)).alloc (.cells #[.slice (some ⟨g, 0, none⟩) l0.length l0.length] 22)).alloc (.cells #[.slice A0 l0.length c0] 22)) = W at *
     gi_wp2_with fail
     have c0' := HR0.out
     refine wpIn_rangeFunc_ownG (n := 9) rfl (by decide) (gf := 106) (lb := #[.pointer (some ⟨g + 1 + 1, 0, none⟩)]) rfl trivial (enters_of Tryd.func106 (by kernel_rfl) rfl)
      (from_stops Fence.wide 8 trivial rfl (by decide) (g + 1 + 1) A0 c0 l0 w c0' W HB bf) KeepB.trans ?hkb (Below.refl _ _) (fun (_ : Fin l0.length) => rfl)
      (fun (pre : List (Fin l0.length)) W => (RowB W g (downF (divS a1 l0) (List.replicate l0.length 0, a2) (pre.map Fin.val)).1 ∧ Boxed W (g + 1) 22 (.slice (some ⟨g, 0, none⟩) l0.length l0.length) ∧ Boxed W (g + 1 + 1) 22 (.slice A0 l0.length c0) ∧ Boxed W w.heap.size 36 (.int .u64 a1) ∧ Boxed W (w.heap.size + 1) 36 (.int .u64 (downF (divS a1 l0) (List.replicate l0.length 0, a2) (pre.map Fin.val)).2)) ∧ Below w.heap.size w W)
      (fun _ _ _ => False)
      (OwnFrom.and ?own (ownFrom_below (Nat.le_refl _) (by rw [hsz]; omega)))
      (fun _ _ _ _ _ hs _ _ => hs)
      ⟨⟨r0, bz, bf, b0, b1⟩, HB⟩
      (fun (x : Fin l0.length) => { tmps := #[.slice A0 l0.length c0, .int .u64 a1, .int .u64 a2, undef, .pointer (some ⟨w.heap.size, 0, none⟩), .pointer (some ⟨w.heap.size + 1, 0, none⟩), .slice none 0 0, .int .u64 0, .int .i64 0, .pointer (some ⟨g + 1, 0, none⟩), .int .i64 (x.1 : Int), .int .u64 (wd l0 x.1), .bool false, .slice A0 l0.length c0, .slice (some ⟨w.heap.size + 1 + 1, 0, none⟩) 1 1, .bool true, .bool false, .bool false, .int .u64 a1, .bool false, .bool false, .int .u64 a2, .int .u64 a1, .bool false, .slice A0 l0.length c0, .int .i64 (l0.length : Int), .slice (some ⟨g, 0, none⟩) l0.length l0.length, .slice A0 l0.length c0, .func (.func 106) #[] #[.pointer (some ⟨g + 1 + 1, 0, none⟩)], .int .i64 (x.1 : Int), .int .u64 (wd l0 x.1), undef, undef, undef, undef, undef, undef, undef, undef, undef, undef, undef, undef], defers := [] }) ?assign ?body ?done ?stop
     case hkb =>
      intro W1 l o o' hl h ho hw
      exact ⟨belowK_b (w := W) HB.size W1 l o o' hl h ho hw, World.putObj_heap_other (by omega)⟩
     case own =>
      rintro s X Y row ⟨h1, h2, h3, h4, h5⟩ hG hr
      have hne : ∀ B, B < W.heap.size → some B ≠ row := fun B hB e => by have := (hr B e.symm).1; omega
      exact ⟨blk_grown h1 hG (hne _ (by omega)), h2.kept hG (hne _ (by omega)), h3.kept hG (hne _ (by omega)), h4.kept hG (hne _ (by omega)), h5.kept hG (hne _ (by omega))⟩
     case assign =>
      intro l x W K hK
      unfold encW
      gi_wp2
      exact hK
     case body =>
      clear r0 bz bf b0 b1 HB
      rintro l pre x W1 ⟨⟨r0, bz, bf, b0, b1⟩, HB⟩ hlen
      have hmx : Tryd.prog.follows .mixedOrders = true := by kernel_rfl
      have hx := x.2
      have st_len : (downF (divS a1 l0) (List.replicate l0.length 0, a2) (pre.map Fin.val)).1.length = l0.length := by rw [downF_length]; simp
      obtain ⟨hlt1, hlt2⟩ : 0 ≤ (downF (divS a1 l0) (List.replicate l0.length 0, a2) (pre.map Fin.val)).2 ∧ (downF (divS a1 l0) (List.replicate l0.length 0, a2) (pre.map Fin.val)).2 < a1 := downF_div a1 l0 (by have := hw1.1; omega) _ _ _ hw2.1 h1
      have hstep : downF (divS a1 l0) (List.replicate l0.length 0, a2) ((pre ++ [x]).map Fin.val) = downS (divS a1 l0) (downF (divS a1 l0) (List.replicate l0.length 0, a2) (pre.map Fin.val)) x.1 := by rw [List.map_append]; exact downF_snoc _ _ _ _
      have HS := Aside0.mk hstep
      clear hstep
      obtain ⟨st, hst⟩ : ∃ st, st = downF (divS a1 l0) (List.replicate l0.length 0, a2) (pre.map Fin.val) := ⟨_, rfl⟩
      rw [← hst] at r0 b1 st_len hlt1 hlt2 HS
      clear hst
      obtain ⟨z, c⟩ := st
      simp only at r0 b1 st_len hlt1 hlt2
      have hdiv := fun W => CallsIn.inRound l ((callsIn_wide (n := 6)).2 (div64 c (wd l0 x.1) a1 hlt1 hlt2 (isW_get hw0 x.1) hw1.2 W))
      obtain ⟨i, hi⟩ := x
      simp only at hx hdiv
      have g0 := b0.cell
      have g1 := b1.cell
      have gz := bz.cell
      have gx := r0.cell i (by omega)
      have fx := r0.frozen i
      have f1 := b1.frozen
      have i0 : (0 : Int) ≤ (i : Int) := by omega
      have i1 : (i : Int) < (l0.length : Int) := by omega
      gi_wp2
      rename_i Q1 K1 a9 Q2
      obtain ⟨q, hq⟩ : ∃ q, q = (c * W64 + wd l0 i) / a1 := ⟨_, rfl⟩
      obtain ⟨r, hrr⟩ : ∃ r, r = (c * W64 + wd l0 i) % a1 := ⟨_, rfl⟩
      have hQK : ∀ a' nd, (Exit.inBlock 2 Q2) .normal a' (((W1.drewN nd).setCell ⟨g, i, none⟩ (.int .u64 q)).setCell ⟨w.heap.size + 1, 0, none⟩ (.int .u64 r)) := by
       intro a' nd
       have hb1 : Below w.heap.size W1 (W1.drewN nd) := pw_below_drewN (Below.refl _ _) nd
       have hb2 := (hb1.setCell (p := ⟨g, i, none⟩) hsw (.int .u64 q)).setCell (p := ⟨w.heap.size + 1, 0, none⟩) (by show w.heap.size ≤ w.heap.size + 1; omega) (.int .u64 r)
       have hko : KeepsOthers W1 (((W1.drewN nd).setCell ⟨g, i, none⟩ (.int .u64 q)).setCell ⟨w.heap.size + 1, 0, none⟩ (.int .u64 r)) := (⟨Nat.le_refl _, fun _ _ h _ => h⟩ : KeepsOthers W1 (W1.drewN nd)).trans ((KeepsOthers.setCell _ _ _).trans (KeepsOthers.setCell _ _ _))
       refine ⟨hko.from _, ⟨hb2, ?_⟩, ⟨?_, ?_, ?_, ?_, ?_⟩, HB.trans hb2⟩
       ·exact (Below.heap_setCell _ _ _ _ (by show g + 1 + 1 ≠ w.heap.size + 1; omega)).trans (Below.heap_setCell _ _ _ _ (by show g + 1 + 1 ≠ g; omega))
       ·rw [HS.out]
        have h1 := (RowB.far (show RowB ((W1.drewN nd).setCell ⟨g, i, none⟩ (.int .u64 q)) g (z.set i q) from RowB.set (show RowB (W1.drewN nd) g z from r0) i q) (p := ⟨w.heap.size + 1, 0, none⟩) (by show g ≠ w.heap.size + 1; omega) (.int .u64 r))
        rw [hq] at h1 ⊢
        exact h1
       ·exact Boxed.far (Boxed.far (show Boxed (W1.drewN nd) (g + 1) _ _ from bz) (p := ⟨g, i, none⟩) (by show g + 1 ≠ g; omega) _) (p := ⟨w.heap.size + 1, 0, none⟩) (by show g + 1 ≠ w.heap.size + 1; omega) _
       ·exact Boxed.far (Boxed.far (show Boxed (W1.drewN nd) (g + 1 + 1) _ _ from bf) (p := ⟨g, i, none⟩) (by show g + 1 + 1 ≠ g; omega) _) (p := ⟨w.heap.size + 1, 0, none⟩) (by show g + 1 + 1 ≠ w.heap.size + 1; omega) _
       ·exact Boxed.far (Boxed.far (show Boxed (W1.drewN nd) w.heap.size _ _ from b0) (p := ⟨g, i, none⟩) (by show w.heap.size ≠ g; omega) _) (p := ⟨w.heap.size + 1, 0, none⟩) (by show w.heap.size ≠ w.heap.size + 1; omega) _
       ·rw [HS.out]
        have h1 := Boxed.set (.int .u64 r) (Boxed.far (show Boxed (W1.drewN nd) (w.heap.size + 1) _ _ from b1) (p := ⟨g, i, none⟩) (by show w.heap.size + 1 ≠ g; omega) (.int .u64 q))
        rw [hrr] at h1 ⊢
        exact h1
      have hQp : ∀ c a w, ¬ (Exit.inBlock 2 Q2) (.panic c) a w := fun c a w h => h
      rw [← hq, ← hrr] at hdiv
      clear hq hrr HS r0 bz bf b0 b1 HB HG hsw hlen hlt1 hlt2 c0' HR0 hw0 hw1 hw2 hc hcb h0 h0b h1b h1 a9 K1 Q1 hsz st_len
      clear_value Q2
      obtain ⟨Q3, hQ3⟩ : ∃ Q3, Q3 = Exit.inBlock 2 Q2 := ⟨_, rfl⟩
      rw [← hQ3] at hQK hQp ⊢
      clear hQ3
      have hn1 : g ≠ w.heap.size + 1 := by omega
      clear l1' l0'
      obtain ⟨B, hB⟩ : ∃ B, B = w.heap.size := ⟨_, rfl⟩
      rw [← hB] at hQK g0 g1 f1 hn1 ⊢
      clear hB
      obtain ⟨x, hx0⟩ : ∃ x, x = wd l0 i := ⟨_, rfl⟩
      rw [← hx0] at hdiv ⊢
      clear hx0
      refine wpIn_region_any hmx (any_round (noDefer_of rfl) _ _ _ _ ?_)
      change wpAnyIn _ _ _ _ _ _ _ _ _ (World.drew _)
      refine wpAnyIn_take (i := 1) (v := ?_) rfl rfl (by kernel_rfl) (by kernel_rfl) (by kernel_rfl) (fun c a w h => (hQp c _ w h).elim) ⟨Or.inl ⟨by rfl, ?y1⟩, fun _ => rfl⟩ ?_
      case y1 => (intro w; go_simp; try rfl)
      refine wpAnyIn_take (i := 3) (v := ?_) rfl rfl (by kernel_rfl) (by kernel_rfl) (by kernel_rfl) (fun c a w h => (hQp c _ w h).elim) ⟨Or.inl ⟨by rfl, ?y3⟩, fun _ => rfl⟩ ?_
      case y3 => (intro w; go_simp; try rfl)
      refine wpAnyIn_ready (rs := [0, 2, 4]) (by kernel_rfl) (by simp) ?_
      refine AllReadyIn.cons rfl (fun K hK => ?_) ?_
      ·go_simp
       refine hK _ _ ?_
       clear hK K
       refine wpAnyIn_ready (rs := [2, 4]) (by kernel_rfl) (by simp) ?_
       refine AllReadyIn.cons rfl (fun K hK => ?_) ?_
       ·go_simp
        refine hK _ _ ?_
        clear hK K
        refine wpAnyIn_ready (rs := [4]) (by kernel_rfl) (by simp) ?_
        refine AllReadyIn.cons rfl (fun K hK => ?_) ?_
        ·go_simp
         refine hK _ _ ?_
         clear hK K
         refine wpAnyIn_ready (rs := [5]) (by kernel_rfl) (by simp) ?_
         refine AllReadyIn.cons rfl (fun K hK => ?_) ?_
         ·go_simp
          refine ⟨trivial, (hdiv _).mono ?_⟩
          rintro e w' ⟨rfl, hd⟩
          obtain ⟨nd, rfl⟩ := hd
          refine hK _ _ ?_
          clear hK K
          refine wpAnyIn_take (i := 6) (v := ?_) rfl rfl (by kernel_rfl) (by kernel_rfl) (by kernel_rfl) (fun c a w h => (hQp c _ w h).elim) ⟨Or.inl ⟨by rfl, ?y6⟩, fun _ => rfl⟩ ?_
          case y6 => (intro w; go_simp; try rfl)
          refine wpAnyIn_take (i := 7) (v := ?_) rfl rfl (by kernel_rfl) (by kernel_rfl) (by kernel_rfl) (fun c a w h => (hQp c _ w h).elim) ⟨Or.inl ⟨by rfl, ?y7⟩, fun _ => rfl⟩ ?_
          case y7 => (intro w; go_simp; try rfl)
          refine wpAnyIn_take (i := 8) (v := ?_) rfl rfl (by kernel_rfl) (by kernel_rfl) (by kernel_rfl) (fun c a w h => (hQp c _ w h).elim) ⟨Or.inl ⟨by rfl, ?y8⟩, fun _ => rfl⟩ ?_
          case y8 => (intro w; go_simp; try rfl)
          refine wpAnyIn_take (i := 9) (v := ?_) rfl rfl (by kernel_rfl) (by kernel_rfl) (by kernel_rfl) (fun c a w h => (hQp c _ w h).elim) ⟨Or.inl ⟨by rfl, ?y9⟩, fun _ => rfl⟩ ?_
          case y9 => (intro w; go_simp; try rfl)
          refine wpAnyIn_ready (rs := [10]) (by kernel_rfl) (by simp) ?_
          refine AllReadyIn.cons rfl (fun K hK => ?_) ?_
          ·go_simp
           refine hK _ _ ?_
           clear hK K
           refine wpAnyIn_ready (rs := [11]) (by kernel_rfl) (by simp) ?_
           refine AllReadyIn.cons rfl (fun K hK => ?_) ?_
           ·go_simp
            refine hK _ _ ?_
            clear hK K
            refine wpAnyIn_done (by kernel_rfl) ?_ _
            exact hQK _ _
           exact AllReadyIn.nil
          exact AllReadyIn.nil
         exact AllReadyIn.nil
        exact AllReadyIn.nil
       refine AllReadyIn.cons rfl (fun K hK => ?_) ?_
       ·go_simp
        refine hK _ _ ?_
        clear hK K
        refine wpAnyIn_ready (rs := [2]) (by kernel_rfl) (by simp) ?_
        refine AllReadyIn.cons rfl (fun K hK => ?_) ?_
        ·go_simp
         refine hK _ _ ?_
         clear hK K
         refine wpAnyIn_ready (rs := [5]) (by kernel_rfl) (by simp) ?_
         refine AllReadyIn.cons rfl (fun K hK => ?_) ?_
         ·go_simp
          refine ⟨trivial, (hdiv _).mono ?_⟩
          rintro e w' ⟨rfl, hd⟩
          obtain ⟨nd, rfl⟩ := hd
          refine hK _ _ ?_
          clear hK K
          refine wpAnyIn_take (i := 6) (v := ?_) rfl rfl (by kernel_rfl) (by kernel_rfl) (by kernel_rfl) (fun c a w h => (hQp c _ w h).elim) ⟨Or.inl ⟨by rfl, ?y6⟩, fun _ => rfl⟩ ?_
          case y6 => (intro w; go_simp; try rfl)
          refine wpAnyIn_take (i := 7) (v := ?_) rfl rfl (by kernel_rfl) (by kernel_rfl) (by kernel_rfl) (fun c a w h => (hQp c _ w h).elim) ⟨Or.inl ⟨by rfl, ?y7⟩, fun _ => rfl⟩ ?_
          case y7 => (intro w; go_simp; try rfl)
          refine wpAnyIn_take (i := 8) (v := ?_) rfl rfl (by kernel_rfl) (by kernel_rfl) (by kernel_rfl) (fun c a w h => (hQp c _ w h).elim) ⟨Or.inl ⟨by rfl, ?y8⟩, fun _ => rfl⟩ ?_
          case y8 => (intro w; go_simp; try rfl)
          refine wpAnyIn_take (i := 9) (v := ?_) rfl rfl (by kernel_rfl) (by kernel_rfl) (by kernel_rfl) (fun c a w h => (hQp c _ w h).elim) ⟨Or.inl ⟨by rfl, ?y9⟩, fun _ => rfl⟩ ?_
          case y9 => (intro w; go_simp; try rfl)
          refine wpAnyIn_ready (rs := [10]) (by kernel_rfl) (by simp) ?_
          refine AllReadyIn.cons rfl (fun K hK => ?_) ?_
          ·go_simp
           refine hK _ _ ?_
           clear hK K
           refine wpAnyIn_ready (rs := [11]) (by kernel_rfl) (by simp) ?_
           refine AllReadyIn.cons rfl (fun K hK => ?_) ?_
           ·go_simp
            refine hK _ _ ?_
            clear hK K
            refine wpAnyIn_done (by kernel_rfl) ?_ _
            exact hQK _ _
           exact AllReadyIn.nil
          exact AllReadyIn.nil
         exact AllReadyIn.nil
        exact AllReadyIn.nil
       exact AllReadyIn.nil
      refine AllReadyIn.cons rfl (fun K hK => ?_) ?_
      ·go_simp
       refine hK _ _ ?_
       clear hK K
       refine wpAnyIn_ready (rs := [0, 4]) (by kernel_rfl) (by simp) ?_
       refine AllReadyIn.cons rfl (fun K hK => ?_) ?_
       ·go_simp
        refine hK _ _ ?_
        clear hK K
        refine wpAnyIn_ready (rs := [4]) (by kernel_rfl) (by simp) ?_
        refine AllReadyIn.cons rfl (fun K hK => ?_) ?_
        ·go_simp
         refine hK _ _ ?_
         clear hK K
         refine wpAnyIn_ready (rs := [5]) (by kernel_rfl) (by simp) ?_
         refine AllReadyIn.cons rfl (fun K hK => ?_) ?_
         ·go_simp
          refine ⟨trivial, (hdiv _).mono ?_⟩
          rintro e w' ⟨rfl, hd⟩
          obtain ⟨nd, rfl⟩ := hd
          refine hK _ _ ?_
          clear hK K
          refine wpAnyIn_take (i := 6) (v := ?_) rfl rfl (by kernel_rfl) (by kernel_rfl) (by kernel_rfl) (fun c a w h => (hQp c _ w h).elim) ⟨Or.inl ⟨by rfl, ?y6⟩, fun _ => rfl⟩ ?_
          case y6 => (intro w; go_simp; try rfl)
          refine wpAnyIn_take (i := 7) (v := ?_) rfl rfl (by kernel_rfl) (by kernel_rfl) (by kernel_rfl) (fun c a w h => (hQp c _ w h).elim) ⟨Or.inl ⟨by rfl, ?y7⟩, fun _ => rfl⟩ ?_
          case y7 => (intro w; go_simp; try rfl)
          refine wpAnyIn_take (i := 8) (v := ?_) rfl rfl (by kernel_rfl) (by kernel_rfl) (by kernel_rfl) (fun c a w h => (hQp c _ w h).elim) ⟨Or.inl ⟨by rfl, ?y8⟩, fun _ => rfl⟩ ?_
          case y8 => (intro w; go_simp; try rfl)
          refine wpAnyIn_take (i := 9) (v := ?_) rfl rfl (by kernel_rfl) (by kernel_rfl) (by kernel_rfl) (fun c a w h => (hQp c _ w h).elim) ⟨Or.inl ⟨by rfl, ?y9⟩, fun _ => rfl⟩ ?_
          case y9 => (intro w; go_simp; try rfl)
          refine wpAnyIn_ready (rs := [10]) (by kernel_rfl) (by simp) ?_
          refine AllReadyIn.cons rfl (fun K hK => ?_) ?_
          ·go_simp
           refine hK _ _ ?_
           clear hK K
           refine wpAnyIn_ready (rs := [11]) (by kernel_rfl) (by simp) ?_
           refine AllReadyIn.cons rfl (fun K hK => ?_) ?_
           ·go_simp
            refine hK _ _ ?_
            clear hK K
            refine wpAnyIn_done (by kernel_rfl) ?_ _
            exact hQK _ _
           exact AllReadyIn.nil
          exact AllReadyIn.nil
         exact AllReadyIn.nil
        exact AllReadyIn.nil
       refine AllReadyIn.cons rfl (fun K hK => ?_) ?_
       ·go_simp
        refine hK _ _ ?_
        clear hK K
        refine wpAnyIn_ready (rs := [0, 5]) (by kernel_rfl) (by simp) ?_
        refine AllReadyIn.cons rfl (fun K hK => ?_) ?_
        ·go_simp
         refine hK _ _ ?_
         clear hK K
         refine wpAnyIn_ready (rs := [5]) (by kernel_rfl) (by simp) ?_
         refine AllReadyIn.cons rfl (fun K hK => ?_) ?_
         ·go_simp
          refine ⟨trivial, (hdiv _).mono ?_⟩
          rintro e w' ⟨rfl, hd⟩
          obtain ⟨nd, rfl⟩ := hd
          refine hK _ _ ?_
          clear hK K
          refine wpAnyIn_take (i := 6) (v := ?_) rfl rfl (by kernel_rfl) (by kernel_rfl) (by kernel_rfl) (fun c a w h => (hQp c _ w h).elim) ⟨Or.inl ⟨by rfl, ?y6⟩, fun _ => rfl⟩ ?_
          case y6 => (intro w; go_simp; try rfl)
          refine wpAnyIn_take (i := 7) (v := ?_) rfl rfl (by kernel_rfl) (by kernel_rfl) (by kernel_rfl) (fun c a w h => (hQp c _ w h).elim) ⟨Or.inl ⟨by rfl, ?y7⟩, fun _ => rfl⟩ ?_
          case y7 => (intro w; go_simp; try rfl)
          refine wpAnyIn_take (i := 8) (v := ?_) rfl rfl (by kernel_rfl) (by kernel_rfl) (by kernel_rfl) (fun c a w h => (hQp c _ w h).elim) ⟨Or.inl ⟨by rfl, ?y8⟩, fun _ => rfl⟩ ?_
          case y8 => (intro w; go_simp; try rfl)
          refine wpAnyIn_take (i := 9) (v := ?_) rfl rfl (by kernel_rfl) (by kernel_rfl) (by kernel_rfl) (fun c a w h => (hQp c _ w h).elim) ⟨Or.inl ⟨by rfl, ?y9⟩, fun _ => rfl⟩ ?_
          case y9 => (intro w; go_simp; try rfl)
          refine wpAnyIn_ready (rs := [10]) (by kernel_rfl) (by simp) ?_
          refine AllReadyIn.cons rfl (fun K hK => ?_) ?_
          ·go_simp
           refine hK _ _ ?_
           clear hK K
           refine wpAnyIn_ready (rs := [11]) (by kernel_rfl) (by simp) ?_
           refine AllReadyIn.cons rfl (fun K hK => ?_) ?_
           ·go_simp
            refine hK _ _ ?_
            clear hK K
            refine wpAnyIn_done (by kernel_rfl) ?_ _
            exact hQK _ _
           exact AllReadyIn.nil
          exact AllReadyIn.nil
         exact AllReadyIn.nil
        refine AllReadyIn.cons rfl (fun K hK => ?_) ?_
        ·go_simp
         refine ⟨trivial, (hdiv _).mono ?_⟩
         rintro e w' ⟨rfl, hd⟩
         obtain ⟨nd, rfl⟩ := hd
         refine hK _ _ ?_
         clear hK K
         refine wpAnyIn_take (i := 6) (v := ?_) rfl rfl (by kernel_rfl) (by kernel_rfl) (by kernel_rfl) (fun c a w h => (hQp c _ w h).elim) ⟨Or.inl ⟨by rfl, ?y6⟩, fun _ => rfl⟩ ?_
         case y6 => (intro w; go_simp; try rfl)
         refine wpAnyIn_take (i := 7) (v := ?_) rfl rfl (by kernel_rfl) (by kernel_rfl) (by kernel_rfl) (fun c a w h => (hQp c _ w h).elim) ⟨Or.inl ⟨by rfl, ?y7⟩, fun _ => rfl⟩ ?_
         case y7 => (intro w; go_simp; try rfl)
         refine wpAnyIn_take (i := 8) (v := ?_) rfl rfl (by kernel_rfl) (by kernel_rfl) (by kernel_rfl) (fun c a w h => (hQp c _ w h).elim) ⟨Or.inl ⟨by rfl, ?y8⟩, fun _ => rfl⟩ ?_
         case y8 => (intro w; go_simp; try rfl)
         refine wpAnyIn_ready (rs := [0]) (by kernel_rfl) (by simp) ?_
         refine AllReadyIn.cons rfl (fun K hK => ?_) ?_
         ·go_simp
          refine hK _ _ ?_
          clear hK K
          refine wpAnyIn_take (i := 9) (v := ?_) rfl rfl (by kernel_rfl) (by kernel_rfl) (by kernel_rfl) (fun c a w h => (hQp c _ w h).elim) ⟨Or.inl ⟨by rfl, ?y9⟩, fun _ => rfl⟩ ?_
          case y9 => (intro w; go_simp; try rfl)
          refine wpAnyIn_ready (rs := [10]) (by kernel_rfl) (by simp) ?_
          refine AllReadyIn.cons rfl (fun K hK => ?_) ?_
          ·go_simp
           refine hK _ _ ?_
           clear hK K
           refine wpAnyIn_ready (rs := [11]) (by kernel_rfl) (by simp) ?_
           refine AllReadyIn.cons rfl (fun K hK => ?_) ?_
           ·go_simp
            refine hK _ _ ?_
            clear hK K
            refine wpAnyIn_done (by kernel_rfl) ?_ _
            exact hQK _ _
           exact AllReadyIn.nil
          exact AllReadyIn.nil
         exact AllReadyIn.nil
        exact AllReadyIn.nil
       exact AllReadyIn.nil
      refine AllReadyIn.cons rfl (fun K hK => ?_) ?_
      ·go_simp
       refine hK _ _ ?_
       clear hK K
       refine wpAnyIn_ready (rs := [0, 2]) (by kernel_rfl) (by simp) ?_
       refine AllReadyIn.cons rfl (fun K hK => ?_) ?_
       ·go_simp
        refine hK _ _ ?_
        clear hK K
        refine wpAnyIn_ready (rs := [2]) (by kernel_rfl) (by simp) ?_
        refine AllReadyIn.cons rfl (fun K hK => ?_) ?_
        ·go_simp
         refine hK _ _ ?_
         clear hK K
         refine wpAnyIn_ready (rs := [5]) (by kernel_rfl) (by simp) ?_
         refine AllReadyIn.cons rfl (fun K hK => ?_) ?_
         ·go_simp
          refine ⟨trivial, (hdiv _).mono ?_⟩
          rintro e w' ⟨rfl, hd⟩
          obtain ⟨nd, rfl⟩ := hd
          refine hK _ _ ?_
          clear hK K
          refine wpAnyIn_take (i := 6) (v := ?_) rfl rfl (by kernel_rfl) (by kernel_rfl) (by kernel_rfl) (fun c a w h => (hQp c _ w h).elim) ⟨Or.inl ⟨by rfl, ?y6⟩, fun _ => rfl⟩ ?_
          case y6 => (intro w; go_simp; try rfl)
          refine wpAnyIn_take (i := 7) (v := ?_) rfl rfl (by kernel_rfl) (by kernel_rfl) (by kernel_rfl) (fun c a w h => (hQp c _ w h).elim) ⟨Or.inl ⟨by rfl, ?y7⟩, fun _ => rfl⟩ ?_
          case y7 => (intro w; go_simp; try rfl)
          refine wpAnyIn_take (i := 8) (v := ?_) rfl rfl (by kernel_rfl) (by kernel_rfl) (by kernel_rfl) (fun c a w h => (hQp c _ w h).elim) ⟨Or.inl ⟨by rfl, ?y8⟩, fun _ => rfl⟩ ?_
          case y8 => (intro w; go_simp; try rfl)
          refine wpAnyIn_take (i := 9) (v := ?_) rfl rfl (by kernel_rfl) (by kernel_rfl) (by kernel_rfl) (fun c a w h => (hQp c _ w h).elim) ⟨Or.inl ⟨by rfl, ?y9⟩, fun _ => rfl⟩ ?_
          case y9 => (intro w; go_simp; try rfl)
          refine wpAnyIn_ready (rs := [10]) (by kernel_rfl) (by simp) ?_
          refine AllReadyIn.cons rfl (fun K hK => ?_) ?_
          ·go_simp
           refine hK _ _ ?_
           clear hK K
           refine wpAnyIn_ready (rs := [11]) (by kernel_rfl) (by simp) ?_
           refine AllReadyIn.cons rfl (fun K hK => ?_) ?_
           ·go_simp
            refine hK _ _ ?_
            clear hK K
            refine wpAnyIn_done (by kernel_rfl) ?_ _
            exact hQK _ _
           exact AllReadyIn.nil
          exact AllReadyIn.nil
         exact AllReadyIn.nil
        exact AllReadyIn.nil
       refine AllReadyIn.cons rfl (fun K hK => ?_) ?_
       ·go_simp
        refine hK _ _ ?_
        clear hK K
        refine wpAnyIn_ready (rs := [0, 5]) (by kernel_rfl) (by simp) ?_
        refine AllReadyIn.cons rfl (fun K hK => ?_) ?_
        ·go_simp
         refine hK _ _ ?_
         clear hK K
         refine wpAnyIn_ready (rs := [5]) (by kernel_rfl) (by simp) ?_
         refine AllReadyIn.cons rfl (fun K hK => ?_) ?_
         ·go_simp
          refine ⟨trivial, (hdiv _).mono ?_⟩
          rintro e w' ⟨rfl, hd⟩
          obtain ⟨nd, rfl⟩ := hd
          refine hK _ _ ?_
          clear hK K
          refine wpAnyIn_take (i := 6) (v := ?_) rfl rfl (by kernel_rfl) (by kernel_rfl) (by kernel_rfl) (fun c a w h => (hQp c _ w h).elim) ⟨Or.inl ⟨by rfl, ?y6⟩, fun _ => rfl⟩ ?_
          case y6 => (intro w; go_simp; try rfl)
          refine wpAnyIn_take (i := 7) (v := ?_) rfl rfl (by kernel_rfl) (by kernel_rfl) (by kernel_rfl) (fun c a w h => (hQp c _ w h).elim) ⟨Or.inl ⟨by rfl, ?y7⟩, fun _ => rfl⟩ ?_
          case y7 => (intro w; go_simp; try rfl)
          refine wpAnyIn_take (i := 8) (v := ?_) rfl rfl (by kernel_rfl) (by kernel_rfl) (by kernel_rfl) (fun c a w h => (hQp c _ w h).elim) ⟨Or.inl ⟨by rfl, ?y8⟩, fun _ => rfl⟩ ?_
          case y8 => (intro w; go_simp; try rfl)
          refine wpAnyIn_take (i := 9) (v := ?_) rfl rfl (by kernel_rfl) (by kernel_rfl) (by kernel_rfl) (fun c a w h => (hQp c _ w h).elim) ⟨Or.inl ⟨by rfl, ?y9⟩, fun _ => rfl⟩ ?_
          case y9 => (intro w; go_simp; try rfl)
          refine wpAnyIn_ready (rs := [10]) (by kernel_rfl) (by simp) ?_
          refine AllReadyIn.cons rfl (fun K hK => ?_) ?_
          ·go_simp
           refine hK _ _ ?_
           clear hK K
           refine wpAnyIn_ready (rs := [11]) (by kernel_rfl) (by simp) ?_
           refine AllReadyIn.cons rfl (fun K hK => ?_) ?_
           ·go_simp
            refine hK _ _ ?_
            clear hK K
            refine wpAnyIn_done (by kernel_rfl) ?_ _
            exact hQK _ _
           exact AllReadyIn.nil
          exact AllReadyIn.nil
         exact AllReadyIn.nil
        refine AllReadyIn.cons rfl (fun K hK => ?_) ?_
        ·go_simp
         refine ⟨trivial, (hdiv _).mono ?_⟩
         rintro e w' ⟨rfl, hd⟩
         obtain ⟨nd, rfl⟩ := hd
         refine hK _ _ ?_
         clear hK K
         refine wpAnyIn_take (i := 6) (v := ?_) rfl rfl (by kernel_rfl) (by kernel_rfl) (by kernel_rfl) (fun c a w h => (hQp c _ w h).elim) ⟨Or.inl ⟨by rfl, ?y6⟩, fun _ => rfl⟩ ?_
         case y6 => (intro w; go_simp; try rfl)
         refine wpAnyIn_take (i := 7) (v := ?_) rfl rfl (by kernel_rfl) (by kernel_rfl) (by kernel_rfl) (fun c a w h => (hQp c _ w h).elim) ⟨Or.inl ⟨by rfl, ?y7⟩, fun _ => rfl⟩ ?_
         case y7 => (intro w; go_simp; try rfl)
         refine wpAnyIn_take (i := 8) (v := ?_) rfl rfl (by kernel_rfl) (by kernel_rfl) (by kernel_rfl) (fun c a w h => (hQp c _ w h).elim) ⟨Or.inl ⟨by rfl, ?y8⟩, fun _ => rfl⟩ ?_
         case y8 => (intro w; go_simp; try rfl)
         refine wpAnyIn_ready (rs := [0]) (by kernel_rfl) (by simp) ?_
         refine AllReadyIn.cons rfl (fun K hK => ?_) ?_
         ·go_simp
          refine hK _ _ ?_
          clear hK K
          refine wpAnyIn_take (i := 9) (v := ?_) rfl rfl (by kernel_rfl) (by kernel_rfl) (by kernel_rfl) (fun c a w h => (hQp c _ w h).elim) ⟨Or.inl ⟨by rfl, ?y9⟩, fun _ => rfl⟩ ?_
          case y9 => (intro w; go_simp; try rfl)
          refine wpAnyIn_ready (rs := [10]) (by kernel_rfl) (by simp) ?_
          refine AllReadyIn.cons rfl (fun K hK => ?_) ?_
          ·go_simp
           refine hK _ _ ?_
           clear hK K
           refine wpAnyIn_ready (rs := [11]) (by kernel_rfl) (by simp) ?_
           refine AllReadyIn.cons rfl (fun K hK => ?_) ?_
           ·go_simp
            refine hK _ _ ?_
            clear hK K
            refine wpAnyIn_done (by kernel_rfl) ?_ _
            exact hQK _ _
           exact AllReadyIn.nil
          exact AllReadyIn.nil
         exact AllReadyIn.nil
        exact AllReadyIn.nil
       exact AllReadyIn.nil
      exact AllReadyIn.nil
     case done =>
      clear r0 bz bf b0 b1 HB
      rintro D ys W1 hD rfl ⟨⟨r0, bz, bf, b0, b1⟩, HB⟩ hK
      rw [downF_downs _ _ _ _ (by simp)] at r0 b1
      have g1 := b1.cell
      have gz := bz.cell
      have hll := downL_length (divS a1 l0) l0.length a2
      obtain ⟨zs, hzs⟩ : ∃ zs, zs = (downL (divS a1 l0) l0.length a2).1 := ⟨_, rfl⟩
      obtain ⟨c9, hc9⟩ : ∃ c9, c9 = (downL (divS a1 l0) l0.length a2).2 := ⟨_, rfl⟩
      rw [← hzs] at r0 hll
      rw [← hc9] at b1 g1
      have HZ := Aside0.mk hzs
      have HC := Aside0.mk hc9
      clear hzs hc9
      have HD := Aside0.mk hK
      have HDs := Aside0.mk hD
      have HL := Aside0.mk hll
      clear hK hD hll
      gi_wp2
      try gi_region
      all_goals (try gi_wp2)
      all_goals
       have hK' : W1.drew.heap[D]? = some (.deferred (some [])) := HD.out
       have hDs := HDs.out
       have hr2 : RowB (W1.drew.putObj D (.deferred none)) g zs := (World.putObj_heap_other (by omega)).trans (show W1.drew.heap[g]? = _ from r0)
       have hR := hr2.own w.heap.size hsw (by rw [HL.out]; exact hc)
       rw [HL.out, HZ.out] at hR
       refine ⟨by simp, .inl ⟨_, _, rfl, run_takeDeferred hK', ?_⟩⟩
       refine ⟨_, results_tmp3 rfl _ _ _, _, by rw [← HC.out]; rfl, hR, ?_⟩
       exact (below_drew HB).trans (belowK_b (w := w) (Nat.le_refl _) _ D _ _ (by omega) hK' rfl rfl)
     case stop =>
      rintro D c pre W1 _ _ h _
      exact h.elim
  ·rw [if_neg hc] at h
   cases h
   have hcb : decide (l0.length ≤ 4096) = false := decide_eq_false hc
   clear hc
   gi_wp2
   exact ⟨_, results_tmp3 rfl _ _ _, _, rfl, Kd.R_nil _ _ _ _ _, HB'.out⟩
 ·rw [if_neg hw] at h; cases h
end Go.Proofs.YtkkkbalefnileaaDoor.Ex
/- words.MulWord, AddMul, SubMul, Left. -/
namespace Go.Proofs.YtkkkbalefnileaaDoor.Ex
open Go.RowKit Go.Proofs.YtkkkbalefnileaaDoorW.PrintWords Go.Proofs.YtkkkbalefnileaaDoorW.PrintLast Go.Proofs.YtkkkbalefnileaaDoorW.PrintMore
set_option linter.unusedVariables false
set_option linter.unusedSimpArgs false

def words_MulWord.f (l0 : List Int) (a1 a2 : Int) : Option (List Int × Int × Int) :=
  if inW l0 ∧ isW a1 ∧ isW a2 then
    if l0.length ≤ 4096 then some ((carryL (fun i c => moreS (l0.getD i 0) a1 c 0) l0.length 0 a2).1, (carryL (fun i c => moreS (l0.getD i 0) a1 c 0) l0.length 0 a2).2, 0)
    else some ([], 0, 2)
  else none
theorem all_one (l : List Int) : ([l].all fun x => decide (x.length ≤ 4096)) = decide (l.length ≤ 4096) := by simp
set_option maxHeartbeats 2000000 in
theorem words_MulWord.calls (A0 : Option Addr) (c0 : Nat) (l0 : List Int) (a1 : Int) (a2 : Int) (r1 : List Int) (r2 : Int) (r3 : Int) (w : World) (hr0 : Kd.C (Kd.int .u64) w A0 l0.length l0) (hc0 : l0.length ≤ c0) (h : words_MulWord.f l0 a1 a2 = some (r1, r2, r3)) :
    Calls Tryd.prog 101 #[.slice A0 l0.length c0, .int .u64 a1, .int .u64 a2] w fun e w' => ∃ v0_ : Value, e = .returned (.tuple #[v0_, .int .u64 r2, .int .i64 r3]) ∧ Kd.R (Kd.int .u64) 36 w' w.heap.size (fun _ => True) v0_ r1 ∧ Below w.heap.size w w' := by
  unfold words_MulWord.f at h
  by_cases hw : inW l0 ∧ isW a1 ∧ isW a2
  · rw [if_pos hw] at h
    obtain ⟨hw0, hw1, hw2⟩ := hw
    have HR0 := Aside0.mk hr0
    clear hr0
    go_enter Tryd.func101, Tryd.ntmps101
    go_wp2_with fail
    obtain ⟨b0, b1, b2, hB⟩ := box2 w (.slice A0 l0.length c0) (.int .u64 a1) #[.slice A0 l0.length c0] 22 36 22
    have C0 := Aside0.mk (Kd.C_below HR0.out hB)
    have HB := Aside0.mk hB
    clear hB HR0
    generalize (((w.alloc (.cells #[.slice A0 l0.length c0] 22)).alloc (.cells #[.int .u64 a1] 36)).alloc (.cells #[.slice A0 l0.length c0] 22)) = W at *
    refine (words_few.calls (some ⟨w.heap.size + 1 + 1, 0, none⟩) 1 [l0] (decide (l0.length ≤ 4096)) _ (C_one C0.out hc0 b2) (Nat.le_refl 1) (by unfold words_few.f; rw [all_one])).mono ?_
    rintro e w' ⟨rfl, hd⟩
    have b0' := pw_cell_below hd.below b0
    have b1' := pw_cell_below hd.below b1
    have C0' := Aside0.mk (Kd.C_below C0.out hd.below)
    have HB' := Aside0.mk (below_step HB.out hd.below)
    clear b0 b1 b2 C0 HB hd
    clear W
    by_cases hc : l0.length ≤ 4096
    · rw [if_pos hc] at h
      cases h
      have hcb : decide (l0.length ≤ 4096) = true := decide_eq_true hc
      go_wp2_with fail
      refine (carrying 107 (enters_of Tryd.func107 (by kernel_rfl) rfl) #[.pointer (some ⟨w.heap.size, 0, none⟩), .pointer (some ⟨w.heap.size + 1, 0, none⟩)] (fun i c => moreS (l0.getD i 0) a1 c 0) isW A0 c0 l0 a2 _ hc hw2 ?_).mono ?_
      · intro i hi c hI
        refine ⟨(more_eq (l0.getD i 0) a1 c 0 (isW_get hw0 i) hw1 hI ⟨Int.le_refl 0, W64_pos⟩).2.2.2.2.2.2, fun W' hW' => ?_⟩
        exact mulWord1 w.heap.size (w.heap.size + 1) A0 c0 l0 i c a1 W' hi hI hw1 hw0 (Kd.C_below C0'.out hW') (pw_cell_below hW' b0') (pw_cell_below hW' b1')
      · rintro e w2 ⟨v0, rfl, hR, hB2⟩
        have HRr := Aside0.mk (Kd.R_lower hR (below_size HB'.out))
        have HB2 := Aside0.mk (below_step HB'.out hB2)
        clear hR hB2
        go_wp2
        go_ret3
        exact ⟨_, rfl, HRr.out, HB2.out⟩
    · rw [if_neg hc] at h
      cases h
      have hcb : decide (l0.length ≤ 4096) = false := decide_eq_false hc
      clear hc
      go_wp2
      go_ret3
      exact ⟨_, rfl, Kd.R_nil _ _ _ _ _, HB'.out⟩
  · rw [if_neg hw] at h; cases h
end Go.Proofs.YtkkkbalefnileaaDoor.Ex
/- A range over a function that lays, in each round, what it hands over; nat.rows. -/
namespace Go.Proofs.YtkkkbalefnileaaDoor.Ex
open Go.RowKit Go.Shelf Go.Proofs.YtkkkbalefnileaaDoorW.PrintWords Go.Proofs.YtkkkbalefnileaaDoorW.PrintLast Go.Proofs.YtkkkbalefnileaaDoorW.PrintMore
set_option linter.unusedVariables false
set_option linter.unusedSimpArgs false
attribute [local go_sem] Oper.semAt_some

/-- What such an iterator promises: of each element that it hands over, Pr holds in the world of the round. No round leaves the loop. -/
def SeqLays {α : Type} (n : Nat) (P : Program) (g : Nat) (lb : Array Value) (en : α → Array Value) (Kp : World → World → Prop) (Pr : List α → α → World → Prop) (S : List α → Prop) (w : World) : Prop :=
  ∀ (l : Nat) (J : List α → World → Prop) (W : World), Below w.heap.size w W → AbidesFrom W.heap.size J →
    (∀ pre x V, J pre V → Pr pre x V → YieldAt Fence.wide (n - 1) P l (en x) V fun e V' => e = .returned (.bool true) ∧ J (pre ++ [x]) V' ∧ Kp V V') →
    J [] W → CallsIn Fence.wide n P g (#[.func (.yield l) #[] #[]] ++ lb) W fun e V' => (∃ v, e = .returned v) ∧ ∃ xs, S xs ∧ J xs V'
theorem range_lays {α : Type} {n : Nat} {P : Program} {g : Operand} {ps : Array Tmp} {assign body : Code} {Q : Exit → Act → World → Prop} {a : Act} {w : World}
    (h1 : 1 ≤ n) {gf : Nat} {lb : Array Value} (hg : a.eval g = .func (.func gf) #[] lb) (eg : ∀ args w, (callFunc gf args).run P w = .ok (.enter gf args) w)
    {en : α → Array Value} {Kp : World → World → Prop} {Pr : List α → α → World → Prop} {S : List α → Prop} {w0 : World} (hseq : SeqLays (n - 1) P gf lb en Kp Pr S w0)
    (hKt : ∀ {A B C : World}, Kp A B → Kp B C → Kp A C) (hKb : ∀ (W : World) (l : Nat) (o o' : Obj), w.heap.size ≤ l → W.heap[l]? = some o → o.isCells = false → o.isWalk = false → Kp W (W.putObj l o'))
    (hPr : ∀ pre x (W : World) (l : Nat) (o o' : Obj), Pr pre x W → W.heap[l]? = some o → o.isCells = false → Pr pre x (W.putObj l o'))
    (hb0 : Below w0.heap.size w0 w) (hps : ∀ x, (en x).size = ps.size)
    (I : List α → World → Prop) (hI : OwnFrom w.heap.size I) (h0 : I [] w) (a₁ : α → Act)
    (hassign : ∀ (l : Nat) (x : α) (W : World) (K : Act → World → Prop), K (a₁ x) W →
      assign.wpIn (Fence.wide.inRound l) (n - 1 - 1) P (Exit.then K (fun _ _ _ => False)) { tmps := (ps.zip (en x)).foldl (fun t (p, v) => t.setIfInBounds p v) a.tmps, defers := [] } W)
    (hbody : ∀ (l : Nat) (pre : List α) (x : α) (W : World), I pre W → Pr pre x W → body.wpIn (Fence.wide.inRound l) (n - 1 - 1) P (ownPostG w.heap.size Kp I (fun _ _ _ => False) (pre ++ [x]) W) (a₁ x) W)
    (hdone : ∀ (D : Nat) (xs : List α) (W : World), w.heap.size ≤ D → S xs → I xs W → W.heap[D]? = some (.deferred (some [])) → Q .normal { a with defers := { target := .collected D, args := #[] } :: a.defers } W) :
    (Code.rangeFunc g ps assign body).wpIn Fence.wide n P Q a w := by
  refine wpIn_rangeFunc (fun fn hfn => ?_)
  let rec_ : LoopState → Loop := fun st => { state := st, pending := none, fn := fn, tmps := a.tmps, params := ps, assign := assign, body := body, defers := w.heap.size }
  let L := w.heap.size + 1
  let V0 := (w.alloc (.deferred (some []))).alloc (.loop (rec_ .ready))
  have recL : V0.heap[L]? = some (.loop (rec_ .ready)) := by
    have := World.alloc_heap_new (w.alloc (.deferred (some []))) (.loop (rec_ .ready))
    rwa [World.size_alloc] at this
  have recD : V0.heap[w.heap.size]? = some (.deferred (some [])) := (Below.heap_alloc _ _ _ (by simp)).trans (World.alloc_heap_new w _)
  have inv0 : I [] V0 := hI.alloc _ (hI.alloc _ h0)
  have bel0 : Below w0.heap.size w0 V0 := hb0.trans ((((Below.refl _ w).alloc (Nat.le_refl _) _).alloc (by simp) _).mono hb0.size)
  have sz0 : V0.heap.size = w.heap.size + 2 := by show ((w.alloc _).alloc _).heap.size = _; simp
  refine ⟨L, [{ target := .collected w.heap.size, args := #[] }], V0, { target := .fn (.func gf) lb, args := #[.func (.yield L) #[] #[]] }, V0, gf, #[.func (.yield L) #[] #[]] ++ lb, V0, run_enterLoop_outer _ _ _ _ _, ?_, ?_, ?_, fun _ => h1, ?_⟩
  · simp only [resolve, hg]
    simp [go_sem]
  · intro f' _; trivial
  · simp [invoke, go_sem, eg]
  · have book : ∀ {A B : World} {row : Option Nat}, (∀ r, row = some r → V0.heap.size ≤ r ∧ ∃ o : Obj, A.heap[r]? = some o ∧ o.isWalk = true) → ∀ r, row = some r → w.heap.size ≤ r ∧ ∃ o : Obj, A.heap[r]? = some o ∧ o.isCells = false := by
      intro A B row hr r e
      obtain ⟨hB, o, ho, hw⟩ := hr r e
      exact ⟨by omega, o, ho, Obj.not_cells_of_walk hw⟩
    have call := hseq L (fun pre W => I pre W ∧ W.heap[L]? = some (.loop (rec_ .ready)) ∧ W.heap[w.heap.size]? = some (.deferred (some []))) V0 bel0
      (fun s A B row hs hgr hr => ⟨hI s A B row hs.1 hgr (book (B := B) hr), (grownBy_keeps hgr (fun r e => (hr r e).2) hs.2.1 rfl).trans hs.2.1, (grownBy_keeps hgr (fun r e => (hr r e).2) hs.2.2 rfl).trans hs.2.2⟩)
      (by
        rintro pre x W ⟨hi, hl, hk⟩ hpr
        have hlt : L < W.heap.size := (Array.getElem?_eq_some_iff.1 hl).1
        refine ⟨fn, _, assign, body, run_yield (P := P) (args := en x) hl (hps x), roundIn_of_wpIn hfn (hassign _ x W _ ⟨_, run_beginRound hl rfl, ?_⟩)⟩
        have busy : (W.putObj L (.loop (rec_ .busy))).heap[L]? = some (.loop (rec_ .busy)) := World.putObj_heap_same hlt
        have hk2 : (W.putObj L (.loop (rec_ .busy))).heap[w.heap.size]? = some (.deferred (some [])) := (World.putObj_heap_other (show w.heap.size ≠ w.heap.size + 1 by omega)).trans hk
        have kp0 : Kp W (W.putObj L (.loop (rec_ .busy))) := hKb _ _ _ _ (show w.heap.size ≤ w.heap.size + 1 by omega) hl rfl rfl
        refine wpIn_mono (hbody _ pre x _ (hI.putObj _ hi (show w.heap.size ≤ w.heap.size + 1 by omega) hl rfl) (hPr _ _ _ _ _ _ hpr hl rfl)) ?_
        rintro e a3 V hp
        cases e with
        | normal =>
          obtain ⟨k3, kp3, i3⟩ := hp
          have l3 := k3.same _ _ (show w.heap.size ≤ w.heap.size + 1 by omega) busy rfl
          have d3 := k3.same _ _ (Nat.le_refl _) hk2 rfl
          refine ⟨_, _, run_endRound none l3, rfl, ⟨hI.putObj _ i3 (show w.heap.size ≤ w.heap.size + 1 by omega) l3 rfl, World.putObj_heap_same (Array.getElem?_eq_some_iff.1 l3).1, (World.putObj_heap_other (show w.heap.size ≠ w.heap.size + 1 by omega)).trans d3⟩, hKt (hKt kp0 kp3) (hKb _ _ _ _ (show w.heap.size ≤ w.heap.size + 1 by omega) l3 rfl rfl)⟩
        | ret => exact hp.2.elim
        | exit id => exact hp.2.elim
        | goto t => exact hp.2.elim
        | panic ch => exact hp.elim
        | outgrown => exact hp.elim)
      ⟨inv0, recL, recD⟩
    refine call.mono ?_
    rintro e V ⟨⟨v, rfl⟩, xs, hS, hi, hl, hk⟩
    exact ⟨none, _, run_endLoop (P := P) hl (by simp [rec_]), hdone _ xs _ (Nat.le_refl _) hS (hI.putObj _ hi (show w.heap.size ≤ w.heap.size + 1 by omega) hl rfl) ((World.putObj_heap_other (show w.heap.size ≠ w.heap.size + 1 by omega)).trans hk)⟩
/-- What nat.rows hands over: where a row stands, and the row's block and room. -/
def encR (m : Nat) (x : Nat × Nat × Nat) : Array Value := #[.int .i64 (x.1 : Int), .slice (some ⟨x.2.1, 0, none⟩) (m + 1) x.2.2]
def RowAt (n0 : Nat) (l0 l1 : List Int) (pre : List (Nat × Nat × Nat)) (x : Nat × Nat × Nat) (W : World) : Prop :=
  x.1 = pre.length ∧ x.1 < l1.length ∧ ∃ l : List Int, l.length = l0.length + 1 ∧ inW l ∧ valB W64 l = valB W64 l0 * l1.getD x.1 0 ∧ W.ownsRow n0 36 1 (.slice (some ⟨x.2.1, 0, none⟩) (l0.length + 1) x.2.2) (l0.length + 1) (nums .u64 l)
theorem RowAt.put {n0 : Nat} {l0 l1 : List Int} (pre x) (W : World) (l : Nat) (o o' : Obj) (h : RowAt n0 l0 l1 pre x W) (hl : W.heap[l]? = some o) (ho : o.isCells = false) : RowAt n0 l0 l1 pre x (W.putObj l o') := by
  obtain ⟨h1, h2, r, h3, h4, h5, h6⟩ := h
  exact ⟨h1, h2, r, h3, h4, h5, ownsRow_putObj h6 o' hl ho⟩
theorem one_new (W : World) (x : Value) (t : TypeId) : ∀ (j : Nat) (u : Value), [x][j]? = some u → (W.alloc (.cells #[x] t)).cell? (Addr.add ⟨W.heap.size, 0, none⟩ j) = some u := by
  intro j u hj
  cases j with
  | zero =>
    simp only [List.getElem?_cons_zero, Option.some.injEq] at hj
    subst hj
    have h := World.alloc_heap_new W (.cells #[x] t)
    show (W.alloc (.cells #[x] t)).cell? ⟨W.heap.size, 0, none⟩ = some x
    unfold World.cell?
    rw [show (W.alloc (.cells #[x] t)).heap[(⟨W.heap.size, 0, none⟩ : Addr).block]? = _ from h]
    rfl
  | succ j => simp at hj
theorem iW_ : ∃ i0, Aside0 (Tryd.prog.info? 36 = some i0 ∧ i0.zero = some (.int .u64 0) ∧ i0.size = 1 ∧ i0.bytes = 8) := by
  have h := iW
  cases hi : Tryd.prog.info? 36 with
  | none => rw [hi] at h; cases h
  | some i0 =>
    rw [hi] at h
    simp only [Option.map_some, Option.some.injEq, Prod.mk.injEq] at h
    exact ⟨i0, ⟨rfl, h.1, h.2.1, h.2.2⟩⟩
set_option maxRecDepth 100000 in
set_option maxHeartbeats 2000000 in
theorem rows1_in (n : Nat) (hn : 1 ≤ n) (nb lp By Bx : Nat) (A0 A1 : Option Addr) (c0 c1 : Nat) (l0 l1 : List Int) (w0 : World) (hr0 : Kd.C (Kd.int .u64) w0 A0 l0.length l0) (hc0 : l0.length ≤ c0) (hr1 : Kd.C (Kd.int .u64) w0 A1 l1.length l1)
    (hw0 : inW l0) (hw1 : inW l1) (h4 : l0.length ≤ 4096) (J : List (Nat × Nat × Nat) → World → Prop) (W : World) (hW : Below w0.heap.size w0 W) (hnb : nb ≤ W.heap.size) (hJa : AbidesFrom W.heap.size J)
    (hY : ∀ pre x V, J pre V → RowAt nb l0 l1 pre x V → YieldAt Fence.wide (n - 1) Tryd.prog lp (encR l0.length x) V fun e V' => e = .returned (.bool true) ∧ J (pre ++ [x]) V' ∧ KeepB w0.heap.size Bx V V')
    (hBy : Boxed W By 23 (.slice A1 l1.length c1)) (hBx : Boxed W Bx 23 (.slice A0 l0.length c0)) (h0 : J [] W) :
    CallsIn Fence.wide n Tryd.prog 100 #[.func (.yield lp) #[] #[], .pointer (some ⟨By, 0, none⟩), .pointer (some ⟨Bx, 0, none⟩)] W fun e V' => (∃ v, e = .returned v) ∧ ∃ xs, xs.length = l1.length ∧ J xs V' := by
  have hlen : l1.length ≤ 9223372036854775807 := hr1.2.1
  have HR0 := Aside0.mk hr0
  have HR1 := Aside0.mk hr1
  clear hr0 hr1
  have hcy := hBy.cell
  have hcx := hBx.cell
  refine callsIn_of_wp Tryd.func100 rfl trivial ?_ rfl
  simp only [Tryd.ntmps100, List.size_toArray, List.length_cons, List.length_nil, Nat.reduceAdd, Nat.reduceSub, Array.replicate_succ, Array.replicate_zero, List.push_toArray, List.append_toArray, List.nil_append, List.cons_append]
  gi_wp2
  gi_loopw [11] (fun i wr => ∃ (k : Nat) (pre : List (Nat × Nat × Nat)), k ≤ l1.length ∧ pre.length = k ∧ i = .int .i64 (k : Int) ∧ J pre wr ∧ Below w0.heap.size w0 wr ∧ Boxed wr Bx 23 (.slice A0 l0.length c0) ∧ W.heap.size ≤ wr.heap.size)
    (fun i _ => l1.length - (intOf i).toNat)
  case atStart => exact ⟨0, [], Nat.zero_le _, rfl, rfl, h0, hW, hBx, Nat.le_refl _⟩
  case round =>
    clear hcy hcx hBx h0 hBy
    obtain ⟨k, pre, hk, hpl, rfl, hJs, hnx, hbx, hsw⟩ := hrel
    have hcx := hbx.cell
    by_cases hlt : k < l1.length
    · have hC := Kd.C_below HR1.out hnx
      obtain ⟨ad, rfl, hx1⟩ := Kd.at_int hC (k : Int) (by omega) (by omega)
      rw [show rd l1 (k : Int) = l1.getD k 0 by simp [rd]] at hx1
      have hxw := isW_get hw1 k
      have HXE := Aside0.mk (show ∃ x, x = l1.getD k 0 from ⟨_, rfl⟩)
      have hlti : (k : Int) < (l1.length : Int) := by omega
      have HK := Aside0.mk hlt
      have hm := mul_val l0 (l1.getD k 0) 0 hw0 hxw ⟨Int.le_refl 0, W64_pos⟩
      have hf : words_MulWord.f l0 (l1.getD k 0) 0 = some ((carryL (fun i c => moreS (l0.getD i 0) (l1.getD k 0) c 0) l0.length 0 0).1, (carryL (fun i c => moreS (l0.getD i 0) (l1.getD k 0) c 0) l0.length 0 0).2, 0) := by
        unfold words_MulWord.f; rw [if_pos ⟨hw0, hxw, ⟨Int.le_refl 0, W64_pos⟩⟩, if_pos h4]
      have hzl := carryL_length (fun i c => moreS (l0.getD i 0) (l1.getD k 0) c 0) l0.length 0 0
      have hcall := words_MulWord.calls A0 c0 l0 (l1.getD k 0) 0 _ _ _ wr (Kd.C_below HR0.out hnx) hc0 hf
      obtain ⟨z, hz⟩ : ∃ z, z = (carryL (fun i c => moreS (l0.getD i 0) (l1.getD k 0) c 0) l0.length 0 0).1 := ⟨_, rfl⟩
      obtain ⟨hi, hhi⟩ : ∃ hi, hi = (carryL (fun i c => moreS (l0.getD i 0) (l1.getD k 0) c 0) l0.length 0 0).2 := ⟨_, rfl⟩
      simp only at hm
      rw [← hz, ← hhi] at hcall hm
      rw [← hz] at hzl
      obtain ⟨x, hx⟩ : ∃ x, x = l1.getD k 0 := ⟨_, rfl⟩
      rw [← hx] at hx1 hcall hm
      have HX := Aside0.mk hx
      have HM := Aside0.mk hm
      have HZL := Aside0.mk hzl
      have HC := Aside0.mk hcall
      have hkk : ((k : Nat) : Int).toNat = k := rfl
      rw [hkk] at hx1
      clear hz hhi hx hm hzl hf hC hxw HXE
      have hcall' := hcall
      clear hcall
      gi_wp2_with fail
      refine ⟨trivial, (callsIn_wide.2 HC.out).mono ?_⟩
      rintro e w3 ⟨v0, rfl, hR, hb3⟩
      obtain ⟨A3, c3, rfl⟩ := Kd.R_slice hR
      have hO := Kd.own_of_R (enc := Value.int .u64) (h1 := fun _ => rfl) hR
      have hsz := below_size hnx
      have HO := Aside0.mk (own_weaken hO (Nat.le_trans hnb hsw))
      have HOB := Aside0.mk (own_base hO)
      have HB3 := Aside0.mk hb3
      obtain ⟨i0, hi0⟩ := iW_
      have hsz3 := below_size hb3
      have HSZ := Aside0.mk hsz3
      have hcapz : z.length ≤ 4096 := by rw [HZL.out]; exact h4
      have HZ4 := Aside0.mk hcapz
      clear hR hO hb3 hsz hsz3 hcapz hcall'
      gi_wp2_with (gi_at_builtin; refine wpListIn_append_own _ rfl _ _ 22 rfl nb 36 i0 (.int .u64 0) 1 8 Tryd.underlying22 hi0.out.1 hi0.out.2.1 hi0.out.2.2.1 hi0.out.2.2.2 rfl (by decide) _ _ _ rfl (HO.out.alloc _) ⟨w3.heap.size, 0, none⟩ 1 1 [.int .u64 hi] rfl rfl (one_new _ _ _) (by simp [Value.oneCell']) (by have := HZ4.out; unfold maxLen; omega) (by have := HZ4.out; omega) (by have := HSZ.out; simp; omega) ?_; intro v1 w4 hown4 hgrow4 _)
      have b4 : Below wr.heap.size wr w4 := pw_below_grown (below_alloc HB3.out _) _ (by have := HSZ.out; simp; omega) hgrow4 HOB.out
      rw [HZL.out] at hown4
      obtain ⟨g', cap', rfl⟩ := ownsRow_succ hown4
      have hJ4 : J pre w4 := hJa pre wr w4 none hJs (grown_of_below b4 none) (fun r e => by cases e)
      have hRow : RowAt nb l0 l1 pre (k, g', cap') w4 := by
        obtain ⟨m1, m2, m3⟩ := HM.out
        refine ⟨hpl.symm, HK.out, z ++ [hi], by simp [HZL.out], inB_append.2 ⟨m2, inB_cons.2 ⟨m1, inB_nil⟩⟩, ?_, ?_⟩
        · rw [valB_append, HZL.out, ← HX.out]
          simp only [valB, Int.mul_zero, Int.add_zero]
          omega
        · have := hown4
          rw [show nums .u64 (z ++ [hi]) = encs (Value.int .u64) z ++ [Value.int .u64 hi] by simp [nums, encs]]
          exact this
      obtain ⟨fn, tmps, assign, body, hy, hR⟩ := hY pre (k, g', cap') w4 hJ4 hRow
      unfold encR at hy
      dsimp only at hy
      have HB4 := Aside0.mk b4
      have HBX := Aside0.mk (Boxed.below hbx b4)
      have HN := Aside0.mk (below_step hnx b4)
      have HS4 := Aside0.mk (below_size b4)
      clear b4 hown4 hgrow4 hRow hJ4 hbx hnx hJs
      rw [hy, Oper.uponIn_round]
      refine ⟨fun _ => hn, hR.mono ?_⟩
      rintro e W3 ⟨rfl, hJ3, hk3⟩
      gi_wp2
      go_roundw
      case rel => exact ⟨k + 1, pre ++ [(k, g', cap')], by omega, by simp [hpl], by go_num, hJ3, HN.out.trans hk3.1, hk3.2.trans HBX.out, by have := HS4.out; have := hk3.1.size; omega⟩
      case measure => simp [intOf]; omega
    · obtain rfl : k = l1.length := by omega
      gi_wp2
      go_end0
      exact ⟨⟨_, rfl⟩, pre, hpl, hJs⟩
theorem rows_lays (n : Nat) (hn : 1 ≤ n) (By Bx : Nat) (A0 A1 : Option Addr) (c0 c1 : Nat) (l0 l1 : List Int) (w0 w : World) (hr0 : Kd.C (Kd.int .u64) w0 A0 l0.length l0) (hc0 : l0.length ≤ c0) (hr1 : Kd.C (Kd.int .u64) w0 A1 l1.length l1)
    (hw0 : inW l0) (hw1 : inW l1) (h4 : l0.length ≤ 4096) (hb : Below w0.heap.size w0 w) (hBy : Boxed w By 23 (.slice A1 l1.length c1)) (hBx : Boxed w Bx 23 (.slice A0 l0.length c0)) :
    SeqLays n Tryd.prog 100 #[.pointer (some ⟨By, 0, none⟩), .pointer (some ⟨Bx, 0, none⟩)] (encR l0.length) (KeepB w0.heap.size Bx) (RowAt w.heap.size l0 l1) (fun ys => ys.length = l1.length) w := fun l J W hW hJ hY h0 =>
  rows1_in n hn w.heap.size l By Bx A0 A1 c0 c1 l0 l1 w0 hr0 hc0 hr1 hw0 hw1 h4 J W (below_step hb hW) (below_size hW) hJ hY (Boxed.below hBy hW) (Boxed.below hBx hW) h0
set_option maxHeartbeats 1000000 in
theorem rows_in (n : Nat) (a b : Option Addr) (la ca lb cb : Nat) (w : World) :
    CallsIn Fence.wide n Tryd.prog 85 #[.slice a la ca, .slice b lb cb] w fun e w' => e = .returned (.func (.func 100) #[] #[.pointer (some ⟨w.heap.size + 1, 0, none⟩), .pointer (some ⟨w.heap.size, 0, none⟩)]) ∧ w' = (w.alloc (.cells #[.slice a la ca] 23)).alloc (.cells #[.slice b lb cb] 23) := by
  refine callsIn_of_wp Tryd.func85 rfl trivial ?_ rfl
  simp only [Tryd.ntmps85, List.size_toArray, List.length_cons, List.length_nil, Nat.reduceAdd, Nat.reduceSub, Array.replicate_succ, Array.replicate_zero, List.push_toArray, List.append_toArray, List.nil_append, List.cons_append]
  gi_wp2
  go_ret
  exact ⟨by simp, rfl⟩
end Go.Proofs.YtkkkbalefnileaaDoor.Ex
/- nat.mul. -/
namespace Go.Proofs.YtkkkbalefnileaaDoor.Ex
open Go.RowKit Go.Shelf Go.Proofs.YtkkkbalefnileaaDoorW.PrintWords Go.Proofs.YtkkkbalefnileaaDoorW.PrintLast Go.Proofs.YtkkkbalefnileaaDoorW.PrintMore
set_option linter.unusedVariables false
set_option linter.unusedSimpArgs false
attribute [local go_sem] Oper.semAt_some

def nat_mul.f (l0 l1 : List Int) : Option (List Int) :=
  if inW l0 ∧ inW l1 ∧ l0.length ≤ 100000 ∧ l1.length ≤ 100000 ∧ (can (valB W64 l0)).length ≤ 4096 then some (can (valB W64 l0 * valB W64 l1)) else none
/-- What has been added up. -/
def MulI (n : Nat) (X Y : List Int) (z : List Int) (i : Nat) : Prop := inW z ∧ z.length = n ∧ valB W64 z = valB W64 X * valB W64 (Y.take i)
theorem RowB.own' {W : World} {g : Nat} {l : List Int} (h : RowB W g l) (base : Nat) (hb : base ≤ g) (hl : l.length ≤ 1000000) : Kd.R (Kd.int .u64) 36 W base (fun _ => True) (.slice (some ⟨g, 0, none⟩) l.length l.length) l := by
  refine Kd.R_of_own (enc := Value.int .u64) (h1 := fun _ => rfl) ⟨by simp [encs], .inr ⟨g, l.length, (nums .u64 l).toArray, rfl, hb, h, Nat.le_refl _, by unfold maxLen; omega, by simp [nums], ?_⟩⟩ (fun _ _ => trivial)
  simp only [nums, encs, Nat.mul_one]
  rw [List.take_of_length_le (by simp)]
/-- Behind the last word of a row nothing is carried. -/
theorem mul_last {X Y z z' row : List Int} {i : Nat} {cc : Int} (hx : inW X) (hy : inW Y) (hi : i < Y.length) (hv : valB W64 z = valB W64 X * valB W64 (Y.take i)) (hr : valB W64 row = valB W64 X * Y.getD i 0) (hz : inW z') (hc : 0 ≤ cc)
    (h : valB W64 z' + W64 ^ (i + (X.length + 1)) * cc = valB W64 z + W64 ^ i * valB W64 row) : valB W64 z' = valB W64 X * valB W64 (Y.take (i + 1)) ∧ cc = 0 := by
  have h1 : valB W64 z + W64 ^ i * valB W64 row = valB W64 X * valB W64 (Y.take (i + 1)) := by
    rw [hv, hr, valB_take_succ W64 Y i hi, Int.mul_add, Int.mul_left_comm (W64 ^ i)]
  rw [h1] at h
  have b0 := valB_nonneg W64_pos hz
  have b1 := valB_lt W64_pos hx
  have b2 := valB_lt W64_pos (inB_take hy (i + 1))
  rw [List.length_take, Nat.min_eq_left (by omega)] at b2
  have b3 := valB_nonneg W64_pos hx
  have b4 := valB_nonneg W64_pos (inB_take hy (i + 1))
  have p1 := pow_posB W64_pos X.length
  have p2 := pow_posB W64_pos (i + 1)
  have b5 : valB W64 X * valB W64 (Y.take (i + 1)) < W64 ^ (i + (X.length + 1)) := by
    rw [show i + (X.length + 1) = X.length + (i + 1) by omega, Int.pow_add]
    exact Int.lt_of_le_of_lt (Int.mul_le_mul_of_nonneg_right (Int.le_of_lt b1) b4) (Int.mul_lt_mul_of_pos_left b2 p1)
  have hc0 : cc = 0 := by
    by_cases h0 : cc ≤ 0
    · omega
    · have h2 : W64 ^ (i + (X.length + 1)) * 1 ≤ W64 ^ (i + (X.length + 1)) * cc := Int.mul_le_mul_of_nonneg_left (by omega) (Int.le_of_lt (pow_posB W64_pos _))
      rw [Int.mul_one] at h2
      omega
  refine ⟨?_, hc0⟩
  rw [hc0, Int.mul_zero, Int.add_zero] at h
  exact h
set_option maxRecDepth 100000 in
set_option maxHeartbeats 2000000 in
theorem nat_mul.calls (A0 : Option Addr) (c0 : Nat) (l0 : List Int) (A1 : Option Addr) (c1 : Nat) (l1 : List Int) (r : List Int) (w : World) (hr0 : Kd.C (Kd.int .u64) w A0 l0.length l0) (hc0 : l0.length ≤ c0) (hr1 : Kd.C (Kd.int .u64) w A1 l1.length l1) (hc1 : l1.length ≤ c1) (h : nat_mul.f l0 l1 = some r) :
  Calls Tryd.prog 64 #[.slice A0 l0.length c0, .slice A1 l1.length c1] w fun e w' => ∃ v0_ : Value, e = .returned (v0_) ∧ Kd.R (Kd.int .u64) 36 w' w.heap.size (fun _ => True) v0_ r ∧ Below w.heap.size w w' := by
 unfold nat_mul.f at h
 by_cases hw : inW l0 ∧ inW l1 ∧ l0.length ≤ 100000 ∧ l1.length ≤ 100000 ∧ (can (valB W64 l0)).length ≤ 4096
 ·rw [if_pos hw] at h
  cases h
  obtain ⟨hw0, hw1, hm0, hm1, h4⟩ := hw
  have T0 := trim1 A0 c0 l0 w hw0 hr0 hc0
  have T1 := trim1 A1 c1 l1 w hw1 hr1 hc1
  have C0 := C_take hr0 _ (can_le hw0)
  have C1 := C_take hr1 _ (can_le hw1)
  rw [can_take hw0] at C0
  rw [can_take hw1] at C1
  have hx := can_in (valW_nonneg hw0)
  have hy := can_in (valW_nonneg hw1)
  have vx := can_val (valW_nonneg hw0)
  have vy := can_val (valW_nonneg hw1)
  have lx := can_le hw0
  have ly := can_le hw1
  obtain ⟨X, hX⟩ : ∃ X, X = can (valB W64 l0) := ⟨_, rfl⟩
  obtain ⟨Y, hY⟩ : ∃ Y, Y = can (valB W64 l1) := ⟨_, rfl⟩
  rw [← hX] at T0 C0 hx vx h4 lx
  rw [← hY] at T1 C1 hy vy ly
  rw [← vx, ← vy]
  have hXc : X.length ≤ c0 := by omega
  have hX5 : X.length ≤ 100000 := by omega
  have hY5 : Y.length ≤ 100000 := by omega
  have HC0 := Aside0.mk C0
  have HC1 := Aside0.mk C1
  clear hr0 hr1 hw0 hw1 vx vy hX hY lx ly C0 C1 hm0 hm1
  refine (callsIn_wide (n := 9)).1 ?_
  refine callsIn_of_wp_marks Tryd.func64 rfl trivial ?_ rfl
  simp only [Tryd.ntmps64, List.size_toArray, List.length_cons, List.length_nil, Nat.reduceAdd, Nat.reduceSub, Array.replicate_succ, Array.replicate_zero, List.push_toArray, List.append_toArray, List.nil_append, List.cons_append]
  gi_wp2_with fail
  refine ⟨trivial, (callsIn_wide.2 T0).mono ?_⟩
  rintro e w1 ⟨rfl, rfl⟩
  gi_wp2_with fail
  refine ⟨trivial, (callsIn_wide.2 T1).mono ?_⟩
  rintro e w1 ⟨rfl, rfl⟩
  have hmk := print_make (P := Tryd.prog) 23 36 .u64 8 Tryd.underlying23 iW (by decide) (X.length + Y.length) (by omega)
  simp only [Int.natCast_add] at hmk
  clear T0 T1
  gi_wp2_with fail
  refine ⟨trivial, (rows_in 8 _ _ _ _ _ _ _).mono ?_⟩
  rintro e w2 ⟨rfl, rfl⟩
  have r0 := (((RowB.made w (X.length + Y.length)).alloc (.cells #[.slice (some ⟨w.heap.size, 0, none⟩) (X.length + Y.length) (X.length + Y.length)] 23)).alloc (.cells #[.slice A0 X.length c0] 23)).alloc (.cells #[.slice A1 Y.length c1] 23)
  have bz := ((Boxed.new (w.alloc (.cells (madeCells #[.int .u64 0] (X.length + Y.length)) 36)) 23 (.slice (some ⟨w.heap.size, 0, none⟩) (X.length + Y.length) (X.length + Y.length))).alloc (.cells #[.slice A0 X.length c0] 23)).alloc (.cells #[.slice A1 Y.length c1] 23)
  have bx := (Boxed.new ((w.alloc (.cells (madeCells #[.int .u64 0] (X.length + Y.length)) 36)).alloc (.cells #[.slice (some ⟨w.heap.size, 0, none⟩) (X.length + Y.length) (X.length + Y.length)] 23)) 23 (.slice A0 X.length c0)).alloc (.cells #[.slice A1 Y.length c1] 23)
  have bY := Boxed.new (((w.alloc (.cells (madeCells #[.int .u64 0] (X.length + Y.length)) 36)).alloc (.cells #[.slice (some ⟨w.heap.size, 0, none⟩) (X.length + Y.length) (X.length + Y.length)] 23)).alloc (.cells #[.slice A0 X.length c0] 23)) 23 (.slice A1 Y.length c1)
  have HB := below_alloc (below_alloc (below_alloc (below_alloc (Below.refl w.heap.size w) (.cells (madeCells #[.int .u64 0] (X.length + Y.length)) 36)) (.cells #[.slice (some ⟨w.heap.size, 0, none⟩) (X.length + Y.length) (X.length + Y.length)] 23)) (.cells #[.slice A0 X.length c0] 23)) (.cells #[.slice A1 Y.length c1] 23)
  have hsz : ((((w.alloc (.cells (madeCells #[.int .u64 0] (X.length + Y.length)) 36)).alloc (.cells #[.slice (some ⟨w.heap.size, 0, none⟩) (X.length + Y.length) (X.length + Y.length)] 23)).alloc (.cells #[.slice A0 X.length c0] 23)).alloc (.cells #[.slice A1 Y.length c1] 23)).heap.size = w.heap.size + 4 := by simp
  simp only [World.size_alloc] at bz bx bY ⊢
  obtain ⟨g, hg⟩ : ∃ g, g = w.heap.size := ⟨_, rfl⟩
  rw [← hg] at r0 bz bx bY HB hsz ⊢
  clear hmk
  generalize ((((w.alloc (.cells (madeCells #[.int .u64 0] (X.length + Y.length)) 36)).alloc (.cells #[.slice (some ⟨g, 0, none⟩) (X.length + Y.length) (X.length + Y.length)] 23)).alloc (.cells #[.slice A0 X.length c0] 23)).alloc (.cells #[.slice A1 Y.length c1] 23)) = W at *
  subst hg
  gi_wp2_with fail
  have sW := hsz
  refine range_lays (n := 9) (by decide) (gf := 100) (lb := #[.pointer (some ⟨w.heap.size + 1 + 1 + 1, 0, none⟩), .pointer (some ⟨w.heap.size + 1 + 1, 0, none⟩)]) rfl (enters_of Tryd.func100 (by kernel_rfl) rfl)
   (rows_lays 8 (by decide) (w.heap.size + 1 + 1 + 1) (w.heap.size + 1 + 1) A0 A1 c0 c1 X Y w W HC0.out hXc HC1.out hx hy h4 HB bY bx) KeepB.trans ?hkb (fun pre x W l o o' h hl ho => RowAt.put pre x W l o o' h hl ho) (Below.refl _ _) (fun _ => rfl)
   (fun (pre : List (Nat × Nat × Nat)) V => (∃ z, MulI (X.length + Y.length) X Y z pre.length ∧ RowB V w.heap.size z ∧ Boxed V (w.heap.size + 1) 23 (.slice (some ⟨w.heap.size, 0, none⟩) (X.length + Y.length) (X.length + Y.length)) ∧ Boxed V (w.heap.size + 1 + 1) 23 (.slice A0 X.length c0)) ∧ Below w.heap.size w V)
   (OwnFrom.and ?own (ownFrom_below (Nat.le_refl _) (by omega)))
   ⟨⟨_, ⟨inB_zeros W64_pos _, by simp, by rw [valB_zeros]; simp [valB]⟩, r0, bz, bx⟩, HB⟩
   (fun (x : Nat × Nat × Nat) => { tmps := #[.slice A0 X.length c0, .slice A1 Y.length c1, undef, undef, .slice none 0 0, .pointer (some ⟨w.heap.size + 1, 0, none⟩), .int .i64 (x.1 : Int), .slice (some ⟨x.2.1, 0, none⟩) (X.length + 1) x.2.2, undef, undef, undef, .slice A0 l0.length c0, .slice A0 X.length c0, .slice A1 l1.length c1, .slice A1 Y.length c1, .slice A0 X.length c0, .int .i64 (X.length : Int), .slice A1 Y.length c1, .int .i64 (Y.length : Int), .int .i64 ((X.length : Int) + (Y.length : Int)), .slice (some ⟨w.heap.size, 0, none⟩) (X.length + Y.length) (X.length + Y.length), .slice A0 X.length c0, .slice A1 Y.length c1, .func (.func 100) #[] #[.pointer (some ⟨w.heap.size + 1 + 1 + 1, 0, none⟩), .pointer (some ⟨w.heap.size + 1 + 1, 0, none⟩)], .int .i64 (x.1 : Int), .slice (some ⟨x.2.1, 0, none⟩) (X.length + 1) x.2.2, undef, undef, undef, undef, undef, undef, undef, undef, undef, undef, undef, undef, undef, undef, undef, undef, undef, undef, undef, undef, undef, undef, undef, undef, undef, undef, undef], defers := [] }) ?assign ?body ?done
  case hkb =>
   intro W1 l o o' hl h ho hw
   exact ⟨belowK_b (w := W) HB.size W1 l o o' hl h ho hw, World.putObj_heap_other (by omega)⟩
  case own =>
   rintro s V V2 row ⟨z, h0, h1, h2, h3⟩ hG hr
   have hne : ∀ B, B < W.heap.size → some B ≠ row := fun B hB e => by have := (hr B e.symm).1; omega
   exact ⟨z, h0, blk_grown h1 hG (hne _ (by omega)), h2.kept hG (hne _ (by omega)), h3.kept hG (hne _ (by omega))⟩
  case assign =>
   intro l x V K hK
   unfold encR
   gi_wp2
   exact hK
  case body =>
   clear r0 bz bx bY HB
   rintro l pre ⟨i, g2, cap⟩ W1 ⟨⟨z, hz, r0, bz, bx⟩, HB⟩ ⟨hi, hlt, row, hrl, hrw, hrv, hown⟩
   simp only at hi hlt hrv hown
   obtain ⟨hz1, hz2, hz3⟩ := hz
   rw [← hi] at hz3
   have hg2 : W.heap.size ≤ g2 := own_base hown g2 rfl
   have HV := Aside0.mk (show valB W64 z = valB W64 X * valB W64 (Y.take i) from hz3)
   have HRV := Aside0.mk hrv
   have HI := Aside0.mk hi
   have HZ1 := Aside0.mk hz1
   have HRW := Aside0.mk hrw
   have HB1 := Aside0.mk HB
   clear hz3 hrv hi hz1 hrw HB
   have HBX1 := Aside0.mk bx
   gi_wp2
   gi_loopw [8, 28] (fun c v wr => ∃ (k : Nat) (z' : List Int) (cc : Int), k ≤ X.length + 1 ∧ v = .int .i64 (k : Int) ∧ c = .int .u64 cc ∧ 0 ≤ cc ∧ cc ≤ 1 ∧ Aside0 (inW z' ∧ z'.length = X.length + Y.length ∧ valB W64 z' + W64 ^ (i + k) * cc = valB W64 z + W64 ^ i * valB W64 (row.take k)) ∧ RowB wr w.heap.size z' ∧ Boxed wr (w.heap.size + 1) 23 (.slice (some ⟨w.heap.size, 0, none⟩) (X.length + Y.length) (X.length + Y.length)) ∧ Boxed wr (w.heap.size + 1 + 1) 23 (.slice A0 X.length c0) ∧ Aside0 (Below w.heap.size W1 wr) ∧ Aside0 (KeepsFrom W.heap.size W1 wr) ∧ wr.ownsRow W.heap.size 36 1 (.slice (some ⟨g2, 0, none⟩) (X.length + 1) cap) (X.length + 1) (nums .u64 row))
    (fun _ v _ => X.length + 1 - (intOf v).toNat)
   case atStart => exact ⟨0, z, 0, Nat.zero_le _, rfl, rfl, Int.le_refl 0, by decide, ⟨HZ1.out, hz2, by simp [valB]⟩, r0, bz, bx, ⟨Below.refl _ _⟩, ⟨KeepsFrom.refl _ _⟩, hown⟩
   case round =>
    clear r0 bz bx hown hz2
    obtain ⟨k, z', cc, hk, rfl, rfl, hc0', hc1', HZ, r0, bz, bx, HBW, HKF, hown⟩ := hrel
    by_cases hlk : k < X.length + 1
    ·have hki : (k : Int) < (X.length : Int) + 1 := by omega
     have hmx : Tryd.prog.follows .mixedOrders = true := by kernel_rfl
     obtain ⟨q1, q2⟩ := own_at hown (k : Int) (by omega) (by omega)
     have e0 : rd row (k : Int) = row.getD k 0 := by simp [rd]
     have e1 : ((k : Nat) : Int).toNat = k := rfl
     rw [e0, e1] at q1
     have hzl : z'.length = X.length + Y.length := HZ.out.2.1
     have x1 := r0.cell (i + k) (by omega)
     have f1 := r0.frozen (i + k)
     have gz := bz.cell
     have e3 : ((i : Int) + (k : Int)).toNat = i + k := by omega
     have j0 : (0 : Int) ≤ (i : Int) + (k : Int) := by omega
     have j1 : (i : Int) + (k : Int) < (X.length : Int) + (Y.length : Int) := by omega
     have k0 : (0 : Int) ≤ (k : Int) := by omega
     have hxw := isW_get HZ.out.1 (i + k)
     have hyw := isW_get HRW.out k
     have hadd := add64 (z'.getD (i + k) 0) (row.getD k 0) cc hxw.1 hyw.1 hc0' hc1'
     have hok := addS_ok hxw hyw ⟨hc0', hc1'⟩
     have HQ := Aside0.mk (show ∀ s c, (addS (z'.getD (i + k) 0) (row.getD k 0) cc) = (s, c) → (inW (z'.set (i + k) s) ∧ (z'.set (i + k) s).length = X.length + Y.length ∧ valB W64 (z'.set (i + k) s) + W64 ^ (i + (k + 1)) * c = valB W64 z + W64 ^ i * valB W64 (row.take (k + 1))) ∧ 0 ≤ c ∧ c ≤ 1 from by
      intro s c hsc
      rw [hsc] at hok
      obtain ⟨o1, o2, o3⟩ := hok
      refine ⟨⟨inB_set HZ.out.1 _ o2, by simp [hzl], ?_⟩, o1⟩
      rw [valB_set W64 z' (i + k) s (by omega), valB_take_succ W64 row k (by omega)]
      have h3 := HZ.out.2.2
      simp only at o3
      rw [Int.one_mul, Int.one_mul] at o3
      rw [show i + (k + 1) = (i + k) + 1 by omega, Int.pow_succ, show W64 ^ i * (valB W64 (row.take k) + W64 ^ k * row.getD k 0) = W64 ^ i * valB W64 (row.take k) + W64 ^ (i + k) * row.getD k 0 by rw [Int.mul_add, Int.pow_add, Int.mul_assoc]]
      generalize W64 ^ (i + k) = PP at *
      generalize W64 ^ i * valB W64 (row.take k) = QQ at *
      generalize z'.getD (i + k) 0 = zz at *
      generalize row.getD k 0 = rr at *
      have e9 : PP * W64 * c = PP * (W64 * c) := by rw [Int.mul_assoc]
      have e10 : W64 * c = zz + rr + cc - s := by omega
      rw [e9, e10]
      rw [Int.mul_sub, Int.mul_sub, Int.mul_add, Int.mul_add]
      omega)
     obtain ⟨s, c, hsc⟩ : ∃ s c, addS (z'.getD (i + k) 0) (row.getD k 0) cc = (s, c) := ⟨_, _, rfl⟩
     rw [hsc] at hadd
     have HQ' := Aside0.mk (HQ.out s c hsc)
     simp only at hadd
     obtain ⟨zz, hzz⟩ : ∃ zz, zz = z'.getD (i + k) 0 := ⟨_, rfl⟩
     obtain ⟨rr, hrr⟩ : ∃ rr, rr = row.getD k 0 := ⟨_, rfl⟩
     rw [← hzz] at hadd x1
     rw [← hrr] at hadd q1
     clear HQ hok hsc hxw hyw hzz hrr e0 q2 hzl
     gi_wp2
     rename_i Q1 K1 hK1
     have hQK : ∀ u50 : Value, K1 { tmps := #[.slice A0 X.length c0, .slice A1 Y.length c1, undef, undef, .slice none 0 0, .pointer (some ⟨w.heap.size + 1, 0, none⟩), .int .i64 (i : Int), .slice (some ⟨g2, 0, none⟩) (X.length + 1) cap, .int .u64 c, .int .i64 (k : Int), .int .u64 rr, .slice A0 l0.length c0, .slice A0 X.length c0, .slice A1 l1.length c1, .slice A1 Y.length c1, .slice A0 X.length c0, .int .i64 (X.length : Int), .slice A1 Y.length c1, .int .i64 (Y.length : Int), .int .i64 ((X.length : Int) + (Y.length : Int)), .slice (some ⟨w.heap.size, 0, none⟩) (X.length + Y.length) (X.length + Y.length), .slice A0 X.length c0, .slice A1 Y.length c1, .func (.func 100) #[] #[.pointer (some ⟨w.heap.size + 1 + 1 + 1, 0, none⟩), .pointer (some ⟨w.heap.size + 1 + 1, 0, none⟩)], .int .i64 (i : Int), .slice (some ⟨g2, 0, none⟩) (X.length + 1) cap, .slice (some ⟨g2, 0, none⟩) (X.length + 1) cap, .int .i64 ((X.length : Int) + 1), .int .i64 (k : Int), .bool true, .int .i64 (k : Int), .pointer (some ⟨g2, k, none⟩), .int .u64 rr, .tuple #[.int .u64 s, .int .u64 c], .slice (some ⟨w.heap.size, 0, none⟩) (X.length + Y.length) (X.length + Y.length), .int .i64 (i : Int), .int .i64 (k : Int), .int .i64 ((i : Int) + (k : Int)), .slice (some ⟨w.heap.size, 0, none⟩) (X.length + Y.length) (X.length + Y.length), .int .i64 (i : Int), .int .i64 (k : Int), .int .i64 ((i : Int) + (k : Int)), .pointer (some ⟨w.heap.size, i + k, none⟩), .int .u64 zz, .int .u64 rr, .int .u64 cc, .tuple #[.int .u64 s, .int .u64 c], .int .u64 s, .int .u64 c, .pointer (some ⟨w.heap.size, i + k, none⟩), u50, undef, undef], defers := [] } (wr.drew.setCell ⟨w.heap.size, i + k, none⟩ (.int .u64 s)) := by
      intro u50
      refine hK1 _ _ ?_
      gi_wp2
      go_roundw
      case rel =>
       refine ⟨k + 1, z'.set (i + k) s, c, by omega, by go_num, rfl, HQ'.out.2.1, HQ'.out.2.2, ⟨HQ'.out.1⟩, RowB.set (show RowB wr.drew w.heap.size z' from r0) (i + k) s, Boxed.far (show Boxed wr.drew _ _ _ from bz) (by show w.heap.size + 1 ≠ w.heap.size; omega) _, Boxed.far (show Boxed wr.drew _ _ _ from bx) (by show w.heap.size + 1 + 1 ≠ w.heap.size; omega) _, ⟨(below_drew HBW.out).setCell (by show w.heap.size ≤ w.heap.size; omega) _⟩, ⟨HKF.out.trans (((KeepsOthers.drew wr).trans (KeepsOthers.setCell _ _ _)).from _)⟩, ?_⟩
       exact own_setCell (show wr.drew.ownsRow _ _ _ _ _ _ from hown) (by simp only [Value.ownBlock]; intro e; injection e with e; omega) _
      case measure => simp [intOf]; omega
     have hQn : ∀ c a w, ¬ Q1 (.panic c) a w := fun c a w h => h
     have hwr : IntKind.i64.wrap ((i : Int) + (k : Int)) = (i : Int) + (k : Int) := IntWalk.i64_in _ (by omega)
     clear hK1 r0 bz bx hown HBW HKF HQ' hlk hki HZ HV HRV HI HZ1 HRW HB1 hsz sW hg2 hlt hrl HC0 HC1 hx hy hXc hX5 hY5 h4 hc0 hc1 hc0' hc1' hk
     clear_value Q1
     refine wpIn_region_any hmx (any_round (noDefer_of rfl) _ _ _ _ ?_)
     change wpAnyIn _ _ _ _ _ _ _ _ _ (World.drew _)
     have hQp : ∀ c a w, ¬ (Exit.inBlock 3 (Exit.then K1 Q1)) (.panic c) a w := fun c a w h => hQn c a w h
     refine wpAnyIn_take (i := 1) (v := ?_) rfl rfl (by kernel_rfl) (by kernel_rfl) (by kernel_rfl) (fun c a w h => (hQp c _ w h).elim) ⟨Or.inl ⟨by rfl, ?y1⟩, fun _ => rfl⟩ ?_
     case y1 => (intro w; go_simp; try rfl)
     refine wpAnyIn_take (i := 2) (v := ?_) rfl rfl (by kernel_rfl) (by kernel_rfl) (by kernel_rfl) (fun c a w h => (hQp c _ w h).elim) ⟨Or.inl ⟨by rfl, ?y2⟩, fun _ => rfl⟩ ?_
     case y2 => (intro w; go_simp; try rfl)
     refine wpAnyIn_take (i := 3) (v := ?_) rfl rfl (by kernel_rfl) (by kernel_rfl) (by kernel_rfl) (fun c a w h => (hQp c _ w h).elim) ⟨Or.inl ⟨by rfl, ?y3⟩, fun _ => rfl⟩ ?_
     case y3 => (intro w; go_simp; try rfl)
     refine wpAnyIn_take (i := 5) (v := ?_) rfl rfl (by kernel_rfl) (by kernel_rfl) (by kernel_rfl) (fun c a w h => (hQp c _ w h).elim) ⟨Or.inl ⟨by rfl, ?y5⟩, fun _ => rfl⟩ ?_
     case y5 => (intro w; go_simp; try rfl)
     refine wpAnyIn_take (i := 6) (v := ?_) rfl rfl (by kernel_rfl) (by kernel_rfl) (by kernel_rfl) (fun c a w h => (hQp c _ w h).elim) ⟨Or.inl ⟨by rfl, ?y6⟩, fun _ => rfl⟩ ?_
     case y6 => (intro w; go_simp; try rfl)
     refine wpAnyIn_take (i := 7) (v := ?_) rfl rfl (by kernel_rfl) (by kernel_rfl) (by kernel_rfl) (fun c a w h => (hQp c _ w h).elim) ⟨Or.inl ⟨by rfl, ?y7⟩, fun _ => rfl⟩ ?_
     case y7 => (intro w; go_simp; try rfl)
     refine wpAnyIn_take (i := 10) (v := ?_) rfl rfl (by kernel_rfl) (by kernel_rfl) (by kernel_rfl) (fun c a w h => (hQp c _ w h).elim) ⟨Or.inl ⟨by rfl, ?y10⟩, fun _ => rfl⟩ ?_
     case y10 => (intro w; go_simp; try rfl)
     refine wpAnyIn_take (i := 11) (v := ?_) rfl rfl (by kernel_rfl) (by kernel_rfl) (by kernel_rfl) (fun c a w h => (hQp c _ w h).elim) ⟨Or.inl ⟨by rfl, ?y11⟩, fun _ => rfl⟩ ?_
     case y11 => (intro w; go_simp; try rfl)
     refine wpAnyIn_ready (rs := [0, 4]) (by kernel_rfl) (by simp) ?_
     refine AllReadyIn.cons rfl (fun K hK => ?_) ?_
     ·go_simp
      refine hK _ _ ?_
      clear hK K
      refine wpAnyIn_ready (rs := [4]) (by kernel_rfl) (by simp) ?_
      refine AllReadyIn.cons rfl (fun K hK => ?_) ?_
      ·go_simp
       refine hK _ _ ?_
       clear hK K
       refine wpAnyIn_take (i := 8) (v := ?_) rfl rfl (by kernel_rfl) (by kernel_rfl) (by kernel_rfl) (fun c a w h => (hQp c _ w h).elim) ⟨Or.inl ⟨by rfl, ?y8⟩, fun _ => rfl⟩ ?_
       case y8 => (intro w; go_simp; try rfl)
       refine wpAnyIn_ready (rs := [9]) (by kernel_rfl) (by simp) ?_
       refine AllReadyIn.cons rfl (fun K hK => ?_) ?_
       ·go_simp
        refine hK _ _ ?_
        clear hK K
        refine wpAnyIn_ready (rs := [12]) (by kernel_rfl) (by simp) ?_
        refine AllReadyIn.cons rfl (fun K hK => ?_) ?_
        ·go_simp
         try rw [hadd]
         try simp only [go_sem]
         refine ⟨trivial, hK _ _ ?_⟩
         clear hK K
         refine wpAnyIn_take (i := 13) (v := ?_) rfl rfl (by kernel_rfl) (by kernel_rfl) (by kernel_rfl) (fun c a w h => (hQp c _ w h).elim) ⟨Or.inl ⟨by rfl, ?y13⟩, fun _ => rfl⟩ ?_
         case y13 => (intro w; go_simp; try rfl)
         refine wpAnyIn_take (i := 14) (v := ?_) rfl rfl (by kernel_rfl) (by kernel_rfl) (by kernel_rfl) (fun c a w h => (hQp c _ w h).elim) ⟨Or.inl ⟨by rfl, ?y14⟩, fun _ => rfl⟩ ?_
         case y14 => (intro w; go_simp; try rfl)
         refine wpAnyIn_take (i := 15) (v := ?_) rfl rfl (by kernel_rfl) (by kernel_rfl) (by kernel_rfl) (fun c a w h => (hQp c _ w h).elim) ⟨Or.inl ⟨by rfl, ?y15⟩, fun _ => rfl⟩ ?_
         case y15 => (intro w; go_simp; try rfl)
         refine wpAnyIn_take (i := 16) (v := ?_) rfl rfl (by kernel_rfl) (by kernel_rfl) (by kernel_rfl) (fun c a w h => (hQp c _ w h).elim) ⟨Or.inl ⟨by rfl, ?y16⟩, fun _ => rfl⟩ ?_
         case y16 => (intro w; go_simp; try rfl)
         refine wpAnyIn_ready (rs := [17]) (by kernel_rfl) (by simp) ?_
         refine AllReadyIn.cons rfl (fun K hK => ?_) ?_
         ·go_simp
          refine hK _ _ ?_
          clear hK K
          refine wpAnyIn_ready (rs := [18]) (by kernel_rfl) (by simp) ?_
          refine AllReadyIn.cons rfl (fun K hK => ?_) ?_
          ·go_simp
           refine hK _ _ ?_
           clear hK K
           refine wpAnyIn_done (by kernel_rfl) ?_ _
           exact hQK _
          exact AllReadyIn.nil
         exact AllReadyIn.nil
        exact AllReadyIn.nil
       exact AllReadyIn.nil
      exact AllReadyIn.nil
     refine AllReadyIn.cons rfl (fun K hK => ?_) ?_
     ·go_simp
      refine hK _ _ ?_
      clear hK K
      refine wpAnyIn_take (i := 8) (v := ?_) rfl rfl (by kernel_rfl) (by kernel_rfl) (by kernel_rfl) (fun c a w h => (hQp c _ w h).elim) ⟨Or.inl ⟨by rfl, ?y8⟩, fun _ => rfl⟩ ?_
      case y8 => (intro w; go_simp; try rfl)
      refine wpAnyIn_ready (rs := [0, 9]) (by kernel_rfl) (by simp) ?_
      refine AllReadyIn.cons rfl (fun K hK => ?_) ?_
      ·go_simp
       refine hK _ _ ?_
       clear hK K
       refine wpAnyIn_ready (rs := [9]) (by kernel_rfl) (by simp) ?_
       refine AllReadyIn.cons rfl (fun K hK => ?_) ?_
       ·go_simp
        refine hK _ _ ?_
        clear hK K
        refine wpAnyIn_ready (rs := [12]) (by kernel_rfl) (by simp) ?_
        refine AllReadyIn.cons rfl (fun K hK => ?_) ?_
        ·go_simp
         try rw [hadd]
         try simp only [go_sem]
         refine ⟨trivial, hK _ _ ?_⟩
         clear hK K
         refine wpAnyIn_take (i := 13) (v := ?_) rfl rfl (by kernel_rfl) (by kernel_rfl) (by kernel_rfl) (fun c a w h => (hQp c _ w h).elim) ⟨Or.inl ⟨by rfl, ?y13⟩, fun _ => rfl⟩ ?_
         case y13 => (intro w; go_simp; try rfl)
         refine wpAnyIn_take (i := 14) (v := ?_) rfl rfl (by kernel_rfl) (by kernel_rfl) (by kernel_rfl) (fun c a w h => (hQp c _ w h).elim) ⟨Or.inl ⟨by rfl, ?y14⟩, fun _ => rfl⟩ ?_
         case y14 => (intro w; go_simp; try rfl)
         refine wpAnyIn_take (i := 15) (v := ?_) rfl rfl (by kernel_rfl) (by kernel_rfl) (by kernel_rfl) (fun c a w h => (hQp c _ w h).elim) ⟨Or.inl ⟨by rfl, ?y15⟩, fun _ => rfl⟩ ?_
         case y15 => (intro w; go_simp; try rfl)
         refine wpAnyIn_take (i := 16) (v := ?_) rfl rfl (by kernel_rfl) (by kernel_rfl) (by kernel_rfl) (fun c a w h => (hQp c _ w h).elim) ⟨Or.inl ⟨by rfl, ?y16⟩, fun _ => rfl⟩ ?_
         case y16 => (intro w; go_simp; try rfl)
         refine wpAnyIn_ready (rs := [17]) (by kernel_rfl) (by simp) ?_
         refine AllReadyIn.cons rfl (fun K hK => ?_) ?_
         ·go_simp
          refine hK _ _ ?_
          clear hK K
          refine wpAnyIn_ready (rs := [18]) (by kernel_rfl) (by simp) ?_
          refine AllReadyIn.cons rfl (fun K hK => ?_) ?_
          ·go_simp
           refine hK _ _ ?_
           clear hK K
           refine wpAnyIn_done (by kernel_rfl) ?_ _
           exact hQK _
          exact AllReadyIn.nil
         exact AllReadyIn.nil
        exact AllReadyIn.nil
       exact AllReadyIn.nil
      refine AllReadyIn.cons rfl (fun K hK => ?_) ?_
      ·go_simp
       refine hK _ _ ?_
       clear hK K
       refine wpAnyIn_ready (rs := [0, 12]) (by kernel_rfl) (by simp) ?_
       refine AllReadyIn.cons rfl (fun K hK => ?_) ?_
       ·go_simp
        refine hK _ _ ?_
        clear hK K
        refine wpAnyIn_ready (rs := [12]) (by kernel_rfl) (by simp) ?_
        refine AllReadyIn.cons rfl (fun K hK => ?_) ?_
        ·go_simp
         try rw [hadd]
         try simp only [go_sem]
         refine ⟨trivial, hK _ _ ?_⟩
         clear hK K
         refine wpAnyIn_take (i := 13) (v := ?_) rfl rfl (by kernel_rfl) (by kernel_rfl) (by kernel_rfl) (fun c a w h => (hQp c _ w h).elim) ⟨Or.inl ⟨by rfl, ?y13⟩, fun _ => rfl⟩ ?_
         case y13 => (intro w; go_simp; try rfl)
         refine wpAnyIn_take (i := 14) (v := ?_) rfl rfl (by kernel_rfl) (by kernel_rfl) (by kernel_rfl) (fun c a w h => (hQp c _ w h).elim) ⟨Or.inl ⟨by rfl, ?y14⟩, fun _ => rfl⟩ ?_
         case y14 => (intro w; go_simp; try rfl)
         refine wpAnyIn_take (i := 15) (v := ?_) rfl rfl (by kernel_rfl) (by kernel_rfl) (by kernel_rfl) (fun c a w h => (hQp c _ w h).elim) ⟨Or.inl ⟨by rfl, ?y15⟩, fun _ => rfl⟩ ?_
         case y15 => (intro w; go_simp; try rfl)
         refine wpAnyIn_take (i := 16) (v := ?_) rfl rfl (by kernel_rfl) (by kernel_rfl) (by kernel_rfl) (fun c a w h => (hQp c _ w h).elim) ⟨Or.inl ⟨by rfl, ?y16⟩, fun _ => rfl⟩ ?_
         case y16 => (intro w; go_simp; try rfl)
         refine wpAnyIn_ready (rs := [17]) (by kernel_rfl) (by simp) ?_
         refine AllReadyIn.cons rfl (fun K hK => ?_) ?_
         ·go_simp
          refine hK _ _ ?_
          clear hK K
          refine wpAnyIn_ready (rs := [18]) (by kernel_rfl) (by simp) ?_
          refine AllReadyIn.cons rfl (fun K hK => ?_) ?_
          ·go_simp
           refine hK _ _ ?_
           clear hK K
           refine wpAnyIn_done (by kernel_rfl) ?_ _
           exact hQK _
          exact AllReadyIn.nil
         exact AllReadyIn.nil
        exact AllReadyIn.nil
       refine AllReadyIn.cons rfl (fun K hK => ?_) ?_
       ·go_simp
        try rw [hadd]
        try simp only [go_sem]
        refine ⟨trivial, hK _ _ ?_⟩
        clear hK K
        refine wpAnyIn_take (i := 13) (v := ?_) rfl rfl (by kernel_rfl) (by kernel_rfl) (by kernel_rfl) (fun c a w h => (hQp c _ w h).elim) ⟨Or.inl ⟨by rfl, ?y13⟩, fun _ => rfl⟩ ?_
        case y13 => (intro w; go_simp; try rfl)
        refine wpAnyIn_take (i := 14) (v := ?_) rfl rfl (by kernel_rfl) (by kernel_rfl) (by kernel_rfl) (fun c a w h => (hQp c _ w h).elim) ⟨Or.inl ⟨by rfl, ?y14⟩, fun _ => rfl⟩ ?_
        case y14 => (intro w; go_simp; try rfl)
        refine wpAnyIn_take (i := 15) (v := ?_) rfl rfl (by kernel_rfl) (by kernel_rfl) (by kernel_rfl) (fun c a w h => (hQp c _ w h).elim) ⟨Or.inl ⟨by rfl, ?y15⟩, fun _ => rfl⟩ ?_
        case y15 => (intro w; go_simp; try rfl)
        refine wpAnyIn_ready (rs := [0]) (by kernel_rfl) (by simp) ?_
        refine AllReadyIn.cons rfl (fun K hK => ?_) ?_
        ·go_simp
         refine hK _ _ ?_
         clear hK K
         refine wpAnyIn_take (i := 16) (v := ?_) rfl rfl (by kernel_rfl) (by kernel_rfl) (by kernel_rfl) (fun c a w h => (hQp c _ w h).elim) ⟨Or.inl ⟨by rfl, ?y16⟩, fun _ => rfl⟩ ?_
         case y16 => (intro w; go_simp; try rfl)
         refine wpAnyIn_ready (rs := [17]) (by kernel_rfl) (by simp) ?_
         refine AllReadyIn.cons rfl (fun K hK => ?_) ?_
         ·go_simp
          refine hK _ _ ?_
          clear hK K
          refine wpAnyIn_ready (rs := [18]) (by kernel_rfl) (by simp) ?_
          refine AllReadyIn.cons rfl (fun K hK => ?_) ?_
          ·go_simp
           refine hK _ _ ?_
           clear hK K
           refine wpAnyIn_done (by kernel_rfl) ?_ _
           exact hQK _
          exact AllReadyIn.nil
         exact AllReadyIn.nil
        exact AllReadyIn.nil
       exact AllReadyIn.nil
      exact AllReadyIn.nil
     exact AllReadyIn.nil
    ·obtain rfl : k = X.length + 1 := by omega
     obtain ⟨hz1, hz2', hz3⟩ := HZ.out
     have hrt : row.take (X.length + 1) = row := List.take_of_length_le (by omega)
     rw [hrt] at hz3
     obtain ⟨hval, rfl⟩ := mul_last hx hy hlt HV.out HRV.out hz1 hc0' hz3
     have HZ' := Aside0.mk hz1
     have HL' := Aside0.mk hz2'
     have HV' := Aside0.mk hval
     clear hz1 hz2' hz3 hrt hval HZ
     gi_wp2
     refine ⟨HKF.out, ⟨HBW.out, bx.trans HBX1.out.symm⟩, ⟨z', ⟨HZ'.out, HL'.out, ?_⟩, r0, bz, bx⟩, HB1.out.trans HBW.out⟩
     rw [List.length_append, ← HI.out]
     exact HV'.out
  case done =>
   clear r0 bz bx bY HB
   rintro D ys V hD hys ⟨⟨z, hz, r0, bz, bx⟩, HB⟩ hK
   obtain ⟨hz1, hz2, hz3⟩ := hz
   rw [hys, List.take_of_length_le (Nat.le_refl _)] at hz3
   have gz := bz.cell
   have hR0 := r0.own' w.heap.size (Nat.le_refl _) (by omega)
   rw [hz2] at hR0
   have T := trim1 (some ⟨w.heap.size, 0, none⟩) (X.length + Y.length) z V hz1 (R_C hR0) (by omega)
   have hR1 := R_can hR0 hz1
   rw [hz2] at T
   rw [hz3] at T hR1
   have HR1 := Aside0.mk hR1
   have HD := Aside0.mk hK
   have HDs := Aside0.mk hD
   have HB' := Aside0.mk HB
   have HR0 := Aside0.mk r0
   clear hz1 hz2 hz3 hR0 hR1 hK hD HB r0 bz bx
   gi_wp2_with fail
   refine ⟨trivial, (callsIn_wide.2 T).mono ?_⟩
   rintro e w9 ⟨rfl, rfl⟩
   gi_wp2
   have hK' := HD.out
   have hDs := HDs.out
   refine ⟨by simp, .inl ⟨_, _, rfl, run_takeDeferred hK', ?_⟩⟩
   refine ⟨_, results_tmp rfl _ _ _, _, rfl, ?_, ?_⟩
   ·have h1 := Kd.own_of_R (enc := Value.int .u64) (h1 := fun _ => rfl) HR1.out
    exact Kd.R_of_own (enc := Value.int .u64) (h1 := fun _ => rfl) (ownsRow_putObj h1 _ hK' rfl) (fun _ _ => trivial)
   ·exact HB'.out.trans (belowK_b (w := w) (Nat.le_refl _) _ D _ _ (by omega) hK' rfl rfl)
 ·rw [if_neg hw] at h; cases h
end Go.Proofs.YtkkkbalefnileaaDoor.Ex
/- nat.Sub. -/
namespace Go.Proofs.YtkkkbalefnileaaDoor.Ex
open Go.RowKit Go.Proofs.YtkkkbalefnileaaDoorW.PrintWords Go.Proofs.YtkkkbalefnileaaDoorW.PrintLast Go.Proofs.YtkkkbalefnileaaDoorW.PrintMore
set_option linter.unusedVariables false
set_option linter.unusedSimpArgs false

def nat_Sub.f (l0 l1 : List Int) : Option (List Int × Int) :=
  if inW l0 ∧ inW l1 then
    if l0.length ≤ 4096 ∧ l1.length ≤ 4096 then
      if valB W64 l0 < valB W64 l1 then some ([], 8) else some (can (valB W64 l0 - valB W64 l1), 0)
    else some ([], 2)
  else none
theorem sub_words {X Y : List Int} (hX : canL X) (hY : canL Y) (hx4 : X.length ≤ 4096) (h : valB W64 Y ≤ valB W64 X) :
    Y.length ≤ X.length ∧ inW (Y ++ List.replicate (X.length - Y.length) 0) ∧ (Y ++ List.replicate (X.length - Y.length) 0).length = X.length ∧
    ∃ r, words_Sub.f X (Y ++ List.replicate (X.length - Y.length) 0) 0 = some (r, 0, 0) ∧ inW r ∧ r.length = X.length ∧ valB W64 r = valB W64 X - valB W64 Y := by
  have hle : Y.length ≤ X.length := by
    by_cases hl : Y.length ≤ X.length
    · exact hl
    · have := cmp_short hX hY (by omega); omega
  have hO : inW (Y ++ List.replicate (X.length - Y.length) 0) := inB_append.2 ⟨canL_in hY, inB_zeros W64_pos _⟩
  have hlen : (Y ++ List.replicate (X.length - Y.length) 0).length = X.length := by simp; omega
  have hval : valB W64 (Y ++ List.replicate (X.length - Y.length) 0) = valB W64 Y := by rw [valB_append, valB_zeros, Int.mul_zero, Int.add_zero]
  refine ⟨hle, hO, hlen, ?_⟩
  have hs := sub_val X (Y ++ List.replicate (X.length - Y.length) 0) 0 (canL_in hX) hO hlen ⟨Int.le_refl 0, by decide⟩
  have hl := carryL_length (fun i c => subS (X.getD i 0) ((Y ++ List.replicate (X.length - Y.length) 0).getD i 0) c) X.length 0 0
  simp only at hs
  have hchk : chk [X, Y ++ List.replicate (X.length - Y.length) 0] = 0 := by
    unfold chk
    have h1 : ([X, Y ++ List.replicate (X.length - Y.length) 0].all fun x => decide (x.length ≤ 4096)) = true := by
      simp only [List.all_cons, List.all_nil, Bool.and_true, hlen]; simp [hx4]
    have h2 : ([X, Y ++ List.replicate (X.length - Y.length) 0].all fun x => decide (x.length = ([X, Y ++ List.replicate (X.length - Y.length) 0].headD []).length)) = true := by
      simp only [List.all_cons, List.all_nil, Bool.and_true, hlen, List.headD_cons]; simp
    rw [if_pos h1, if_pos h2]
  have hf : words_Sub.f X (Y ++ List.replicate (X.length - Y.length) 0) 0 = some ((carryL (fun i c => subS (X.getD i 0) ((Y ++ List.replicate (X.length - Y.length) 0).getD i 0) c) X.length 0 0).1, (carryL (fun i c => subS (X.getD i 0) ((Y ++ List.replicate (X.length - Y.length) 0).getD i 0) c) X.length 0 0).2, 0) := by
    unfold words_Sub.f
    rw [if_pos ⟨canL_in hX, hO, ⟨Int.le_refl 0, W64_pos⟩⟩, if_pos hchk, if_neg (by decide)]
  generalize carryL (fun i c => subS (X.getD i 0) ((Y ++ List.replicate (X.length - Y.length) 0).getD i 0) c) X.length 0 0 = R at hs hl hf
  obtain ⟨⟨c0, c1⟩, hin, hv⟩ := hs
  rw [hval] at hv
  have b0 := valB_nonneg W64_pos hin
  have b1 := valB_lt W64_pos hin
  rw [hl] at b1
  have hp := pow_posB W64_pos X.length
  have hc : R.2 = 0 := by
    by_cases h0 : R.2 = 0
    · exact h0
    · have h1 : R.2 = 1 := by omega
      rw [h1, Int.mul_one] at hv
      omega
  rw [hc] at hf hv
  exact ⟨R.1, hf, hin, hl, by omega⟩
set_option maxRecDepth 100000 in
set_option maxHeartbeats 2000000 in
theorem nat_Sub.calls (A0 : Option Addr) (c0 : Nat) (l0 : List Int) (A1 : Option Addr) (c1 : Nat) (l1 : List Int) (r1 : List Int) (r2 : Int) (w : World) (hr0 : Kd.C (Kd.int .u64) w A0 l0.length l0) (hc0 : l0.length ≤ c0) (hr1 : Kd.C (Kd.int .u64) w A1 l1.length l1) (hc1 : l1.length ≤ c1) (h : nat_Sub.f l0 l1 = some (r1, r2)) :
  Calls Tryd.prog 37 #[.slice A0 l0.length c0, .slice A1 l1.length c1] w fun e w' => ∃ v0_ : Value, e = .returned (.tuple #[v0_, .int .i64 r2]) ∧ Kd.R (Kd.int .u64) 36 w' w.heap.size (fun _ => True) v0_ r1 ∧ Below w.heap.size w w' := by
 unfold nat_Sub.f at h
 by_cases hw : inW l0 ∧ inW l1
 ·rw [if_pos hw] at h
  obtain ⟨hw0, hw1⟩ := hw
  by_cases h4 : l0.length ≤ 4096 ∧ l1.length ≤ 4096
  ·rw [if_pos h4] at h
   have HL := Aside0.mk (large_two A0 A1 c0 c1 l0 l1 w false hr0 hc0 hr1 hc1 (decide_eq_false (by omega)))
   have cX := can_canL (valW_nonneg hw0)
   have cY := can_canL (valW_nonneg hw1)
   have vx := can_val (valW_nonneg hw0)
   have vy := can_val (valW_nonneg hw1)
   have lx := can_le hw0
   have ly := can_le hw1
   have T0 := fun w' (hb : Below w.heap.size w w') => trim1 A0 c0 l0 w' hw0 (Kd.C_below hr0 hb) hc0
   have T1 := fun w' (hb : Below w.heap.size w w') => trim1 A1 c1 l1 w' hw1 (Kd.C_below hr1 hb) hc1
   have C0 := C_take hr0 _ (can_le hw0)
   have C1 := C_take hr1 _ (can_le hw1)
   rw [can_take hw0] at C0
   rw [can_take hw1] at C1
   obtain ⟨X, hX⟩ : ∃ X, X = can (valB W64 l0) := ⟨_, rfl⟩
   obtain ⟨Y, hY⟩ : ∃ Y, Y = can (valB W64 l1) := ⟨_, rfl⟩
   rw [← hX] at T0 C0 cX vx lx
   rw [← hY] at T1 C1 cY vy ly
   rw [← vx, ← vy] at h
   have HT0 := Aside0.mk T0
   have HT1 := Aside0.mk T1
   have HC0 := Aside0.mk C0
   have HC1 := Aside0.mk C1
   have hXc : X.length ≤ c0 := by omega
   have hYc : Y.length ≤ c1 := by omega
   have hX4 : X.length ≤ 4096 := by omega
   have hY4 : Y.length ≤ 4096 := by omega
   clear T0 T1 C0 C1 hr0 hr1 hX hY vx vy
   by_cases hlt : valB W64 X < valB W64 Y
   ·rw [if_pos hlt] at h
    cases h
    have HCmp := Aside0.mk (show nat_compare.f X Y = some (-1) by unfold nat_compare.f; rw [if_pos ⟨cX, cY, by omega, by omega⟩, cmpI_lt hlt])
    go_enter Tryd.func37, Tryd.ntmps37
    go_wp2_with fail
    refine HL.out.mono ?_
    rintro e w1 ⟨rfl, hb1⟩
    have HB1 := Aside0.mk hb1
    clear hb1
    go_wp2_with fail
    refine (HT0.out _ HB1.out).mono ?_
    rintro e w2 ⟨rfl, rfl⟩
    go_wp2_with fail
    refine (HT1.out _ HB1.out).mono ?_
    rintro e w2 ⟨rfl, rfl⟩
    go_wp2_with fail
    refine (nat_compare.calls _ _ X _ _ Y _ _ (Kd.C_below HC0.out HB1.out) hXc (Kd.C_below HC1.out HB1.out) hYc HCmp.out).mono ?_
    rintro e w2 ⟨rfl, hd⟩
    have HB2 := Aside0.mk (below_step HB1.out hd.below)
    clear hd
    go_wp2
    go_ret2
    exact ⟨_, rfl, Kd.R_nil _ _ _ _ _, HB2.out⟩
   ·rw [if_neg hlt] at h
    cases h
    obtain ⟨hle, hO, hlen, r, hf, hri, hrl, hrv⟩ := sub_words cX cY hX4 (by omega)
    obtain ⟨q, hq0, hq⟩ : ∃ q : Int, 0 ≤ q ∧ nat_compare.f X Y = some q := by
     refine ⟨cmpI (valB W64 X) (valB W64 Y), ?_, by unfold nat_compare.f; rw [if_pos ⟨cX, cY, by omega, by omega⟩]⟩
     unfold cmpI; rw [if_neg hlt]; split <;> decide
    have hqb : decide (q < 0) = false := decide_eq_false (by omega)
    have HCmp := Aside0.mk hq
    have HF := Aside0.mk hf
    have HRI := Aside0.mk hri
    have HRV := Aside0.mk hrv
    have HLE := Aside0.mk hlen
    have hmk := print_make (P := Tryd.prog) 23 36 .u64 8 Tryd.underlying23 iW (by decide) X.length (by omega)
    clear hq hf hri hrv hlen hrl
    go_enter Tryd.func37, Tryd.ntmps37
    go_wp2_with fail
    refine HL.out.mono ?_
    rintro e w1 ⟨rfl, hb1⟩
    have HB1 := Aside0.mk hb1
    clear hb1
    go_wp2_with fail
    refine (HT0.out _ HB1.out).mono ?_
    rintro e w2 ⟨rfl, rfl⟩
    go_wp2_with fail
    refine (HT1.out _ HB1.out).mono ?_
    rintro e w2 ⟨rfl, rfl⟩
    go_wp2_with fail
    refine (nat_compare.calls _ _ X _ _ Y _ _ (Kd.C_below HC0.out HB1.out) hXc (Kd.C_below HC1.out HB1.out) hYc HCmp.out).mono ?_
    rintro e w2 ⟨rfl, hd⟩
    have HB2 := Aside0.mk (below_step HB1.out hd.below)
    clear hd HB1
    have HRB := Aside0.mk (RowB.made w2 X.length)
    have HB3 := Aside0.mk (below_alloc HB2.out (.cells (madeCells #[.int .u64 0] X.length) 36))
    have HYR := Aside0.mk (show ∀ j v, (nums .u64 Y)[j]? = some v → ∃ ad, A1 = some ad ∧ (w2.alloc (.cells (madeCells #[.int .u64 0] X.length) 36)).cell? (ad.add j) = some v from by
     intro j v hj
     have hjl : j < Y.length := by have := (List.getElem?_eq_some_iff.1 hj).1; simpa [nums] using this
     obtain ⟨ad, had, hx⟩ := Kd.at_int (Kd.C_below HC1.out HB3.out) (j : Int) (by omega) (by omega)
     refine ⟨ad, had, ?_⟩
     rw [show rd Y (j : Int) = Y.getD j 0 by simp [rd]] at hx
     have e : v = .int .u64 (Y.getD j 0) := by
      simp only [nums, List.getElem?_map, List.getElem?_eq_getElem hjl, Option.map_some, Option.some.injEq] at hj
      rw [← hj, List.getD_eq_getElem?_getD, List.getElem?_eq_getElem hjl]; rfl
     rw [e]
     exact hx)
    go_wp2_with ((with_reducible refine gate_builtin (b := .copy) (xs := #[.tmp 25, .tmp 26]) rfl ?_); refine wpList_copy_splice rfl (.tmp 25) (.tmp 26) 23 23 rfl 36 Tryd.underlying23 ?z1 _ _ _ _ _ _ rfl rfl w2.heap.size 0 (nums .u64 (List.replicate X.length 0)) 36 HRB.out (nums .u64 Y) ?z2 ?z3 ?z4 ?z5 w.heap.size w HB3.out ?z6 ?_)
    case z1 => kernel_rfl
    case z2 => simp only [nums, List.length_map]; exact (Nat.min_eq_left hle).symm
    case z3 =>
     intro hp
     have h0 : 0 < (nums .u64 Y).length := hp
     obtain ⟨ad, had, _⟩ := HYR.out 0 _ (List.getElem?_eq_getElem h0)
     have hall : ∀ j v, (nums .u64 Y)[j]? = some v → (w2.alloc (.cells (madeCells #[.int .u64 0] X.length) 36)).cell? (ad.add j) = some v := by
      intro j v hj
      obtain ⟨ad', had', hc'⟩ := HYR.out j v hj
      rw [had] at had'
      cases had'
      exact hc'
     first | exact ⟨rfl, ad, had, hall⟩ | exact ⟨ad, had, hall⟩ | (trace_state; exact ⟨ad, had, hall⟩)
    case z4 => simp [nums]; exact hle
    case z5 =>
     intro v hv
     simp only [nums, List.mem_map] at hv
     obtain ⟨x, _, rfl⟩ := hv
     rfl
    case z6 => exact below_size HB2.out
    intro w3 hg3 hb3
    have hRB : RowB w3 w2.heap.size (Y ++ List.replicate (X.length - Y.length) 0) := by
     have h1 := hg3.out
     unfold RowB
     rw [h1]
     congr 2
     simp [splice, nums, List.map_append]
    have HR := Aside0.mk (hRB.own' 0 (Nat.zero_le _) (by rw [HLE.out]; omega))
    have HB4 := Aside0.mk hb3
    clear HRB HB3 HYR hg3 hb3 hRB hmk
    obtain ⟨O, hOO⟩ : ∃ O, O = Y ++ List.replicate (X.length - Y.length) 0 := ⟨_, rfl⟩
    rw [← hOO] at HR HF HLE
    clear hOO hO
    have hOc : O.length ≤ X.length := by rw [HLE.out]; exact Nat.le_refl _
    have HW := Aside0.mk (words_Sub.calls A0 c0 X (some ⟨w2.heap.size, 0, none⟩) X.length O 0 r 0 0 w3 (Kd.C_below HC0.out HB4.out) hXc (R_C HR.out) hOc HF.out)
    rw [HLE.out] at HW
    go_wp2_with fail
    refine HW.out.mono ?_
    rintro e w4 ⟨v0, rfl, hR, hb4⟩
    obtain ⟨A5, c5, rfl⟩ := Kd.R_slice hR
    have HR5 := Aside0.mk (Kd.R_lower hR (below_size HB4.out))
    have HB5 := Aside0.mk (below_step HB4.out hb4)
    clear hR hb4 HW HR
    go_wp2_with fail
    refine (trim1 _ _ r _ HRI.out (R_C HR5.out) (R_cap HR5.out)).mono ?_
    rintro e w6 ⟨rfl, rfl⟩
    go_wp2
    go_ret2
    refine ⟨_, rfl, ?_, HB5.out⟩
    have h5 := R_can HR5.out HRI.out
    rw [HRV.out] at h5
    rw [HRV.out]
    exact h5
  ·rw [if_neg h4] at h
   cases h
   have HL := Aside0.mk (large_two A0 A1 c0 c1 l0 l1 w true hr0 hc0 hr1 hc1 (decide_eq_true (by omega)))
   clear hr0 hr1
   go_enter Tryd.func37, Tryd.ntmps37
   go_wp2_with fail
   refine HL.out.mono ?_
   rintro e w1 ⟨rfl, hb1⟩
   have HB1 := Aside0.mk hb1
   clear hb1
   go_wp2
   go_ret2
   exact ⟨_, rfl, Kd.R_nil _ _ _ _ _, HB1.out⟩
 ·rw [if_neg hw] at h; cases h
end Go.Proofs.YtkkkbalefnileaaDoor.Ex
/- The library's division and product of words, as the print's contracts are told; TrailingZeros64 besides. -/
namespace Go.Proofs.YtkkkbalefnileaaDoor.Ex
open Go.RowKit Go.Proofs.YtkkkbalefnileaaDoorW.PrintWords Go.Proofs.YtkkkbalefnileaaDoorW.PrintLast Go.Proofs.YtkkkbalefnileaaDoorW.PrintMore
set_option linter.unusedVariables false

def bits_Div64.f (a0 a1 a2 : Int) : Option (Int × Int) := if (0 ≤ a0 ∧ a0 < a2) ∧ isW a1 ∧ a2 < W64 then some ((a0 * W64 + a1) / a2, (a0 * W64 + a1) % a2) else none
theorem bits_Div64.calls (a0 : Int) (a1 : Int) (a2 : Int) (r1 : Int) (r2 : Int) (w : World)  (h : bits_Div64.f a0 a1 a2 = some (r1, r2)) :
    Calls Tryd.prog 96 #[.int .u64 a0, .int .u64 a1, .int .u64 a2] w fun e w' => e = .returned (.tuple #[.int .u64 r1, .int .u64 r2]) ∧ Drawn0 w w' := by
  unfold bits_Div64.f at h
  by_cases hw : (0 ≤ a0 ∧ a0 < a2) ∧ isW a1 ∧ a2 < W64
  · rw [if_pos hw] at h
    cases h
    exact div64 a0 a1 a2 hw.1.1 hw.1.2 hw.2.1 hw.2.2 w
  · rw [if_neg hw] at h; cases h
end Go.Proofs.YtkkkbalefnileaaDoor.Ex
/- nat.Pow. -/
namespace Go.Proofs.YtkkkbalefnileaaDoor.Ex
open Go.RowKit Go.Proofs.YtkkkbalefnileaaDoorW.PrintWords Go.Proofs.YtkkkbalefnileaaDoorW.PrintLast Go.Proofs.YtkkkbalefnileaaDoorW.PrintMore
set_option linter.unusedVariables false
set_option linter.unusedSimpArgs false

theorem W64_pow2 : W64 = 2 ^ 64 := by decide
theorem pow2_W (n : Nat) : W64 ^ n = 2 ^ (64 * n) := by rw [W64_pow2, Int.pow_mul]
theorem pow_base {a b : Int} (h0 : 0 ≤ a) (h : a ≤ b) : ∀ k : Nat, a ^ k ≤ b ^ k
  | 0 => by simp
  | k + 1 => by
    rw [Int.pow_succ, Int.pow_succ]
    exact Int.mul_le_mul (pow_base h0 h k) h h0 (Int.pow_nonneg (by omega))
theorem lenL_bounds {l : List Int} (h : canL l) (h0 : l ≠ []) : 1 ≤ lenL l ∧ 64 * (l.length : Int) - 64 < lenL l ∧ lenL l ≤ 64 * (l.length : Int) ∧ 2 ^ (lenL l - 1).toNat ≤ valB W64 l ∧ valB W64 l < 2 ^ (lenL l).toNat := by
  obtain ⟨n, hn⟩ : ∃ n, l.length = n + 1 := by cases l with | nil => exact (h0 rfl).elim | cons x l => exact ⟨l.length, rfl⟩
  have hin := canL_in h
  have hx := isW_get hin n
  have hlast : l.getD n 0 ≠ 0 := by
    have h1 := canL_low h h0
    intro e
    have h2 := valB_take_succ W64 l n (by omega)
    rw [List.take_of_length_le (by omega), e, Int.mul_zero, Int.add_zero] at h2
    have h3 := valB_lt W64_pos (inB_take hin n)
    rw [List.length_take, Nat.min_eq_left (by omega)] at h3
    rw [hn, Nat.add_sub_cancel] at h1
    omega
  have hv := valB_take_succ W64 l n (by omega)
  rw [List.take_of_length_le (by omega)] at hv
  have hlo := valB_nonneg W64_pos (inB_take hin n)
  have hhi := valB_lt W64_pos (inB_take hin n)
  rw [List.length_take, Nat.min_eq_left (by omega)] at hhi
  unfold lenL
  rw [if_neg (by omega), hn, Nat.add_sub_cancel]
  obtain ⟨X, hX⟩ := Int.eq_ofNat_of_zero_le hx.1
  have hX2 := hx.2
  rw [hX] at hX2 hv hlast ⊢
  rw [W64_eq] at hX2
  obtain ⟨b1, b2, b3⟩ := bitLen_bounds 64 X (Nat.le_refl _) (by omega)
  obtain ⟨b4, b5⟩ := b2 (by omega)
  rw [Int.toNat_natCast]
  generalize Lib.bitLen X = b at *
  have e1 : (64 * ((n + 1 : Nat) : Int) - (64 - (b : Int)) - 1).toNat = 64 * n + (b - 1) := by omega
  have e2 : (64 * ((n + 1 : Nat) : Int) - (64 - (b : Int))).toNat = 64 * n + b := by omega
  rw [e1, e2, Int.pow_add, Int.pow_add, ← pow2_W]
  have hp := pow_posB W64_pos n
  have c1 : (2 : Int) ^ (b - 1) ≤ (X : Int) := by have : ((2 ^ (b - 1) : Nat) : Int) ≤ (X : Int) := Int.ofNat_le.2 b5; simpa using this
  have c2 : (X : Int) + 1 ≤ (2 : Int) ^ b := by have : ((X + 1 : Nat) : Int) ≤ ((2 ^ b : Nat) : Int) := Int.ofNat_le.2 b1; simpa using this
  have d1 := Int.mul_le_mul_of_nonneg_left c1 (Int.le_of_lt hp)
  have d2 := Int.mul_le_mul_of_nonneg_left c2 (Int.le_of_lt hp)
  rw [Int.mul_add, Int.mul_one] at d2
  generalize W64 ^ n * (2 : Int) ^ (b - 1) = p1 at *
  generalize W64 ^ n * (2 : Int) ^ b = p2 at *
  generalize W64 ^ n * (X : Int) = p3 at *
  refine ⟨by omega, by omega, by omega, by omega, by omega⟩
/-- A power of what is long is too long. -/
theorem pow_early {v L : Int} {k : Nat} (hL : 1 ≤ L) (hv : 2 ^ (L - 1).toNat ≤ v) (h : 262144 ≤ (L - 1) * k) : W64 ^ 4096 ≤ v ^ k := by
  have h1 := pow_base (Int.pow_nonneg (by decide)) hv k
  obtain ⟨m, hm⟩ := Int.eq_ofNat_of_zero_le (show 0 ≤ L - 1 by omega)
  rw [hm, Int.toNat_natCast, ← Int.pow_mul] at h1
  rw [hm] at h
  have h2 : 64 * 4096 ≤ m * k := by
    have : ((64 * 4096 : Nat) : Int) ≤ ((m * k : Nat) : Int) := by rw [Int.natCast_mul]; exact h
    omega
  rw [pow2_W]
  exact Int.le_trans (pow_mono (B := 2) (by decide) h2) h1
theorem pow_le_exp {v : Int} (h1 : 1 ≤ v) {j k : Nat} (h : j ≤ k) : v ^ j ≤ v ^ k := pow_mono h1 h
/-- What is too long stays so. -/
theorem pow_long {v : Int} (h0 : 0 ≤ v) {j k : Nat} (h : j ≤ k) (hj : 4096 < (can (v ^ j)).length) : 4096 < (can (v ^ k)).length := by
  have hpj : 0 ≤ v ^ j := Int.pow_nonneg h0
  have hpk : 0 ≤ v ^ k := Int.pow_nonneg h0
  have h1 := canL_low (can_canL hpj) (by intro e; rw [e] at hj; simp at hj)
  rw [can_val hpj] at h1
  have h2 := pow_mono (B := W64) (by decide) (show 4096 ≤ (can (v ^ j)).length - 1 by omega)
  refine can_high hpk (Int.le_trans (Int.le_trans h2 h1) ?_)
  by_cases hv : v = 0
  · subst hv
    cases j with
    | zero => rw [Int.pow_zero] at hj; have : (can 1).length = 1 := by decide
              omega
    | succ j => rw [Int.zero_pow (by omega)] at hj; rw [can_zero] at hj; simp at hj
  · exact pow_le_exp (by omega) h
def fitV (v : Int) : List Int × Int := if (can v).length ≤ 4096 then (can v, 0) else ([], 2)
def nat_Pow.f (l0 : List Int) (a1 : Int) : Option (List Int × Int) :=
  if inW l0 then
    if l0.length ≤ 4096 then
      if a1 < 0 ∨ 1000000 < a1 then some ([], 1) else some (fitV (valB W64 l0 ^ a1.toNat))
    else some ([], 2)
  else none
theorem fit_sq {v : Int} (h0 : 0 ≤ v) (j : Nat) (h : (can (v ^ j)).length ≤ 4096) : nat_mul.f (can (v ^ j)) (can (v ^ j)) = some (can (v ^ (2 * j))) := by
  have hp : 0 ≤ v ^ j := Int.pow_nonneg h0
  unfold nat_mul.f
  rw [can_val hp, if_pos ⟨can_in hp, can_in hp, by omega, by omega, h⟩, Nat.two_mul, Int.pow_add]
theorem fit_one {v : Int} (h0 : 0 ≤ v) (j : Nat) (X : List Int) (hX : inW X) (hXv : valB W64 X = v) (hX4 : X.length ≤ 100000) (h : (can (v ^ j)).length ≤ 4096) : nat_mul.f (can (v ^ j)) X = some (can (v ^ (j + 1))) := by
  have hp : 0 ≤ v ^ j := Int.pow_nonneg h0
  unfold nat_mul.f
  rw [can_val hp, hXv, if_pos ⟨can_in hp, hX, by omega, hX4, h⟩, Int.pow_succ]
set_option maxRecDepth 100000 in
set_option maxHeartbeats 4000000 in
theorem nat_Pow.calls (A0 : Option Addr) (c0 : Nat) (l0 : List Int) (a1 : Int) (r1 : List Int) (r2 : Int) (w : World) (hr0 : Kd.C (Kd.int .u64) w A0 l0.length l0) (hc0 : l0.length ≤ c0) (h : nat_Pow.f l0 a1 = some (r1, r2)) :
  Calls Tryd.prog 34 #[.slice A0 l0.length c0, .int .i64 a1] w fun e w' => ∃ v0_ : Value, e = .returned (.tuple #[v0_, .int .i64 r2]) ∧ Kd.R (Kd.int .u64) 36 w' w.heap.size (fun _ => True) v0_ r1 ∧ Below w.heap.size w w' := by
 unfold nat_Pow.f at h
 by_cases hw : inW l0
 ·rw [if_pos hw] at h
  by_cases h4 : l0.length ≤ 4096
  ·rw [if_pos h4] at h
   have HL := Aside0.mk (large_one A0 c0 l0 w false hr0 hc0 (decide_eq_false (by omega)))
   by_cases hk : a1 < 0 ∨ 1000000 < a1
   ·rw [if_pos hk] at h
    cases h
    clear hr0
    by_cases hk0 : a1 < 0
    ·have b0 : decide (a1 < 0) = true := decide_eq_true hk0
     go_enter Tryd.func34, Tryd.ntmps34
     go_wp2
     go_step3
     go_wp2_with fail
     refine HL.out.mono ?_
     rintro e w1 ⟨rfl, hb1⟩
     have HB1 := Aside0.mk hb1
     clear hb1
     go_wp2
     try rw [Exit.noGoto_ret]
     go_ret2
     exact ⟨_, rfl, Kd.R_nil _ _ _ _ _, HB1.out⟩
    ·have b0 : decide (a1 < 0) = false := decide_eq_false hk0
     have b1 : decide (1000000 < a1) = true := decide_eq_true (by omega)
     go_enter Tryd.func34, Tryd.ntmps34
     go_wp2
     go_step3
     go_wp2_with fail
     refine HL.out.mono ?_
     rintro e w1 ⟨rfl, hb1⟩
     have HB1 := Aside0.mk hb1
     clear hb1
     go_wp2
     try rw [Exit.noGoto_ret]
     go_ret2
     exact ⟨_, rfl, Kd.R_nil _ _ _ _ _, HB1.out⟩
   ·rw [if_neg hk] at h
    have b0 : decide (a1 < 0) = false := decide_eq_false (by omega)
    have b1 : decide (1000000 < a1) = false := decide_eq_false (by omega)
    have hv0 := valW_nonneg hw
    have cX := can_canL hv0
    have vx := can_val hv0
    have lx := can_le hw
    have HT0 := Aside0.mk (fun w' (hb : Below w.heap.size w w') => trim1 A0 c0 l0 w' hw (Kd.C_below hr0 hb) hc0)
    have C0 := C_take hr0 _ (can_le hw)
    rw [can_take hw] at C0
    obtain ⟨v, hv⟩ : ∃ v, v = valB W64 l0 := ⟨_, rfl⟩
    rw [← hv] at h hv0 cX vx lx HT0 C0
    obtain ⟨X, hX⟩ : ∃ X, X = can v := ⟨_, rfl⟩
    rw [← hX] at cX vx lx HT0 C0
    have HC0 := Aside0.mk C0
    obtain ⟨k, rfl⟩ := Int.eq_ofNat_of_zero_le (show 0 ≤ a1 by omega)
    rw [Int.toNat_natCast] at h
    have hXc : X.length ≤ c0 := by omega
    have hX4 : X.length ≤ 4096 := by omega
    obtain ⟨L, hL⟩ : ∃ L, L = lenL X := ⟨_, rfl⟩
    have HLen := Aside0.mk (show nat_length.f X = some L by unfold nat_length.f; rw [if_pos ⟨canL_in cX, by omega⟩, hL])
    have hL0 : 0 ≤ L ∧ L ≤ 262144 ∧ (1 < L → 2 ^ (L - 1).toNat ≤ v) := by
     by_cases hn : X = []
     ·rw [hL, hn]; unfold lenL; simp
     ·obtain ⟨q1, q2, q3, q4, q5⟩ := lenL_bounds cX hn
      rw [vx] at q4
      rw [hL]
      exact ⟨by omega, by omega, fun _ => q4⟩
    obtain ⟨hL1, hL2, hL3⟩ := hL0
    have hk6 : (k : Int) ≤ 1000000 := by omega
    have hk0 : (0 : Int) ≤ (k : Int) := by omega
    clear C0 hr0 hX hL
    by_cases hearly : 0 < k ∧ 1 < L ∧ 262144 ≤ (L - 1) * (k : Int)
    ·obtain ⟨e1, e2, e3⟩ := hearly
     have hlong := can_high (Int.pow_nonneg hv0) (pow_early (by omega) (hL3 e2) e3)
     unfold fitV at h
     rw [if_neg (by omega)] at h
     cases h
     have b2 : decide (0 < k) = true := decide_eq_true (by omega)
     have b3 : decide (1 < L) = true := decide_eq_true e2
     have hm1 : (L - 1) * (k : Int) ≤ 262144 * 1000000 := Int.mul_le_mul (by omega) hk6 hk0 (by omega)
     have hwr : IntKind.i64.wrap ((L - 1) * (k : Int)) = (L - 1) * (k : Int) := IntWalk.i64_in _ (by omega)
     have b4 : decide (262144 ≤ (L - 1) * (k : Int)) = true := decide_eq_true e3
     clear hL3 hlong hk h4
     go_enter Tryd.func34, Tryd.ntmps34
     go_wp2
     go_step3
     go_wp2_with fail
     refine HL.out.mono ?_
     rintro e w1 ⟨rfl, hb1⟩
     have HB1 := Aside0.mk hb1
     clear hb1
     go_wp2_with fail
     refine (HT0.out _ HB1.out).mono ?_
     rintro e w2 ⟨rfl, rfl⟩
     go_wp2_with fail
     refine (nat_length.calls _ _ X _ _ (Kd.C_below HC0.out HB1.out) hXc HLen.out).mono ?_
     rintro e w2 ⟨rfl, hd⟩
     have HB2 := Aside0.mk (below_step HB1.out hd.below)
     clear hd HB1
     go_wp2_with fail
     refine (nat_length.calls _ _ X _ _ (Kd.C_below HC0.out HB2.out) hXc HLen.out).mono ?_
     rintro e w3 ⟨rfl, hd⟩
     have HB3 := Aside0.mk (below_step HB2.out hd.below)
     clear hd HB2
     go_wp2
     try rw [Exit.noGoto_ret]
     go_ret2
     exact ⟨_, rfl, Kd.R_nil _ _ _ _ _, HB3.out⟩
    ·have HBL := Aside0.mk (Tryd.bits_Len (k : Int) · hk0 (by omega))
     have HV1 := Aside0.mk (show can (v ^ 0) = [1] by rw [Int.pow_zero]; decide)
     have hb : decide (0 < k) = false ∨ (decide (0 < k) = true ∧ decide (1 < L) = false) ∨ (decide (0 < k) = true ∧ decide (1 < L) = true ∧ IntKind.i64.wrap ((L - 1) * (k : Int)) = (L - 1) * (k : Int) ∧ decide (262144 ≤ (L - 1) * (k : Int)) = false) := by
      by_cases h1 : 0 < k
      ·by_cases h2 : 1 < L
       ·have h3 : ¬ 262144 ≤ (L - 1) * (k : Int) := fun h3 => hearly ⟨h1, h2, h3⟩
        have h5 : 0 ≤ (L - 1) * (k : Int) := Int.mul_nonneg (by omega) hk0
        exact .inr (.inr ⟨decide_eq_true h1, decide_eq_true h2, IntWalk.i64_in _ (by omega), decide_eq_false h3⟩)
       ·exact .inr (.inl ⟨decide_eq_true h1, decide_eq_false h2⟩)
      ·exact .inl (decide_eq_false h1)
     have HH := Aside0.mk h
     have hbl : Lib.bitLen k ≤ 20 := (bitLen_bounds 20 k (by omega) (by omega)).2.2
     have HKZ := Aside0.mk (show k / 2 ^ Lib.bitLen k = 0 from Nat.div_eq_of_lt (bitLen_bounds 20 k (by omega) (by omega)).1)
     have HXI := Aside0.mk (canL_in cX)
     clear hearly hL3 hk hv h
     rcases hb with b2 | ⟨b2, b3⟩ | ⟨b2, b3, hwr, b4⟩
     all_goals
      go_enter Tryd.func34, Tryd.ntmps34
      go_wp2
      go_step3
      go_wp2_with fail
      refine HL.out.mono ?_
      rintro e w1 ⟨rfl, hb1⟩
      have HB1 := Aside0.mk hb1
      clear hb1
      go_wp2_with fail
      refine (HT0.out _ HB1.out).mono ?_
      rintro e w2 ⟨rfl, rfl⟩
      go_wp2_with (go_at_call 59; refine (nat_length.calls _ _ X _ _ (Kd.C_below HC0.out HB1.out) hXc HLen.out).mono ?_; rintro e w2 ⟨rfl, hd⟩; have HBn := Aside0.mk (below_step HB1.out hd.below); clear hd HB1; have HB1 := HBn; clear HBn)
      go_step3
      go_wp2_with fail
      refine (HBL.out _).mono ?_
      rintro e w3 ⟨rfl, rfl⟩
      rename World => w4
      have HO1 := Aside0.mk (show Kd.R (Kd.int .u64) 36 (w4.alloc (.cells #[.int .u64 1] 36)) w.heap.size (fun _ => True) (.slice (some ⟨w4.heap.size, 0, none⟩) 1 1) ([1] : List Int) from Kd.R_of_own (enc := Value.int .u64) (h1 := fun _ => rfl) (own_lit w4 w.heap.size 36 .u64 [1] (below_size HB1.out) (by simp)) (fun _ _ => trivial))
      have HBa := Aside0.mk (below_alloc HB1.out (.cells #[.int .u64 1] 36))
      clear HB1
      go_wp2
      go_loopw [6, 7] (fun s i wr => ∃ (j e : Nat), i = .int .i64 ((j : Int) - 1) ∧ j ≤ 20 ∧ Aside0 (k / 2 ^ j = e) ∧ Aside0 ((can (v ^ e)).length ≤ 4096) ∧ Aside0 (Kd.R (Kd.int .u64) 36 wr w.heap.size (fun _ => True) s (can (v ^ e))) ∧ Aside0 (Below w.heap.size w wr)) (fun _ i _ => (intOf i + 1).toNat)
      case atStart => exact ⟨Lib.bitLen k, 0, rfl, hbl, HKZ, ⟨by rw [HV1.out]; simp⟩, ⟨by rw [HV1.out]; exact HO1.out⟩, HBa⟩
      case round =>
       clear HO1 HBa
       obtain ⟨j, e, rfl, hj, HE, HE4, HO, HB⟩ := hrel
       by_cases hj0 : j = 0
       ·subst hj0
        have hek : e = k := by have := HE.out; rw [Nat.pow_zero, Nat.div_one] at this; exact this.symm
        subst hek
        have hhh := HH.out
        unfold fitV at hhh
        rw [if_pos HE4.out] at hhh
        cases hhh
        have hve : 0 ≤ v ^ e := Int.pow_nonneg hv0
        obtain ⟨A5, c5, hs⟩ := Kd.R_slice HO.out
        subst hs
        have HF := Aside0.mk (fit1 A5 c5 (can (v ^ e)) wr (can_in hve) (R_C HO.out) (R_cap HO.out))
        rw [can_val hve, if_pos HE4.out] at HF
        have hn : decide (((0 : Nat) : Int) - 1 < 0) = true := by decide
        clear hve
        go_wp2_with fail
        refine HF.out.mono ?_
        rintro e9 w9 ⟨rfl, rfl⟩
        go_wp2
        try rw [Exit.noGoto_ret]
        go_ret2
        exact ⟨_, rfl, HO.out, HB.out⟩
       ·have hn : decide ((j : Int) - 1 < 0) = false := decide_eq_false (by omega)
        have hj1 : (0 : Int) ≤ (j : Int) - 1 := by omega
        obtain ⟨A5, c5, hs⟩ := Kd.R_slice HO.out
        subst hs
        obtain ⟨q1, q2, q3⟩ := Kd.R_reads' HO.out
        have HM' := Aside0.mk (nat_mul.calls A5 c5 (can (v ^ e)) A5 c5 (can (v ^ e)) _ wr q3 q2 q3 q2 (fit_sq hv0 e HE4.out))
        have hbit := Go.Proofs.and_one (k / 2 ^ (j - 1)) (Nat.lt_of_le_of_lt (Nat.div_le_self _ _) (by omega))
        have hE : k / 2 ^ (j - 1) = 2 * e + k / 2 ^ (j - 1) % 2 := by
         have h1 : e = k / 2 ^ (j - 1) / 2 := by rw [← HE.out, Nat.div_div_eq_div_mul, ← Nat.pow_succ]; congr 2; omega
         omega
        have hEk : k / 2 ^ (j - 1) ≤ k := Nat.div_le_self _ _
        simp only [Int.natCast_ediv, Int.natCast_pow, Int.cast_ofNat_Int] at hbit
        obtain ⟨E, hEe⟩ : ∃ E, E = k / 2 ^ (j - 1) := ⟨_, rfl⟩
        rw [← hEe] at hE hEk hbit
        have HEe := Aside0.mk hEe.symm
        clear q1 q2 q3 HE hEe
        by_cases hodd : E % 2 = 1
        ·rw [hodd] at hbit hE
         subst hE
         simp only [Int.cast_ofNat_Int] at hbit
         by_cases hM4 : (can (v ^ (2 * e))).length ≤ 4096
         ·have HMul := Aside0.mk (fit_one hv0 (2 * e) X HXI.out vx (by omega) hM4)
          obtain ⟨M, hM⟩ : ∃ M, M = can (v ^ (2 * e)) := ⟨_, rfl⟩
          rw [← hM] at HM' hM4 HMul
          have c1 : decide ((M.length : Int) ≤ 4096) = true := decide_eq_true (by omega)
          have HMM := Aside0.mk hM
          clear hM hM4
          by_cases hN4 : (can (v ^ (2 * e + 1))).length ≤ 4096
          ·have HN4 := Aside0.mk hN4
           obtain ⟨N, hN⟩ : ∃ N, N = can (v ^ (2 * e + 1)) := ⟨_, rfl⟩
           rw [← hN] at HMul hN4
           have c2 : decide (4096 < (N.length : Int)) = false := decide_eq_false (by omega)
           have HNN := Aside0.mk hN
           clear hN hN4 hodd
           go_wp2_with fail
           refine HM'.out.mono ?_
           rintro e9 w9 ⟨v9, rfl, hR9, hb9⟩
           obtain ⟨A6, c6, rfl⟩ := Kd.R_slice hR9
           have HR9 := Aside0.mk hR9
           have HB9 := Aside0.mk (below_step HB.out hb9)
           clear hR9 hb9
           go_wp2_with fail
           refine (nat_mul.calls A6 c6 M A0 c0 X N w9 (R_C HR9.out) (R_cap HR9.out) (Kd.C_below HC0.out HB9.out) hXc HMul.out).mono ?_
           rintro e10 w10 ⟨v10, rfl, hR10, hb10⟩
           obtain ⟨A7, c7, rfl⟩ := Kd.R_slice hR10
           have HR10 := Aside0.mk (Kd.R_lower hR10 (below_size HB9.out))
           have HB10 := Aside0.mk (below_step HB9.out hb10)
           clear hR10 hb10
           go_wp2
           go_roundw
           case rel => exact ⟨j - 1, 2 * e + 1, by go_num, by omega, HEe, HN4, ⟨by rw [← HNN.out]; exact HR10.out⟩, HB10⟩
           case measure => simp [intOf]; omega
          ·have hhh := HH.out
           unfold fitV at hhh
           rw [if_neg (by have := pow_long hv0 hEk (by omega); omega)] at hhh
           cases hhh
           obtain ⟨N, hN⟩ : ∃ N, N = can (v ^ (2 * e + 1)) := ⟨_, rfl⟩
           rw [← hN] at HMul hN4
           have c2 : decide (4096 < (N.length : Int)) = true := decide_eq_true (by omega)
           clear hN hN4 hodd
           go_wp2_with fail
           refine HM'.out.mono ?_
           rintro e9 w9 ⟨v9, rfl, hR9, hb9⟩
           obtain ⟨A6, c6, rfl⟩ := Kd.R_slice hR9
           have HR9 := Aside0.mk hR9
           have HB9 := Aside0.mk (below_step HB.out hb9)
           clear hR9 hb9
           go_wp2_with fail
           refine (nat_mul.calls A6 c6 M A0 c0 X N w9 (R_C HR9.out) (R_cap HR9.out) (Kd.C_below HC0.out HB9.out) hXc HMul.out).mono ?_
           rintro e10 w10 ⟨v10, rfl, hR10, hb10⟩
           obtain ⟨A7, c7, rfl⟩ := Kd.R_slice hR10
           have HB10 := Aside0.mk (below_step HB9.out hb10)
           clear hR10 hb10
           go_wp2
           try rw [Exit.noGoto_ret]
           go_ret2
           exact ⟨_, rfl, Kd.R_nil _ _ _ _ _, HB10.out⟩
         ·have hhh := HH.out
          unfold fitV at hhh
          rw [if_neg (by have := pow_long hv0 (show 2 * e ≤ k by omega) (by omega); omega)] at hhh
          cases hhh
          obtain ⟨M, hM⟩ : ∃ M, M = can (v ^ (2 * e)) := ⟨_, rfl⟩
          rw [← hM] at HM' hM4
          have c1 : decide ((M.length : Int) ≤ 4096) = false := decide_eq_false (by omega)
          have c2 : decide (4096 < (M.length : Int)) = true := decide_eq_true (by omega)
          clear hM hM4 hodd
          go_wp2_with fail
          refine HM'.out.mono ?_
          rintro e9 w9 ⟨v9, rfl, hR9, hb9⟩
          obtain ⟨A6, c6, rfl⟩ := Kd.R_slice hR9
          have HB9 := Aside0.mk (below_step HB.out hb9)
          clear hR9 hb9
          go_wp2
          try rw [Exit.noGoto_ret]
          go_ret2
          exact ⟨_, rfl, Kd.R_nil _ _ _ _ _, HB9.out⟩
        ·rw [show E % 2 = 0 by omega] at hbit hE
         rw [Nat.add_zero] at hE
         subst hE
         simp only [Int.cast_ofNat_Int] at hbit
         by_cases hM4 : (can (v ^ (2 * e))).length ≤ 4096
         ·have HM4 := Aside0.mk hM4
          obtain ⟨M, hM⟩ : ∃ M, M = can (v ^ (2 * e)) := ⟨_, rfl⟩
          rw [← hM] at HM' hM4
          have c2 : decide (4096 < (M.length : Int)) = false := decide_eq_false (by omega)
          have HMM := Aside0.mk hM
          clear hM hM4 hodd
          go_wp2_with fail
          refine HM'.out.mono ?_
          rintro e9 w9 ⟨v9, rfl, hR9, hb9⟩
          obtain ⟨A6, c6, rfl⟩ := Kd.R_slice hR9
          have HR9 := Aside0.mk (Kd.R_lower hR9 (below_size HB.out))
          have HB9 := Aside0.mk (below_step HB.out hb9)
          clear hR9 hb9
          go_wp2
          go_roundw
          case rel => exact ⟨j - 1, 2 * e, by go_num, by omega, HEe, HM4, ⟨by rw [← HMM.out]; exact HR9.out⟩, HB9⟩
          case measure => simp [intOf]; omega
         ·have hhh := HH.out
          unfold fitV at hhh
          rw [if_neg (by have := pow_long hv0 hEk (by omega); omega)] at hhh
          cases hhh
          obtain ⟨M, hM⟩ : ∃ M, M = can (v ^ (2 * e)) := ⟨_, rfl⟩
          rw [← hM] at HM' hM4
          have c2 : decide (4096 < (M.length : Int)) = true := decide_eq_true (by omega)
          clear hM hM4 hodd
          go_wp2_with fail
          refine HM'.out.mono ?_
          rintro e9 w9 ⟨v9, rfl, hR9, hb9⟩
          obtain ⟨A6, c6, rfl⟩ := Kd.R_slice hR9
          have HB9 := Aside0.mk (below_step HB.out hb9)
          clear hR9 hb9
          go_wp2
          try rw [Exit.noGoto_ret]
          go_ret2
          exact ⟨_, rfl, Kd.R_nil _ _ _ _ _, HB9.out⟩
  ·rw [if_neg h4] at h
   cases h
   have HL := Aside0.mk (large_one A0 c0 l0 w true hr0 hc0 (decide_eq_true (by omega)))
   clear hr0
   go_enter Tryd.func34, Tryd.ntmps34
   go_wp2
   go_step3
   go_wp2_with fail
   refine HL.out.mono ?_
   rintro e w1 ⟨rfl, hb1⟩
   have HB1 := Aside0.mk hb1
   clear hb1
   go_wp2
   try rw [Exit.noGoto_ret]
   go_ret2
   exact ⟨_, rfl, Kd.R_nil _ _ _ _ _, HB1.out⟩
 ·rw [if_neg hw] at h; cases h
end Go.Proofs.YtkkkbalefnileaaDoor.Ex
/- The closure of nat.Square: two words added to a row from some place on. -/
namespace Go.Proofs.YtkkkbalefnileaaDoor.Ex
open Go.RowKit Go.Shelf Go.Proofs.YtkkkbalefnileaaDoorW.PrintWords Go.Proofs.YtkkkbalefnileaaDoorW.PrintLast Go.Proofs.YtkkkbalefnileaaDoorW.PrintMore
set_option linter.unusedVariables false
set_option linter.unusedSimpArgs false

/-- One word of a row, and what is carried. -/
theorem add_step {z : List Int} {k n : Nat} {x cc T : Int} (hz : inW z) (hl : z.length = n) (hk : k < n) (hx : isW x) (hc0 : 0 ≤ cc) (hc1 : cc ≤ 1) (hT : valB W64 z + W64 ^ k * (x + cc) = T) :
    ∃ s c, addS (z.getD k 0) x cc = (s, c) ∧ inW (z.set k s) ∧ (z.set k s).length = n ∧ 0 ≤ c ∧ c ≤ 1 ∧ valB W64 (z.set k s) + W64 ^ (k + 1) * c = T := by
  have hok := addS_ok (isW_get hz k) hx ⟨hc0, hc1⟩
  obtain ⟨s, c, hsc⟩ : ∃ s c, addS (z.getD k 0) x cc = (s, c) := ⟨_, _, rfl⟩
  rw [hsc] at hok
  obtain ⟨⟨o1, o1'⟩, o2, o3⟩ := hok
  simp only at o1 o1' o2 o3
  rw [Int.one_mul, Int.one_mul] at o3
  refine ⟨s, c, hsc, inB_set hz _ o2, by simp [hl], o1, o1', ?_⟩
  rw [valB_set W64 z k s (by omega), Int.pow_succ]
  generalize z.getD k 0 = y at *
  generalize W64 ^ k = P at *
  have e1 : P * W64 * c = P * (W64 * c) := Int.mul_assoc _ _ _
  have e2 : W64 * c = y + x + cc - s := by omega
  rw [e1, e2, ← hT]
  simp only [Int.mul_sub, Int.mul_add]
  omega
/-- Nothing is carried beyond the end. -/
theorem carry_in {z : List Int} {k n : Nat} {cc T : Int} (hz : inW z) (hl : z.length = n) (hk : k ≤ n) (hc : 0 < cc) (hT : valB W64 z + W64 ^ k * cc = T) (hTn : T < W64 ^ n) : k < n := by
  rcases Nat.lt_or_ge k n with h | h
  · exact h
  · exfalso
    obtain rfl : k = n := by omega
    have h1 := valB_nonneg W64_pos hz
    have h2 : W64 ^ k * 1 ≤ W64 ^ k * cc := Int.mul_le_mul_of_nonneg_left (by omega) (Int.le_of_lt (pow_posB W64_pos k))
    rw [Int.mul_one] at h2
    omega
/-- What the closure leaves. -/
def PutPost (g bx n : Nat) (T : Int) (w : World) (e : Ending) (w' : World) : Prop :=
  (∃ v, e = .returned v) ∧ ∃ z', RowB w' g z' ∧ inW z' ∧ z'.length = n ∧ valB W64 z' = T ∧ Below g w w' ∧ w'.heap[bx]? = w.heap[bx]?
set_option maxRecDepth 100000 in
set_option maxHeartbeats 4000000 in
theorem put1 (g bx n a : Nat) (high low : Int) (z : List Int) (w : World) (hn : n ≤ 1000000) (hz : inW z) (hl : z.length = n) (ha : a + 2 ≤ n) (hh : isW high) (hlo : isW low) (hr : RowB w g z) (hb : Boxed w bx 23 (.slice (some ⟨g, 0, none⟩) n n)) (hne : bx ≠ g)
    (hT : valB W64 z + W64 ^ a * (low + W64 * high) < W64 ^ n) :
    Calls Tryd.prog 69 #[.int .i64 (a : Int), .int .u64 high, .int .u64 low, .pointer (some ⟨bx, 0, none⟩)] w (PutPost g bx n (valB W64 z + W64 ^ a * (low + W64 * high)) w) := by
  obtain ⟨T, hTe⟩ : ∃ T, T = valB W64 z + W64 ^ a * (low + W64 * high) := ⟨_, rfl⟩
  rw [← hTe] at hT ⊢
  obtain ⟨s, c, hsc, q1, q2, q3, q4, q5⟩ := add_step hz hl (show a < n by omega) hlo (Int.le_refl 0) (by decide : (0 : Int) ≤ 1) rfl
  have hadd := add64 (z.getD a 0) low 0 (isW_get hz a).1 hlo.1 (Int.le_refl 0) (by decide)
  rw [hsc] at hadd
  rw [Int.add_zero] at q5
  have hT2 : valB W64 (z.set a s) + W64 ^ (a + 1) * (high + c) = T := by
    rw [Int.mul_add, hTe, Int.mul_add, Int.pow_succ, ← Int.mul_assoc]
    rw [Int.pow_succ] at q5
    omega
  obtain ⟨s2, c2, hsc2, p1, p2, p3, p4, p5⟩ := add_step q1 q2 (show a + 1 < n by omega) hh q3 q4 hT2
  have hadd2 := add64 ((z.set a s).getD (a + 1) 0) high c (isW_get q1 (a + 1)).1 hh.1 q3 q4
  rw [hsc2] at hadd2
  simp only at hadd hadd2
  have gz := hb.cell
  have x1 := hr.cell a (by omega)
  have f1 := hr.frozen a
  obtain ⟨y, hy⟩ : ∃ y, y = z.getD a 0 := ⟨_, rfl⟩
  rw [← hy] at hadd x1
  obtain ⟨y2, hy2⟩ : ∃ y2, y2 = (z.set a s).getD (a + 1) 0 := ⟨_, rfl⟩
  rw [← hy2] at hadd2
  have HY2 := Aside0.mk hy2
  have HTn := Aside0.mk hT
  have HR := Aside0.mk hr
  have HBx := Aside0.mk hb
  have HBx0 := Aside0.mk hb
  have HQ1 := Aside0.mk (show inW (z.set a s) ∧ (z.set a s).length = n from ⟨q1, q2⟩)
  have HP := Aside0.mk (show inW ((z.set a s).set (a + 1) s2) ∧ ((z.set a s).set (a + 1) s2).length = n ∧ valB W64 ((z.set a s).set (a + 1) s2) + W64 ^ (a + 1 + 1) * c2 = T from ⟨p1, p2, p5⟩)
  have j0 : (0 : Int) ≤ (a : Int) := by omega
  have j1 : (a : Int) < (n : Int) := by omega
  have jt : ((a : Nat) : Int).toNat = a := rfl
  clear hTe hsc hsc2 hT2 hy hy2 q1 q2 q5 p1 p2 p5 hT hr hb hh hlo hz hl
  go_enter Tryd.func69, Tryd.ntmps69
  go_wp2
  go_region
  have r1 : RowB (w.setCell ⟨g, a, none⟩ (.int .u64 s)).drew g (z.set a s) := RowB.set HR.out a s
  have b1 : Boxed (w.setCell ⟨g, a, none⟩ (.int .u64 s)).drew bx 23 (.slice (some ⟨g, 0, none⟩) n n) := Boxed.far HBx.out (p := ⟨g, a, none⟩) (by show bx ≠ g; exact hne) _
  have K1 := Aside0.mk (show Below g w (w.setCell ⟨g, a, none⟩ (.int .u64 s)).drew from below_drew ((Below.refl g w).setCell (p := ⟨g, a, none⟩) (Nat.le_refl _) _))
  clear gz x1 f1 hadd HR HBx
  generalize (w.setCell ⟨g, a, none⟩ (.int .u64 s)).drew = W1 at *
  have gz := b1.cell
  have x1 := r1.cell (a + 1) (by rw [HQ1.out.2]; omega)
  have f1 := r1.frozen (a + 1)
  rw [← HY2.out] at x1
  have HR := Aside0.mk r1
  have HBx := Aside0.mk b1
  have j2 : (0 : Int) ≤ (a : Int) + 1 := by omega
  have j3 : (a : Int) + 1 < (n : Int) := by omega
  have j4 : ((a : Int) + 1).toNat = a + 1 := by omega
  have jw : IntKind.i64.wrap ((a : Int) + 1) = (a : Int) + 1 := IntWalk.i64_in _ (by omega)
  clear r1 b1 HY2
  go_wp2
  go_region
  have r2 : RowB (W1.setCell ⟨g, a + 1, none⟩ (.int .u64 s2)).drew g ((z.set a s).set (a + 1) s2) := RowB.set HR.out (a + 1) s2
  have b2 : Boxed (W1.setCell ⟨g, a + 1, none⟩ (.int .u64 s2)).drew bx 23 (.slice (some ⟨g, 0, none⟩) n n) := Boxed.far HBx.out (p := ⟨g, a + 1, none⟩) (by show bx ≠ g; exact hne) _
  have K2 := Aside0.mk (show Below g w (W1.setCell ⟨g, a + 1, none⟩ (.int .u64 s2)).drew from below_drew (K1.out.setCell (p := ⟨g, a + 1, none⟩) (Nat.le_refl _) _))
  clear gz x1 f1 hadd2 HR HBx K1
  generalize (W1.setCell ⟨g, a + 1, none⟩ (.int .u64 s2)).drew = W2 at *
  obtain ⟨z2, hz2⟩ : ∃ z2, z2 = (z.set a s).set (a + 1) s2 := ⟨_, rfl⟩
  rw [← hz2] at HP r2
  clear hz2 HQ1 jw j2 j3 j4 jt
  go_wp2
  go_loopw [7, 8] (fun c i wr => ∃ (k : Nat) (z' : List Int) (cc : Int), k ≤ n ∧ i = .int .i64 (k : Int) ∧ c = .int .u64 cc ∧ 0 ≤ cc ∧ cc ≤ 1 ∧ Aside0 (inW z' ∧ z'.length = n ∧ valB W64 z' + W64 ^ k * cc = T) ∧ RowB wr g z' ∧ Boxed wr bx 23 (.slice (some ⟨g, 0, none⟩) n n) ∧ Aside0 (Below g w wr)) (fun _ i _ => n - (intOf i).toNat)
  case atStart => exact ⟨a + 2, z2, c2, by omega, by go_num, rfl, p3, p4, HP, r2, b2, K2⟩
  case round =>
    clear r2 b2 K2 HP p3 p4 q3 q4
    obtain ⟨k, z', cc, hk, rfl, rfl, hc0, hc1, HZ, r0, b0, K⟩ := hrel
    by_cases h0 : 0 < cc
    · have h0b : decide (0 < cc) = true := decide_eq_true h0
      have hkn := carry_in HZ.out.1 HZ.out.2.1 hk h0 HZ.out.2.2 HTn.out
      obtain ⟨s, c, hsc, q1, q2, q3, q4, q5⟩ := add_step HZ.out.1 HZ.out.2.1 hkn (x := 0) ⟨Int.le_refl 0, W64_pos⟩ hc0 hc1 (T := T) (by rw [Int.zero_add]; exact HZ.out.2.2)
      have hadd := add64 (z'.getD k 0) 0 cc (isW_get HZ.out.1 k).1 (Int.le_refl 0) hc0 hc1
      rw [hsc] at hadd
      simp only at hadd
      have gz := b0.cell
      have x1 := r0.cell k (by rw [HZ.out.2.1]; exact hkn)
      have f1 := r0.frozen k
      obtain ⟨y, hy⟩ : ∃ y, y = z'.getD k 0 := ⟨_, rfl⟩
      rw [← hy] at hadd x1
      have HQ := Aside0.mk (show inW (z'.set k s) ∧ (z'.set k s).length = n ∧ valB W64 (z'.set k s) + W64 ^ (k + 1) * c = T from ⟨q1, q2, q5⟩)
      have j2 : (0 : Int) ≤ (k : Int) := by omega
      have j3 : (k : Int) < (n : Int) := by omega
      have j4 : ((k : Nat) : Int).toNat = k := rfl
      have HR := Aside0.mk r0
      have HBx := Aside0.mk b0
      clear hy hsc q1 q2 q5 r0 b0 HZ
      go_wp2
      go_region
      have r1 : RowB (wr.setCell ⟨g, k, none⟩ (.int .u64 s)).drew g (z'.set k s) := RowB.set HR.out k s
      have b1 : Boxed (wr.setCell ⟨g, k, none⟩ (.int .u64 s)).drew bx 23 (.slice (some ⟨g, 0, none⟩) n n) := Boxed.far HBx.out (p := ⟨g, k, none⟩) (by show bx ≠ g; exact hne) _
      have K1 := Aside0.mk (show Below g w (wr.setCell ⟨g, k, none⟩ (.int .u64 s)).drew from below_drew (K.out.setCell (p := ⟨g, k, none⟩) (Nat.le_refl _) _))
      clear gz x1 f1 hadd HR HBx K
      generalize (wr.setCell ⟨g, k, none⟩ (.int .u64 s)).drew = W3 at *
      go_wp2
      go_roundw
      case rel => exact ⟨k + 1, z'.set k s, c, by omega, by go_num, rfl, q3, q4, HQ, r1, b1, K1⟩
      case measure => simp [intOf]; omega
    · have h0b : decide (0 < cc) = false := decide_eq_false h0
      obtain rfl : cc = 0 := by omega
      have hv := HZ.out.2.2
      rw [Int.mul_zero, Int.add_zero] at hv
      have HV := Aside0.mk hv
      have HR := Aside0.mk r0
      have HBx := Aside0.mk b0
      clear hv r0 b0
      go_wp2
      go_end0
      exact ⟨⟨_, rfl⟩, z', HR.out, HZ.out.1, HZ.out.2.1, HV.out, K.out, HBx.out.trans HBx0.out.symm⟩
end Go.Proofs.YtkkkbalefnileaaDoor.Ex
/- The sum of products that a square is made of. No program here. -/
namespace Go.Proofs.YtkkkbalefnileaaDoor.Ex
set_option linter.unusedVariables false

/-- What lies from place i on. -/
def tlV (X : List Int) (i : Nat) : Int := valB W64 X - valB W64 (X.take i)
/-- The products of words at two places, the lower one below i. -/
def crV (X : List Int) : Nat → Int
  | 0 => 0
  | i + 1 => crV X i + W64 ^ i * X.getD i 0 * tlV X (i + 1)
/-- The squares of the words below i. -/
def sqV (X : List Int) : Nat → Int
  | 0 => 0
  | i + 1 => sqV X i + W64 ^ (2 * i) * (X.getD i 0 * X.getD i 0)
theorem take_step' (X : List Int) (k : Nat) : valB W64 (X.take (k + 1)) = valB W64 (X.take k) + W64 ^ k * X.getD k 0 := by
  by_cases h : k < X.length
  · exact valB_take_succ W64 X k h
  · rw [List.take_of_length_le (by omega), List.take_of_length_le (by omega), getD_beyond X k (by omega), Int.mul_zero, Int.add_zero]
theorem tlV_step (X : List Int) (i : Nat) : tlV X i = W64 ^ i * X.getD i 0 + tlV X (i + 1) := by
  unfold tlV; rw [take_step']; omega
theorem tlV_nonneg {X : List Int} (h : inW X) (i : Nat) : 0 ≤ tlV X i := by
  unfold tlV
  by_cases hi : i ≤ X.length
  · rw [valB_split W64 X i hi]
    have := Int.mul_nonneg (Int.le_of_lt (pow_posB W64_pos i)) (valB_nonneg W64_pos (inB_drop h i))
    omega
  · rw [List.take_of_length_le (by omega)]; omega
theorem tlV_end (X : List Int) : tlV X X.length = 0 := by unfold tlV; rw [List.take_length]; omega
theorem cr_sq (X : List Int) : ∀ i, 2 * crV X i + sqV X i = valB W64 X * valB W64 X - tlV X i * tlV X i
  | 0 => by simp [crV, sqV, tlV, valB]
  | i + 1 => by
    have ih := cr_sq X i
    rw [tlV_step X i] at ih
    have e : W64 ^ (2 * i) = W64 ^ i * W64 ^ i := by rw [Nat.two_mul, Int.pow_add]
    simp only [crV, sqV, e]
    generalize W64 ^ i = P at *
    generalize X.getD i 0 = x at *
    generalize tlV X (i + 1) = t at *
    generalize crV X i = c at *
    generalize sqV X i = q at *
    generalize valB W64 X = V at *
    grind
theorem sqV_nonneg {X : List Int} (h : inW X) : ∀ i, 0 ≤ sqV X i
  | 0 => Int.le_refl 0
  | i + 1 => by
    have h1 := sqV_nonneg h i
    have hx := (isW_get h i).1
    have := Int.mul_nonneg (Int.le_of_lt (pow_posB W64_pos (2 * i))) (Int.mul_nonneg hx hx)
    show 0 ≤ sqV X i + _
    omega
theorem crV_nonneg {X : List Int} (h : inW X) : ∀ i, 0 ≤ crV X i
  | 0 => Int.le_refl 0
  | i + 1 => by
    have h1 := crV_nonneg h i
    have := Int.mul_nonneg (Int.mul_nonneg (Int.le_of_lt (pow_posB W64_pos i)) (isW_get h i).1) (tlV_nonneg h (i + 1))
    show 0 ≤ crV X i + _
    omega
/-- The square is small. -/
theorem sq_lt {X : List Int} (h : inW X) : valB W64 X * valB W64 X < W64 ^ (2 * X.length) := by
  have h0 := valB_nonneg W64_pos h
  have h1 := valB_lt W64_pos h
  rw [Nat.two_mul, Int.pow_add]
  exact Int.lt_of_le_of_lt (Int.mul_le_mul_of_nonneg_left (Int.le_of_lt h1) h0) (Int.mul_lt_mul_of_pos_right h1 (pow_posB W64_pos _))
theorem cr_lt {X : List Int} (h : inW X) (i : Nat) : 2 * crV X i < W64 ^ (2 * X.length) := by
  have h1 := cr_sq X i
  have h2 := sqV_nonneg h i
  have h3 := sq_lt h
  have h4 := Int.mul_nonneg (tlV_nonneg h i) (tlV_nonneg h i)
  omega
theorem cr_sq_lt {X : List Int} (h : inW X) (i : Nat) : 2 * crV X X.length + sqV X i ≤ valB W64 X * valB W64 X ∨ X.length < i := by
  by_cases hi : X.length < i
  · exact .inr hi
  · left
    have h1 := cr_sq X X.length
    rw [tlV_end, Int.mul_zero, Int.sub_zero] at h1
    have h2 : ∀ d j, j + d = X.length → sqV X j ≤ sqV X X.length := by
      intro d
      induction d with
      | zero => intro j hj; rw [show j = X.length by omega]; exact Int.le_refl _
      | succ d ih =>
        intro j hj
        have h3 := ih (j + 1) (by omega)
        have hx := (isW_get h j).1
        have := Int.mul_nonneg (Int.le_of_lt (pow_posB W64_pos (2 * j))) (Int.mul_nonneg hx hx)
        have h4 : sqV X (j + 1) = sqV X j + W64 ^ (2 * j) * (X.getD j 0 * X.getD j 0) := rfl
        omega
    have h3 := h2 (X.length - i) i (by omega)
    omega
/-- Part of a place's products. -/
def crP (X : List Int) (i k : Nat) : Int := crV X i + W64 ^ i * X.getD i 0 * (valB W64 (X.take k) - valB W64 (X.take (i + 1)))
theorem crP_start (X : List Int) (i : Nat) : crP X i (i + 1) = crV X i := by unfold crP; rw [Int.sub_self, Int.mul_zero, Int.add_zero]
theorem crV_succ (X : List Int) (i : Nat) : crV X (i + 1) = crV X i + W64 ^ i * X.getD i 0 * (valB W64 X - valB W64 (X.take (i + 1))) := rfl
theorem crP_end (X : List Int) (i : Nat) : crP X i X.length = crV X (i + 1) := by rw [crV_succ]; unfold crP; rw [List.take_length]
theorem crP_step (X : List Int) (i k : Nat) : crP X i (k + 1) = crP X i k + W64 ^ (i + k) * (X.getD i 0 * X.getD k 0) := by
  unfold crP
  rw [take_step' X k, Int.pow_add]
  generalize W64 ^ i = P
  generalize W64 ^ k = Q
  generalize X.getD i 0 = x
  generalize X.getD k 0 = y
  generalize valB W64 (X.take k) = a
  generalize valB W64 (X.take (i + 1)) = b
  grind
theorem take_le {X : List Int} (h : inW X) (k : Nat) : valB W64 (X.take k) ≤ valB W64 X := by
  have := tlV_nonneg h k
  unfold tlV at this
  omega
theorem crP_lt {X : List Int} (h : inW X) (i k : Nat) : crP X i k < W64 ^ (2 * X.length) := by
  have h1 := cr_lt h (i + 1)
  have h2 := crV_nonneg h (i + 1)
  have h3 : crP X i k ≤ crV X (i + 1) := by
    rw [crV_succ]
    unfold crP
    have h4 := Int.mul_le_mul_of_nonneg_left (show valB W64 (X.take k) - valB W64 (X.take (i + 1)) ≤ valB W64 X - valB W64 (X.take (i + 1)) from by have := take_le h k; omega) (Int.mul_nonneg (Int.le_of_lt (pow_posB W64_pos i)) (isW_get h i).1)
    omega
  omega
end Go.Proofs.YtkkkbalefnileaaDoor.Ex
/- Shifts of words. -/
namespace Go.Proofs.YtkkkbalefnileaaDoor.Ex
open Go.RowKit Go.Proofs.YtkkkbalefnileaaDoorW.PrintWords Go.Proofs.YtkkkbalefnileaaDoorW.PrintLast Go.Proofs.YtkkkbalefnileaaDoorW.PrintMore
set_option linter.unusedVariables false
set_option linter.unusedSimpArgs false

theorem shift_nat (X C n : Nat) (hn : n ≤ 63) (hX : X < 18446744073709551616) (hC : C < 2 ^ n) :
    (X * 2 ^ n % 18446744073709551616) ||| C = (X * 2 ^ n + C) % 18446744073709551616 ∧ X / 2 ^ (64 - n) = (X * 2 ^ n + C) / 18446744073709551616 ∧ X / 2 ^ (64 - n) < 2 ^ n ∧ X * 2 ^ n % 18446744073709551616 < 18446744073709551616 ∧ C < 18446744073709551616 := by
  have hB : 2 ^ n * 2 ^ (64 - n) = 18446744073709551616 := by rw [← Nat.pow_add, show n + (64 - n) = 64 by omega]
  have hp : 0 < 2 ^ n := Nat.pow_pos (by decide)
  have hp2 : 0 < 2 ^ (64 - n) := Nat.pow_pos (by decide)
  have hd := Nat.div_add_mod X (2 ^ (64 - n))
  have hr := Nat.mod_lt X hp2
  have hq : X / 2 ^ (64 - n) < 2 ^ n := by rw [Nat.div_lt_iff_lt_mul hp2, hB]; exact hX
  generalize X / 2 ^ (64 - n) = q at hd hq ⊢
  generalize X % 2 ^ (64 - n) = r at hd hr
  have hm : X * 2 ^ n = 18446744073709551616 * q + 2 ^ n * r := by
    rw [← hd, ← hB, Nat.add_mul, Nat.mul_comm (2 ^ (64 - n)) q, Nat.mul_assoc, Nat.mul_comm (2 ^ (64 - n)) (2 ^ n), hB, Nat.mul_comm r, Nat.mul_comm q]
  have hs : 2 ^ n * r + C < 18446744073709551616 := by
    have h1 : 2 ^ n * (r + 1) ≤ 2 ^ n * 2 ^ (64 - n) := Nat.mul_le_mul_left _ hr
    rw [hB, Nat.mul_add, Nat.mul_one] at h1
    omega
  have e1 : X * 2 ^ n % 18446744073709551616 = 2 ^ n * r := by rw [hm]; omega
  refine ⟨?_, ?_, hq, by omega, by omega⟩
  · rw [e1, ← Nat.two_pow_add_eq_or_of_lt hC, hm]; omega
  · rw [hm]; omega
theorem left_eq (x c m : Int) (hx : isW x) (hm0 : 0 ≤ m) (hm1 : m ≤ 63) (hc0 : 0 ≤ c) (hc1 : c < 2 ^ m.toNat) :
    bits .or .u64 (IntKind.u64.wrap (x * 2 ^ min m.toNat 64)) c = (moreS x (2 ^ m.toNat) c 0).1 ∧ x / 2 ^ min (64 - m).toNat 64 = (moreS x (2 ^ m.toNat) c 0).2 ∧ 0 ≤ (moreS x (2 ^ m.toNat) c 0).2 ∧ (moreS x (2 ^ m.toNat) c 0).2 < 2 ^ m.toNat := by
  obtain ⟨n, rfl⟩ := Int.eq_ofNat_of_zero_le hm0
  obtain ⟨X, rfl⟩ := Int.eq_ofNat_of_zero_le hx.1
  obtain ⟨C, rfl⟩ := Int.eq_ofNat_of_zero_le hc0
  have hX := hx.2
  rw [W64_eq] at hX
  have hC : C < 2 ^ n := by
    have h1 : ((C : Nat) : Int) < ((2 ^ n : Nat) : Int) := by simpa using hc1
    omega
  obtain ⟨h1, h2, h3, h4, h5⟩ := shift_nat X C n (by omega) (by omega) hC
  have e1 : min ((n : Int).toNat) 64 = n := by simp; omega
  have e2 : min ((64 - (n : Int)).toNat) 64 = 64 - n := by omega
  have e3 : (n : Int).toNat = n := rfl
  rw [e1, e2, e3]
  have ep : (2 : Int) ^ n = ((2 ^ n : Nat) : Int) := by simp
  have ep2 : (2 : Int) ^ (64 - n) = ((2 ^ (64 - n) : Nat) : Int) := by simp
  have ew : IntKind.u64.wrap ((X : Int) * 2 ^ n) = ((X * 2 ^ n % 18446744073709551616 : Nat) : Int) := by
    rw [ep, ← Int.natCast_mul]
    rfl
  rw [ew, bits_or_u64_nat _ _ h4 h5, h1, ep2, ep]
  unfold moreS
  simp only [W64_eq, Int.add_zero]
  refine ⟨?_, ?_, ?_, ?_⟩
  · rw [← Int.natCast_mul]; rfl
  · rw [← Int.natCast_mul]
    have : ((X / 2 ^ (64 - n) : Nat) : Int) = (((X * 2 ^ n + C) / 18446744073709551616 : Nat) : Int) := by rw [h2]
    exact this
  · rw [← Int.natCast_mul]; omega
  · rw [← Int.natCast_mul]
    have : (((X * 2 ^ n + C) / 18446744073709551616 : Nat) : Int) < ((2 ^ n : Nat) : Int) := by rw [← h2]; exact Int.ofNat_lt.2 h3
    exact this
end Go.Proofs.YtkkkbalefnileaaDoor.Ex
/- nat.Square. -/
namespace Go.Proofs.YtkkkbalefnileaaDoor.Ex
open Go.RowKit Go.Shelf Go.Proofs.YtkkkbalefnileaaDoorW.PrintWords Go.Proofs.YtkkkbalefnileaaDoorW.PrintLast Go.Proofs.YtkkkbalefnileaaDoorW.PrintMore
set_option linter.unusedVariables false
set_option linter.unusedSimpArgs false

theorem wide1 (x y : Int) (hx : isW x) (hy : isW y) (w : World) :
    Calls Tryd.prog 71 #[.int .u64 x, .int .u64 y] w fun e w' => e = .returned (.tuple #[.int .u64 (x * y / W64), .int .u64 (x * y % W64)]) ∧ w = w' := by
  have HM := Aside0.mk (mul64 x y hx hy)
  clear hx hy
  go_enter Tryd.func71, Tryd.ntmps71
  go_wp2_with (go_at_call 93; refine (HM.out _).mono ?_; rintro e w' ⟨rfl, rfl⟩)
  go_ret2
  exact ⟨rfl, rfl⟩
def nat_Square.f (l0 : List Int) : Option (List Int × Int) :=
  if inW l0 then
    if l0.length ≤ 4096 then some (fitV (valB W64 l0 * valB W64 l0)) else some ([], 2)
  else none
/-- A square that is told to be too long is so. -/
theorem sq_long {X : List Int} (h : canL X) (h1 : 0 < lenL X) (h2 : 262144 < lenL X + lenL X - 1) : 4096 < (can (valB W64 X * valB W64 X)).length := by
  have hn : X ≠ [] := by rintro rfl; simp [lenL] at h1
  obtain ⟨q1, q2, q3, q4, q5⟩ := lenL_bounds h hn
  have h3 := pow_early (k := 2) q1 q4 (by omega)
  rw [show valB W64 X ^ 2 = valB W64 X * valB W64 X by rw [Int.pow_succ, Int.pow_succ, Int.pow_zero, Int.one_mul]] at h3
  exact can_high (Int.mul_nonneg (valW_nonneg (canL_in h)) (valW_nonneg (canL_in h))) h3
/-- A row that is doubled up to some place. -/
def DblI (z z' : List Int) (n k : Nat) (cc : Int) : Prop := inW z' ∧ z'.length = n ∧ z'.drop k = z.drop k ∧ valB W64 (z'.take k) + W64 ^ k * cc = 2 * valB W64 (z.take k)
theorem dbl_start {z : List Int} {n : Nat} (h1 : inW z) (h2 : z.length = n) : DblI z z n 0 0 := ⟨h1, h2, rfl, by simp [valB]⟩
theorem take_set_step {l : List Int} {k : Nat} (h : k < l.length) (x : Int) : (l.set k x).take (k + 1) = l.take k ++ [x] := by
  rw [List.take_succ_eq_append_getElem (by simpa using h), List.take_set, List.set_eq_of_length_le (by simp; omega)]
  simp
theorem dbl_step {z z' : List Int} {n k : Nat} {cc : Int} (h : DblI z z' n k cc) (hk : k < n) (h0 : 0 ≤ cc) (h1 : cc ≤ 1) :
    ∃ s c, bits BinOp.or IntKind.u64 (IntKind.u64.wrap (z'.getD k 0 * 2)) cc = s ∧ z'.getD k 0 / 9223372036854775808 = c ∧ 0 ≤ c ∧ c ≤ 1 ∧ DblI z (z'.set k s) n (k + 1) c := by
  obtain ⟨d1, d2, d3, d4⟩ := h
  have hx := isW_get d1 k
  obtain ⟨e1, e2, e3, e4⟩ := left_eq (z'.getD k 0) cc 1 hx (by decide) (by decide) h0 (by have : (2 : Int) ^ (1 : Int).toNat = 2 := by decide
                                                                                          omega)
  rw [show (2 : Int) ^ min (1 : Int).toNat 64 = 2 by decide] at e1
  rw [show (2 : Int) ^ min ((64 : Int) - 1).toNat 64 = 9223372036854775808 by decide] at e2
  obtain ⟨_, m2, m3⟩ := moreS_ok (a := z'.getD k 0) (b := 2 ^ (1 : Int).toNat) (c := cc) (d := 0) hx (by decide) ⟨h0, Int.lt_of_le_of_lt h1 (by decide)⟩ ⟨Int.le_refl 0, W64_pos⟩
  have hz : z.getD k 0 = z'.getD k 0 := by
    have hz1 : (z'.drop k).getD 0 0 = (z.drop k).getD 0 0 := by rw [d3]
    simpa [List.getD_eq_getElem?_getD] using hz1.symm
  have two : (2 : Int) ^ (1 : Int).toNat = 2 := by decide
  rw [two] at e1 e2 e3 e4 m2 m3
  refine ⟨_, _, e1, e2, e3, by omega, inB_set d1 _ m2, by simp [d2], ?_, ?_⟩
  · have h2 : z'.drop (k + 1) = z.drop (k + 1) := by
      have h3 := congrArg (List.drop 1) d3
      simpa [List.drop_drop, Nat.add_comm] using h3
    rw [← h2]
    simp [List.drop_set]
  · rw [take_set_step (by omega), valB_append, List.length_take, Nat.min_eq_left (by omega), take_step' z k, Int.mul_add, ← d4, hz, Int.pow_succ]
    simp only [valB, Int.mul_zero, Int.add_zero]
    rw [Int.add_zero] at m3
    generalize (moreS (z'.getD k 0) 2 cc 0).1 = s at *
    generalize (moreS (z'.getD k 0) 2 cc 0).2 = c at *
    generalize z'.getD k 0 = y at *
    generalize W64 ^ k = P at *
    generalize valB W64 (z'.take k) = V at *
    have e9 : P * W64 * c = P * (W64 * c) := Int.mul_assoc _ _ _
    have e10 : W64 * c = y * 2 + cc - s := by omega
    rw [e9, e10]
    simp only [Int.mul_add, Int.mul_sub]
    have e11 : P * (y * 2) = 2 * (P * y) := by grind
    omega
/-- A row of n words with a value. -/
def SqI (z : List Int) (n : Nat) (T : Int) : Prop := inW z ∧ z.length = n ∧ valB W64 z = T
theorem dbl_end {X z z' : List Int} {cc : Int} (hX : inW X) (hz : SqI z (2 * X.length + 1) (crV X X.length)) (h : DblI z z' (2 * X.length + 1) (2 * X.length + 1) cc) (h0 : 0 ≤ cc) : SqI z' (2 * X.length + 1) (2 * crV X X.length + sqV X 0) := by
  obtain ⟨d1, d2, d3, d4⟩ := h
  obtain ⟨z1, z2, z3⟩ := hz
  rw [List.take_of_length_le (by omega), List.take_of_length_le (by omega), z3] at d4
  have h1 := cr_lt hX X.length
  have h2 := pow_mono (B := W64) (by decide) (show 2 * X.length ≤ 2 * X.length + 1 by omega)
  have h3 := valB_nonneg W64_pos d1
  have hc : cc = 0 := by
    by_cases hc : cc ≤ 0
    · omega
    · have h4 : W64 ^ (2 * X.length + 1) * 1 ≤ W64 ^ (2 * X.length + 1) * cc := Int.mul_le_mul_of_nonneg_left (by omega) (Int.le_of_lt (pow_posB W64_pos _))
      rw [Int.mul_one] at h4
      omega
  rw [hc, Int.mul_zero, Int.add_zero] at d4
  exact ⟨d1, d2, by rw [d4]; show _ = _ + (0 : Int); omega⟩
theorem put_sq (g bx : Nat) (X : List Int) (k m : Nat) (z : List Int) (V : World) (hX : inW X) (h4 : X.length ≤ 4096) (hk : k < X.length) (hm : m < X.length) (hz : SqI z (2 * X.length + 1) (crP X k m)) (hr : RowB V g z) (hb : Boxed V bx 23 (.slice (some ⟨g, 0, none⟩) (2 * X.length + 1) (2 * X.length + 1))) (hne : bx ≠ g) :
    Calls Tryd.prog 69 #[.int .i64 ((k : Int) + (m : Int)), .int .u64 (X.getD k 0 * X.getD m 0 / W64), .int .u64 (X.getD k 0 * X.getD m 0 % W64), .pointer (some ⟨bx, 0, none⟩)] V (PutPost g bx (2 * X.length + 1) (crP X k (m + 1)) V) := by
  obtain ⟨hz1, hz2, hz3⟩ := hz
  have hxk := isW_get hX k
  have hxm := isW_get hX m
  obtain ⟨h1, h2, h3, h4', h5⟩ := mulHi (X.getD k 0) (X.getD m 0) hxk hxm
  have e : valB W64 z + W64 ^ (k + m) * (X.getD k 0 * X.getD m 0 % W64 + W64 * (X.getD k 0 * X.getD m 0 / W64)) = crP X k (m + 1) := by
    rw [show X.getD k 0 * X.getD m 0 % W64 + W64 * (X.getD k 0 * X.getD m 0 / W64) = X.getD k 0 * X.getD m 0 by omega, hz3, crP_step]
  have hb1 := crP_lt hX k (m + 1)
  have hb2 := pow_mono (B := W64) (by decide) (show 2 * X.length ≤ 2 * X.length + 1 by omega)
  have h := put1 g bx (2 * X.length + 1) (k + m) (X.getD k 0 * X.getD m 0 / W64) (X.getD k 0 * X.getD m 0 % W64) z V (by omega) hz1 hz2 (by omega) h1 h2 hr hb hne (by rw [e]; omega)
  rw [e, Int.natCast_add] at h
  exact h
theorem put_sq2 (g bx : Nat) (X : List Int) (k : Nat) (z : List Int) (V : World) (hX : inW X) (h4 : X.length ≤ 4096) (hk : k < X.length) (hz : SqI z (2 * X.length + 1) (2 * crV X X.length + sqV X k)) (hr : RowB V g z) (hb : Boxed V bx 23 (.slice (some ⟨g, 0, none⟩) (2 * X.length + 1) (2 * X.length + 1))) (hne : bx ≠ g) :
    Calls Tryd.prog 69 #[.int .i64 (2 * (k : Int)), .int .u64 (X.getD k 0 * X.getD k 0 / W64), .int .u64 (X.getD k 0 * X.getD k 0 % W64), .pointer (some ⟨bx, 0, none⟩)] V (PutPost g bx (2 * X.length + 1) (2 * crV X X.length + sqV X (k + 1)) V) := by
  obtain ⟨hz1, hz2, hz3⟩ := hz
  have hxk := isW_get hX k
  obtain ⟨h1, h2, h3, h4', h5⟩ := mulHi (X.getD k 0) (X.getD k 0) hxk hxk
  have e : valB W64 z + W64 ^ (2 * k) * (X.getD k 0 * X.getD k 0 % W64 + W64 * (X.getD k 0 * X.getD k 0 / W64)) = 2 * crV X X.length + sqV X (k + 1) := by
    rw [show X.getD k 0 * X.getD k 0 % W64 + W64 * (X.getD k 0 * X.getD k 0 / W64) = X.getD k 0 * X.getD k 0 by omega, hz3]
    show _ = 2 * crV X X.length + (sqV X k + W64 ^ (2 * k) * (X.getD k 0 * X.getD k 0))
    omega
  have hb1 := sq_lt hX
  have hb3 : 2 * crV X X.length + sqV X (k + 1) ≤ valB W64 X * valB W64 X := by rcases cr_sq_lt hX (k + 1) with h | h; exact h; omega
  have hb2 := pow_mono (B := W64) (by decide) (show 2 * X.length ≤ 2 * X.length + 1 by omega)
  have h := put1 g bx (2 * X.length + 1) (2 * k) (X.getD k 0 * X.getD k 0 / W64) (X.getD k 0 * X.getD k 0 % W64) z V (by omega) hz1 hz2 (by omega) h1 h2 hr hb hne (by rw [e]; omega)
  rw [e, Int.natCast_mul] at h
  exact h
set_option maxRecDepth 100000 in
set_option maxHeartbeats 4000000 in
theorem nat_Square.calls (A0 : Option Addr) (c0 : Nat) (l0 : List Int) (r1 : List Int) (r2 : Int) (w : World) (hr0 : Kd.C (Kd.int .u64) w A0 l0.length l0) (hc0 : l0.length ≤ c0) (h : nat_Square.f l0 = some (r1, r2)) :
  Calls Tryd.prog 38 #[.slice A0 l0.length c0] w fun e w' => ∃ v0_ : Value, e = .returned (.tuple #[v0_, .int .i64 r2]) ∧ Kd.R (Kd.int .u64) 36 w' w.heap.size (fun _ => True) v0_ r1 ∧ Below w.heap.size w w' := by
 unfold nat_Square.f at h
 by_cases hw : inW l0
 ·rw [if_pos hw] at h
  by_cases h4 : l0.length ≤ 4096
  ·rw [if_pos h4] at h
   have HL := Aside0.mk (large_one A0 c0 l0 w false hr0 hc0 (decide_eq_false (by omega)))
   have hv0 := valW_nonneg hw
   have cX := can_canL hv0
   have vx := can_val hv0
   have lx := can_le hw
   have hC0 := hr0
   have HLen := Aside0.mk (show nat_Len.f l0 = some (lenL (can (valB W64 l0))) by unfold nat_Len.f; rw [if_pos ⟨hw, by omega⟩])
   have HT0 := Aside0.mk (fun w' (hb : Below w.heap.size w w') => trim1 A0 c0 l0 w' hw (Kd.C_below hr0 hb) hc0)
   have C0 := C_take hr0 _ (can_le hw)
   rw [can_take hw] at C0
   have HR0 := Aside0.mk hr0
   obtain ⟨X, hX⟩ : ∃ X, X = can (valB W64 l0) := ⟨_, rfl⟩
   rw [← hX] at cX vx lx HT0 C0 HLen
   rw [← vx] at h
   have HC0 := Aside0.mk C0
   have hXc : X.length ≤ c0 := by omega
   have hX4 : X.length ≤ 4096 := by omega
   obtain ⟨L, hL⟩ : ∃ L, L = lenL X := ⟨_, rfl⟩
   rw [← hL] at HLen
   have hL0 : 0 ≤ L ∧ L ≤ 262144 := by
    by_cases hn : X = []
    ·rw [hL, hn]; unfold lenL; simp
    ·obtain ⟨q1, q2, q3, q4, q5⟩ := lenL_bounds cX hn
     rw [hL]
     exact ⟨by omega, by omega⟩
   obtain ⟨hL1, hL2⟩ := hL0
   clear C0 hr0 hX vx hC0
   by_cases hearly : 0 < L ∧ 0 < L ∧ 262144 < L + L - 1
   ·unfold fitV at h
    rw [if_neg (by have := sq_long cX (by omega) (by omega); omega)] at h
    cases h
    have HTL := Aside0.mk (show nat_tooLong.f L L = some true by unfold nat_tooLong.f; rw [if_pos ⟨by omega, by omega, by omega, by omega⟩, decide_eq_true hearly])
    clear hearly hL
    go_enter Tryd.func38, Tryd.ntmps38
    go_wp2_with fail
    refine HL.out.mono ?_
    rintro e w1 ⟨rfl, hb1⟩
    have HB1 := Aside0.mk hb1
    clear hb1
    go_wp2_with fail
    refine (nat_Len.calls A0 c0 l0 _ _ (Kd.C_below HR0.out HB1.out) hc0 HLen.out).mono ?_
    rintro e w2 ⟨rfl, hd⟩
    have HB2 := Aside0.mk (below_step HB1.out hd.below)
    clear hd HB1
    go_wp2_with fail
    refine (nat_Len.calls A0 c0 l0 _ _ (Kd.C_below HR0.out HB2.out) hc0 HLen.out).mono ?_
    rintro e w3 ⟨rfl, hd⟩
    have HB3 := Aside0.mk (below_step HB2.out hd.below)
    clear hd HB2
    go_wp2_with fail
    refine (nat_tooLong.calls L L _ _ HTL.out).mono ?_
    rintro e w4 ⟨rfl, hd⟩
    have HB4 := Aside0.mk (below_step HB3.out hd.below)
    clear hd HB3
    go_wp2
    go_ret2
    exact ⟨_, rfl, Kd.R_nil _ _ _ _ _, HB4.out⟩
   ·have HTL := Aside0.mk (show nat_tooLong.f L L = some false by unfold nat_tooLong.f; rw [if_pos ⟨by omega, by omega, by omega, by omega⟩, decide_eq_false hearly])
    have HH := Aside0.mk h
    have HX := Aside0.mk (canL_in cX)
    have hmk := print_make2 (2 * X.length + 1) (2 * X.length + 1) (Nat.le_refl _) (by omega)
    simp only [Int.natCast_add, Int.natCast_mul, Int.natCast_one, Int.cast_ofNat_Int] at hmk
    clear hearly hL h cX
    go_enter Tryd.func38, Tryd.ntmps38
    go_wp2_with fail
    refine HL.out.mono ?_
    rintro e w1 ⟨rfl, hb1⟩
    have HB1 := Aside0.mk hb1
    clear hb1
    go_wp2_with fail
    refine (nat_Len.calls A0 c0 l0 _ _ (Kd.C_below HR0.out HB1.out) hc0 HLen.out).mono ?_
    rintro e w2 ⟨rfl, hd⟩
    have HB2 := Aside0.mk (below_step HB1.out hd.below)
    clear hd HB1
    go_wp2_with fail
    refine (nat_Len.calls A0 c0 l0 _ _ (Kd.C_below HR0.out HB2.out) hc0 HLen.out).mono ?_
    rintro e w3 ⟨rfl, hd⟩
    have HB3 := Aside0.mk (below_step HB2.out hd.below)
    clear hd HB2
    go_wp2_with fail
    refine (nat_tooLong.calls L L _ _ HTL.out).mono ?_
    rintro e w4 ⟨rfl, hd⟩
    have HB4 := Aside0.mk (below_step HB3.out hd.below)
    clear hd HB3
    go_wp2_with fail
    refine (HT0.out _ HB4.out).mono ?_
    rintro e w5 ⟨rfl, rfl⟩
    go_wp2
    have r0 : RowB ((w4.alloc (.cells (madeCells #[.int .u64 0] (2 * X.length + 1)) 36)).alloc (.cells #[.slice (some ⟨w4.heap.size, 0, none⟩) (2 * X.length + 1) (2 * X.length + 1)] 23)) w4.heap.size (List.replicate (2 * X.length + 1) 0) := (RowB.made w4 (2 * X.length + 1)).alloc _
    have b0 := Boxed.new (w4.alloc (.cells (madeCells #[.int .u64 0] (2 * X.length + 1)) 36)) 23 (.slice (some ⟨w4.heap.size, 0, none⟩) (2 * X.length + 1) (2 * X.length + 1))
    rw [World.size_alloc] at b0
    have HBW := Aside0.mk (below_alloc (below_alloc HB4.out (.cells (madeCells #[.int .u64 0] (2 * X.length + 1)) 36)) (.cells #[.slice (some ⟨w4.heap.size, 0, none⟩) (2 * X.length + 1) (2 * X.length + 1)] 23))
    have hgs := below_size HB4.out
    obtain ⟨g, hg⟩ : ∃ g, g = w4.heap.size := ⟨_, rfl⟩
    rw [← hg] at r0 b0 HBW hgs ⊢
    have HG := Aside0.mk hg
    clear hg hmk HB4
    generalize ((w4.alloc (.cells (madeCells #[.int .u64 0] (2 * X.length + 1)) 36)).alloc (.cells #[.slice (some ⟨g, 0, none⟩) (2 * X.length + 1) (2 * X.length + 1)] 23)) = W at *
    go_loopw [37] (fun i wr => ∃ (k : Nat) (z : List Int), k ≤ X.length ∧ i = .int .i64 (k : Int) ∧ Aside0 (SqI z (2 * X.length + 1) (crV X k)) ∧ RowB wr g z ∧ Boxed wr (g + 1) 23 (.slice (some ⟨g, 0, none⟩) (2 * X.length + 1) (2 * X.length + 1)) ∧ Aside0 (Below w.heap.size w wr)) (fun i _ => X.length - (intOf i).toNat)
    case atStart => exact ⟨0, _, Nat.zero_le _, rfl, ⟨inB_zeros W64_pos _, by simp, by rw [valB_zeros]; rfl⟩, r0, b0, HBW⟩
    case round =>
     clear r0 b0 HBW
     obtain ⟨k, z, hk, rfl, HZ, r0, b0, HB⟩ := hrel
     obtain ⟨wo, rfl⟩ : ∃ wo : World, wo = wr := ⟨_, rfl⟩
     by_cases hlt : k < X.length
     ·have hlti : (k : Int) < (X.length : Int) := by omega
      go_wp2
      go_loopw [7] (fun i wr => ∃ (m : Nat) (z : List Int), k + 1 ≤ m ∧ m ≤ X.length ∧ i = .int .i64 (m : Int) ∧ Aside0 (SqI z (2 * X.length + 1) (crP X k m)) ∧ RowB wr g z ∧ Boxed wr (g + 1) 23 (.slice (some ⟨g, 0, none⟩) (2 * X.length + 1) (2 * X.length + 1)) ∧ Aside0 (Below w.heap.size w wr)) (fun i _ => X.length - (intOf i).toNat)
      case atStart => exact ⟨k + 1, z, Nat.le_refl _, by omega, by go_num, ⟨by rw [crP_start]; exact HZ.out⟩, r0, b0, HB⟩
      case round =>
       clear r0 b0 HB HZ
       obtain ⟨m, z', hm1, hm2, rfl, HZ, r0, b0, HB⟩ := hrel
       by_cases hmt : m < X.length
       ·have hmti : (m : Int) < (X.length : Int) := by omega
        have hmb : decide (m < X.length) = true := decide_eq_true hmt
        have hC := Kd.C_below HC0.out HB.out
        obtain ⟨ad, rfl, hx0⟩ := Kd.at_int hC (k : Int) (by omega) (by omega)
        obtain ⟨ad', had', hx1⟩ := Kd.at_int hC (m : Int) (by omega) (by omega)
        cases had'
        rw [show rd X (k : Int) = X.getD k 0 by simp [rd]] at hx0
        rw [show rd X (m : Int) = X.getD m 0 by simp [rd]] at hx1
        have hxk := isW_get HX.out k
        have hxm := isW_get HX.out m
        have HPut := Aside0.mk (fun (V : World) (hr : RowB V g z') (hb : Boxed V (g + 1) 23 (.slice (some ⟨g, 0, none⟩) (2 * X.length + 1) (2 * X.length + 1))) => put_sq g (g + 1) X k m z' V HX.out (by omega) hlt hmt HZ.out hr hb (by omega))
        have hwide := wide1 (X.getD k 0) (X.getD m 0) hxk hxm
        obtain ⟨x, hx⟩ : ∃ x, x = X.getD k 0 := ⟨_, rfl⟩
        obtain ⟨y, hy⟩ : ∃ y, y = X.getD m 0 := ⟨_, rfl⟩
        rw [← hx] at hx0 hwide HPut
        rw [← hy] at hx1 hwide HPut
        obtain ⟨hi, hhi⟩ : ∃ hi, hi = x * y / W64 := ⟨_, rfl⟩
        obtain ⟨lo, hlo⟩ : ∃ lo, lo = x * y % W64 := ⟨_, rfl⟩
        rw [← hhi, ← hlo] at hwide HPut
        have HWide := Aside0.mk hwide
        have i0 : (0 : Int) ≤ (k : Int) := by omega
        have i1 : (0 : Int) ≤ (m : Int) := by omega
        have t0 : ((k : Nat) : Int).toNat = k := rfl
        have t1 : ((m : Nat) : Int).toNat = m := rfl
        rw [t0] at hx0
        rw [t1] at hx1
        have HR := Aside0.mk r0
        have HBx := Aside0.mk b0
        clear hx hy hhi hlo hxk hxm hwide hC r0 b0 HZ
        go_wp2
        go_quiet ((go_at_call 71; exact Calls.quiet_of_same ((HWide.out _).mono (fun e w' h => ⟨h.1, h.2.symm⟩))))
        go_wp2_with fail
        refine (HPut.out (wr.drewN nq) HR.out HBx.out).mono ?_
        rintro e w9 ⟨⟨v9, rfl⟩, z9, r9, q1, q2, q3, q4, q5⟩
        have b9 : Boxed w9 (g + 1) 23 (.slice (some ⟨g, 0, none⟩) (2 * X.length + 1) (2 * X.length + 1)) := q5.trans HBx.out
        have HB9 := Aside0.mk (below_weaken (pw_below_drewN HB.out _) hgs q4)
        have HZ9 := Aside0.mk (show SqI z9 (2 * X.length + 1) (crP X k (m + 1)) from ⟨q1, q2, q3⟩)
        clear q1 q2 q3 q4 q5 HR HBx HB HPut
        go_wp2
        go_roundw
        case rel => exact ⟨m + 1, z9, by omega, by omega, by go_num, HZ9, r9, b9, HB9⟩
        case measure => simp [intOf]; omega
       ·obtain rfl : m = X.length := by omega
        have hmb : decide (X.length < X.length) = false := decide_eq_false (by omega)
        go_wp2
        go_roundw
        case rel => exact ⟨k + 1, z', by omega, by go_num, ⟨by rw [← crP_end]; exact HZ.out⟩, r0, b0, HB⟩
        case measure => simp [intOf]; omega
     ·obtain rfl : k = X.length := by omega
      have gz := b0.cell
      go_wp2
      clear gz
      go_loopw [10, 70] (fun c i wr => ∃ (k : Nat) (z' : List Int) (cc : Int), k ≤ 2 * X.length + 1 ∧ i = .int .i64 (k : Int) ∧ c = .int .u64 cc ∧ 0 ≤ cc ∧ cc ≤ 1 ∧ Aside0 (DblI z z' (2 * X.length + 1) k cc) ∧ RowB wr g z' ∧ Boxed wr (g + 1) 23 (.slice (some ⟨g, 0, none⟩) (2 * X.length + 1) (2 * X.length + 1)) ∧ Aside0 (Below w.heap.size w wr)) (fun _ i _ => 2 * X.length + 1 - (intOf i).toNat)
      case atStart => exact ⟨0, z, 0, Nat.zero_le _, rfl, rfl, Int.le_refl 0, by decide, ⟨dbl_start HZ.out.1 HZ.out.2.1⟩, r0, b0, HB⟩
      case round =>
       clear r0 b0 HB
       obtain ⟨k, z', cc, hk', rfl, rfl, hc0', hc1', HD, r0, b0, HB⟩ := hrel
       by_cases hlk : k < 2 * X.length + 1
       ·have hlki : (k : Int) < 2 * (X.length : Int) + 1 := by omega
        have hlkb : decide ((k : Int) < 2 * (X.length : Int) + 1) = true := decide_eq_true hlki
        have gz := b0.cell
        have x1 := r0.cell k (by rw [HD.out.2.1]; exact hlk)
        have f1 := r0.frozen k
        have i0 : (0 : Int) ≤ (k : Int) := by omega
        have t0 : ((k : Nat) : Int).toNat = k := rfl
        obtain ⟨s, c, hor, hsh, hc2, hc3, hD2⟩ := dbl_step HD.out hlk hc0' hc1'
        have HD2 := Aside0.mk hD2
        obtain ⟨y, hy⟩ : ∃ y, y = z'.getD k 0 := ⟨_, rfl⟩
        rw [← hy] at x1 hor hsh
        have r2 : RowB (wr.setCell ⟨g, k, none⟩ (.int .u64 s)) g (z'.set k s) := RowB.set r0 k s
        have b2 : Boxed (wr.setCell ⟨g, k, none⟩ (.int .u64 s)) (g + 1) 23 (.slice (some ⟨g, 0, none⟩) (2 * X.length + 1) (2 * X.length + 1)) := Boxed.far b0 (p := ⟨g, k, none⟩) (by show g + 1 ≠ g; omega) _
        have HR2 := Aside0.mk r2
        have HBx2 := Aside0.mk b2
        have HB2 := Aside0.mk (HB.out.setCell (p := ⟨g, k, none⟩) hgs (.int .u64 s))
        clear hy hD2 r2 b2 r0 b0
        go_wp2
        refine ⟨⟨k + 1, z'.set k s, c, by omega, by go_num, rfl, hc2, hc3, HD2, HR2.out, HBx2.out, HB2⟩, ?_⟩
        simp [intOf]; omega
       ·obtain rfl : k = 2 * X.length + 1 := by omega
        have hlkb : decide (((2 * X.length + 1 : Nat) : Int) < 2 * (X.length : Int) + 1) = false := decide_eq_false (by omega)
        have HZ2 := Aside0.mk (dbl_end HX.out HZ.out HD.out hc0')
        clear HD HZ
        go_wp2
        go_loopw [87] (fun i wr => ∃ (k : Nat) (z : List Int), k ≤ X.length ∧ i = .int .i64 (k : Int) ∧ Aside0 (SqI z (2 * X.length + 1) (2 * crV X X.length + sqV X k)) ∧ RowB wr g z ∧ Boxed wr (g + 1) 23 (.slice (some ⟨g, 0, none⟩) (2 * X.length + 1) (2 * X.length + 1)) ∧ Aside0 (Below w.heap.size w wr)) (fun i _ => X.length - (intOf i).toNat)
        case atStart => exact ⟨0, z', Nat.zero_le _, rfl, HZ2, r0, b0, HB⟩
        case round =>
         clear r0 b0 HB HZ2
         obtain ⟨k, z9, hk9, rfl, HZ, r0, b0, HB⟩ := hrel
         by_cases hlt9 : k < X.length
         ·have hlti : (k : Int) < (X.length : Int) := by omega
          have hC := Kd.C_below HC0.out HB.out
          obtain ⟨ad, rfl, hx0⟩ := Kd.at_int hC (k : Int) (by omega) (by omega)
          rw [show rd X (k : Int) = X.getD k 0 by simp [rd]] at hx0
          have t0 : ((k : Nat) : Int).toNat = k := rfl
          rw [t0] at hx0
          have hxk := isW_get HX.out k
          have HPut := Aside0.mk (fun (V : World) (hr : RowB V g z9) (hb : Boxed V (g + 1) 23 (.slice (some ⟨g, 0, none⟩) (2 * X.length + 1) (2 * X.length + 1))) => put_sq2 g (g + 1) X k z9 V HX.out (by omega) hlt9 HZ.out hr hb (by omega))
          have hwide := wide1 (X.getD k 0) (X.getD k 0) hxk hxk
          obtain ⟨x, hx⟩ : ∃ x, x = X.getD k 0 := ⟨_, rfl⟩
          rw [← hx] at hx0 hwide HPut
          obtain ⟨hi, hhi⟩ : ∃ hi, hi = x * x / W64 := ⟨_, rfl⟩
          obtain ⟨lo, hlo⟩ : ∃ lo, lo = x * x % W64 := ⟨_, rfl⟩
          rw [← hhi, ← hlo] at hwide HPut
          have HWide := Aside0.mk hwide
          have i0 : (0 : Int) ≤ (k : Int) := by omega
          have HR := Aside0.mk r0
          have HBx := Aside0.mk b0
          clear hx hhi hlo hxk hwide hC r0 b0 HZ
          go_wp2_with (go_at_call 71; refine (HWide.out _).mono ?_; rintro e w' ⟨rfl, rfl⟩)
          refine (HPut.out _ HR.out HBx.out).mono ?_
          rintro e w9 ⟨⟨v9, rfl⟩, z10, r9, q1, q2, q3, q4, q5⟩
          have b9 : Boxed w9 (g + 1) 23 (.slice (some ⟨g, 0, none⟩) (2 * X.length + 1) (2 * X.length + 1)) := q5.trans HBx.out
          have HB9 := Aside0.mk (below_weaken HB.out hgs q4)
          have HZ9 := Aside0.mk (show SqI z10 (2 * X.length + 1) (2 * crV X X.length + sqV X (k + 1)) from ⟨q1, q2, q3⟩)
          clear q1 q2 q3 q4 q5 HR HBx HB HPut
          go_wp2
          go_roundw
          case rel => ((repeat apply Exists.intro); exact ⟨⟨k + 1, z10, by omega, by go_num, HZ9, r9, b9, HB9⟩, rfl⟩)
          case measure => simp [intOf]; omega
         ·obtain rfl : k = X.length := by omega
          have gz := b0.cell
          have hval : valB W64 z9 = valB W64 X * valB W64 X := by
           have h1 := cr_sq X X.length
           rw [tlV_end, Int.mul_zero, Int.sub_zero] at h1
           rw [HZ.out.2.2, h1]
          have hR0 := r0.own' w.heap.size hgs (by rw [HZ.out.2.1]; omega)
          have hF := fit1 (some ⟨g, 0, none⟩) z9.length z9 wr HZ.out.1 (R_C hR0) (Nat.le_refl _)
          have hR1 := R_can hR0 HZ.out.1
          rw [HZ.out.2.1] at hF hR1
          rw [hval] at hF hR1
          have hhh := HH.out
          have HB9 := HB
          clear r0 b0 hval hR0 HZ
          unfold fitV at hhh
          by_cases h9 : (can (valB W64 X * valB W64 X)).length ≤ 4096
          ·rw [if_pos h9] at hF hhh
           cases hhh
           have HF := Aside0.mk hF
           have HR1 := Aside0.mk hR1
           clear hF hR1
           go_wp2_with fail
           refine HF.out.mono ?_
           rintro e w9 ⟨rfl, rfl⟩
           go_wp2
           go_ret2
           exact ⟨_, rfl, HR1.out, HB9.out⟩
          ·rw [if_neg h9] at hF hhh
           cases hhh
           have HF := Aside0.mk hF
           clear hF hR1
           go_wp2_with fail
           refine HF.out.mono ?_
           rintro e w9 ⟨rfl, rfl⟩
           go_wp2
           go_ret2
           exact ⟨_, rfl, Kd.R_nil _ _ _ _ _, HB9.out⟩
  ·rw [if_neg h4] at h
   cases h
   have HL := Aside0.mk (large_one A0 c0 l0 w true hr0 hc0 (decide_eq_true (by omega)))
   clear hr0
   go_enter Tryd.func38, Tryd.ntmps38
   go_wp2_with fail
   refine HL.out.mono ?_
   rintro e w1 ⟨rfl, hb1⟩
   have HB1 := Aside0.mk hb1
   clear hb1
   go_wp2
   go_ret2
   exact ⟨_, rfl, Kd.R_nil _ _ _ _ _, HB1.out⟩
 ·rw [if_neg hw] at h; cases h
end Go.Proofs.YtkkkbalefnileaaDoor.Ex
/- nat.guessed: closures that call a closure. -/
namespace Go.Proofs.YtkkkbalefnileaaDoor.Ex
open Go.RowKit Go.Shelf Go.Proofs.YtkkkbalefnileaaDoorW.PrintWords Go.Proofs.YtkkkbalefnileaaDoorW.PrintLast Go.Proofs.YtkkkbalefnileaaDoorW.PrintMore
set_option linter.unusedVariables false
set_option linter.unusedSimpArgs false

/-- A word at a place; 0 where there is none. -/
def atL (x : List Int) (i : Int) : Int := if i < 0 then 0 else if (x.length : Int) ≤ i then 0 else x.getD i.toNat 0
theorem atL_w {x : List Int} (h : inW x) (i : Int) : isW (atL x i) := by
  unfold atL
  split
  · exact ⟨Int.le_refl 0, W64_pos⟩
  · split
    · exact ⟨Int.le_refl 0, W64_pos⟩
    · exact isW_get h _
/-- 64 bits from a place on. -/
def topL (x : List Int) (i s : Int) : Int := bits .or .u64 (IntKind.u64.wrap (atL x i * 2 ^ s.toNat)) (atL x (i - 1) / 2 ^ (64 - s).toNat)
theorem topL_w {x : List Int} (h : inW x) (i s : Int) : isW (topL x i s) := by
  unfold topL
  obtain ⟨a0, a1⟩ := atL_w h (i - 1)
  have hw : ∃ a : Nat, IntKind.u64.wrap (atL x i * 2 ^ s.toNat) = (a : Int) ∧ a < 18446744073709551616 := by
    refine ⟨((atL x i * 2 ^ s.toNat) % 18446744073709551616).toNat, ?_, ?_⟩
    · have h1 := Int.emod_nonneg (atL x i * 2 ^ s.toNat) (show (18446744073709551616 : Int) ≠ 0 by decide)
      rw [Int.toNat_of_nonneg h1]; rfl
    · have h1 := Int.emod_nonneg (atL x i * 2 ^ s.toNat) (show (18446744073709551616 : Int) ≠ 0 by decide)
      have h2 := Int.emod_lt_of_pos (atL x i * 2 ^ s.toNat) (show (0 : Int) < 18446744073709551616 by decide)
      omega
  have hb : ∃ b : Nat, atL x (i - 1) / 2 ^ (64 - s).toNat = (b : Int) ∧ b < 18446744073709551616 := by
    have hp : (0 : Int) < 2 ^ (64 - s).toNat := Int.pow_pos (by decide)
    have h1 : 0 ≤ atL x (i - 1) / 2 ^ (64 - s).toNat := Int.ediv_nonneg a0 (Int.le_of_lt hp)
    have h2 : atL x (i - 1) / 2 ^ (64 - s).toNat ≤ atL x (i - 1) := Int.ediv_le_self _ a0
    rw [W64_eq] at a1
    exact ⟨(atL x (i - 1) / 2 ^ (64 - s).toNat).toNat, (Int.toNat_of_nonneg h1).symm, by omega⟩
  obtain ⟨a, ha, ha2⟩ := hw
  obtain ⟨b, hb, hb2⟩ := hb
  rw [ha, hb, bits_or_u64_nat a b ha2 hb2]
  have h3 : a ||| b < 2 ^ 64 := Nat.or_lt_two_pow (by omega) (by omega)
  exact ⟨by omega, by rw [W64_eq]; omega⟩
set_option maxHeartbeats 1000000 in
theorem at1 (A0 : Option Addr) (c0 : Nat) (l0 : List Int) (i : Int) (w : World) (hr0 : Kd.C (Kd.int .u64) w A0 l0.length l0) (hc0 : l0.length ≤ c0) :
    Calls Tryd.prog 102 #[.slice A0 l0.length c0, .int .i64 i] w fun e w' => e = .returned (.int .u64 (atL l0 i)) ∧ w = w' := by
  unfold atL
  by_cases h0 : i < 0
  · have b0 : decide (i < 0) = true := decide_eq_true h0
    rw [if_pos h0]
    clear hr0
    go_enter Tryd.func102, Tryd.ntmps102
    go_wp2
    go_ret
    exact ⟨rfl, rfl⟩
  · have b0 : decide (i < 0) = false := decide_eq_false h0
    rw [if_neg h0]
    by_cases h1 : (l0.length : Int) ≤ i
    · have b1 : decide ((l0.length : Int) ≤ i) = true := decide_eq_true h1
      rw [if_pos h1]
      clear hr0
      go_enter Tryd.func102, Tryd.ntmps102
      go_wp2
      go_ret
      exact ⟨rfl, rfl⟩
    · have b1 : decide ((l0.length : Int) ≤ i) = false := decide_eq_false h1
      rw [if_neg h1]
      obtain ⟨ad, rfl, hx0⟩ := Kd.at_int hr0 i (by omega) (by omega)
      have e0 : rd l0 i = l0.getD i.toNat 0 := rfl
      rw [e0] at hx0
      obtain ⟨x, hx⟩ : ∃ x, x = l0.getD i.toNat 0 := ⟨_, rfl⟩
      rw [← hx] at hx0 ⊢
      have i0 : 0 ≤ i := by omega
      have i1 : i < (l0.length : Int) := by omega
      clear hx hr0 e0
      go_enter Tryd.func102, Tryd.ntmps102
      go_wp2
      go_ret
      exact ⟨rfl, rfl⟩
set_option maxHeartbeats 2000000 in
theorem top1 (ba bs : Nat) (A0 : Option Addr) (c0 : Nat) (l0 : List Int) (i s : Int) (w : World) (hr0 : Kd.C (Kd.int .u64) w A0 l0.length l0) (hc0 : l0.length ≤ c0) (hi0 : 0 ≤ i) (hi1 : i ≤ 1000000) (hs0 : 0 ≤ s) (hs1 : s ≤ 63)
    (hba : w.cell? ⟨ba, 0, none⟩ = some (.func (.func 102) #[] #[])) (hbs : w.cell? ⟨bs, 0, none⟩ = some (.int .u64 s)) :
    Calls Tryd.prog 103 #[.slice A0 l0.length c0, .int .i64 i, .pointer (some ⟨ba, 0, none⟩), .pointer (some ⟨bs, 0, none⟩)] w fun e w' => e = .returned (.int .u64 (topL l0 i s)) ∧ Drawn0 w w' := by
  have HR := Aside0.mk hr0
  have HA := Aside0.mk (fun (V : World) (hV : Below w.heap.size w V) (j : Int) => at1 A0 c0 l0 j V (Kd.C_below hr0 hV) hc0)
  have hw1 : IntKind.i64.wrap (i - 1) = i - 1 := IntWalk.i64_in _ (by omega)
  have hw2 : IntKind.u64.wrap (64 - s) = 64 - s := IntWalk.u64_in _ (by omega)
  unfold topL
  obtain ⟨x, hx⟩ : ∃ x, x = atL l0 i := ⟨_, rfl⟩
  obtain ⟨y, hy⟩ : ∃ y, y = atL l0 (i - 1) := ⟨_, rfl⟩
  rw [← hx, ← hy]
  have HX := Aside0.mk hx
  have HY := Aside0.mk hy
  clear hx hy hr0
  go_enter Tryd.func103, Tryd.ntmps103
  go_wp2
  go_quiet ((first | (go_at_call 102; exact Calls.quiet_of_same ((HA.out _ (by first | exact Below.refl _ _ | exact pw_below_drewN (Below.refl _ _) _) _).mono (fun e w' h => ⟨h.1, h.2.symm⟩)))))
  go_wp2
  go_ret
  exact ⟨by rw [← HX.out, ← HY.out]; rfl, ⟨nq, rfl⟩⟩
theorem boxes2 (w : World) (x y : Value) (t u : TypeId) : let W := (w.alloc (.cells #[x] t)).alloc (.cells #[y] u); W.cell? ⟨w.heap.size, 0, none⟩ = some x ∧ W.cell? ⟨w.heap.size + 1, 0, none⟩ = some y ∧ Below w.heap.size w W := by
  have h1 : (w.alloc (.cells #[x] t)).cell? ⟨w.heap.size, 0, none⟩ = some x := by unfold World.cell?; rw [heap_alloc_new]; rfl
  have e1 : (w.alloc (.cells #[x] t)).heap.size = w.heap.size + 1 := by simp
  have h2 : ((w.alloc (.cells #[x] t)).alloc (.cells #[y] u)).cell? ⟨w.heap.size + 1, 0, none⟩ = some y := by unfold World.cell?; rw [← e1, heap_alloc_new]; rfl
  exact ⟨pw_cell_below (below_alloc (Below.refl _ _) _) h1, h2, below_alloc (below_alloc (Below.refl _ _) _) _⟩
def nat_guessed.f (l0 l1 : List Int) : Option Int :=
  if inW l0 ∧ inW l1 ∧ 0 < l1.length ∧ l0.length ≤ 10000 ∧ l1.length ≤ 10000 ∧ l1.getD (l1.length - 1) 0 ≠ 0 then
    if topL l1 ((l1.length : Int) - 1) (64 - (Lib.bitLen (l1.getD (l1.length - 1) 0).toNat : Int)) ≤ topL l0 (l1.length : Int) (64 - (Lib.bitLen (l1.getD (l1.length - 1) 0).toNat : Int)) then some 18446744073709551615
    else some ((topL l0 (l1.length : Int) (64 - (Lib.bitLen (l1.getD (l1.length - 1) 0).toNat : Int)) * W64 + topL l0 ((l1.length : Int) - 1) (64 - (Lib.bitLen (l1.getD (l1.length - 1) 0).toNat : Int))) / topL l1 ((l1.length : Int) - 1) (64 - (Lib.bitLen (l1.getD (l1.length - 1) 0).toNat : Int)))
  else none
set_option maxRecDepth 100000 in
set_option maxHeartbeats 2000000 in
theorem nat_guessed.calls (A0 : Option Addr) (c0 : Nat) (l0 : List Int) (A1 : Option Addr) (c1 : Nat) (l1 : List Int) (r : Int) (w : World) (hr0 : Kd.C (Kd.int .u64) w A0 l0.length l0) (hc0 : l0.length ≤ c0) (hr1 : Kd.C (Kd.int .u64) w A1 l1.length l1) (hc1 : l1.length ≤ c1) (h : nat_guessed.f l0 l1 = some r) :
  Calls Tryd.prog 86 #[.slice A0 l0.length c0, .slice A1 l1.length c1] w fun e w' => e = .returned (.int .u64 r) ∧ Below w.heap.size w w' := by
 unfold nat_guessed.f at h
 by_cases hw : inW l0 ∧ inW l1 ∧ 0 < l1.length ∧ l0.length ≤ 10000 ∧ l1.length ≤ 10000 ∧ l1.getD (l1.length - 1) 0 ≠ 0
 ·rw [if_pos hw] at h
  obtain ⟨hw0, hw1, hp, hm0, hm1, hnz⟩ := hw
  obtain ⟨ad, rfl, hx0⟩ := Kd.at_int hr1 ((l1.length : Int) - 1) (by omega) (by omega)
  have e0 : rd l1 ((l1.length : Int) - 1) = l1.getD (l1.length - 1) 0 := by unfold rd; congr 1; omega
  have e1 : ((l1.length : Int) - 1).toNat = l1.length - 1 := by omega
  rw [e0, e1] at hx0
  have hx := isW_get hw1 (l1.length - 1)
  obtain ⟨x, hxx⟩ : ∃ x, x = l1.getD (l1.length - 1) 0 := ⟨_, rfl⟩
  rw [← hxx] at hx0 hx hnz h
  have i1 : (0 : Int) ≤ (l1.length : Int) - 1 := by omega
  have i2 : (l1.length : Int) - 1 < (l1.length : Int) := by omega
  have hz : bits_LeadingZeros64.f x = some (64 - (Lib.bitLen x.toNat : Int)) := by
   unfold bits_LeadingZeros64.f
   rw [if_pos ⟨hx.1, by have := hx.2; rw [W64_eq] at this; omega⟩]
  have hbl := (bitLen_bounds 64 x.toNat (Nat.le_refl _) (by have := hx.2; rw [W64_eq] at this; omega))
  have hbl1 := (hbl.2.1 (by have := hx.1; omega)).1
  have hbl2 := hbl.2.2
  obtain ⟨s, hs⟩ : ∃ s, s = 64 - (Lib.bitLen x.toNat : Int) := ⟨_, rfl⟩
  rw [← hs] at h hz
  have hs0 : 0 ≤ s := by omega
  have hs1 : s ≤ 63 := by omega
  have HZ := Aside0.mk hz
  have HR0 := Aside0.mk hr0
  have HR1 := Aside0.mk hr1
  have HW0 := Aside0.mk hw0
  have HW1 := Aside0.mk hw1
  have HH := Aside0.mk h
  clear hr0 hr1 hw0 hw1 h hz hbl hs hxx hnz e0 hbl1 hbl2
  go_enter Tryd.func86, Tryd.ntmps86
  go_wp2_with (go_at_call 84; refine (bits_LeadingZeros64.calls x _ _ HZ.out).mono ?_; rintro e w' ⟨rfl, hd⟩; have HB := Aside0.mk hd.below; clear hd)
  have n0 : (0 : Int) ≤ (l1.length : Int) := by omega
  have n1 : (l1.length : Int) ≤ 1000000 := by omega
  have n2 : (l1.length : Int) - 1 ≤ 1000000 := by omega
  refine (top1 (w'.heap.size + 1) w'.heap.size A0 c0 l0 _ s _ (Kd.C_below HR0.out (below_alloc (below_alloc HB.out _) _)) hc0 n0 n1 hs0 hs1 (boxes2 _ _ _ _ _).2.1 (boxes2 _ _ _ _ _).1).mono ?_
  rintro e w2 ⟨rfl, hd⟩
  have a2 := pw_cell_below hd.below (boxes2 _ _ _ _ _).2.1
  have s2 := pw_cell_below hd.below (boxes2 _ _ _ _ _).1
  have HB2 := Aside0.mk (below_step (below_step HB.out (boxes2 _ _ _ _ _).2.2) hd.below)
  clear hd HB
  obtain ⟨ba, hba⟩ : ∃ ba, ba = w'.heap.size + 1 := ⟨_, rfl⟩
  obtain ⟨bs, hbs⟩ : ∃ bs, bs = w'.heap.size := ⟨_, rfl⟩
  rw [← hba] at a2 ⊢
  rw [← hbs] at s2 ⊢
  clear hba hbs
  go_wp2_with fail
  refine (top1 ba bs A0 c0 l0 _ s _ (Kd.C_below HR0.out HB2.out) hc0 i1 n2 hs0 hs1 a2 s2).mono ?_
  rintro e w3 ⟨rfl, hd⟩
  have a3 := pw_cell_below hd.below a2
  have s3 := pw_cell_below hd.below s2
  have HB3 := Aside0.mk (below_step HB2.out hd.below)
  clear hd HB2 a2 s2
  go_wp2_with fail
  refine (top1 ba bs (some ad) c1 l1 _ s _ (Kd.C_below HR1.out (below_alloc HB3.out _)) hc1 i1 n2 hs0 hs1 (pw_cell_below (below_alloc (Below.refl _ _) _) a3) (pw_cell_below (below_alloc (Below.refl _ _) _) s3)).mono ?_
  rintro e w4 ⟨rfl, hd⟩
  have q4 := pw_cell_below hd.below (two_cell0 _ _ _ _)
  have r4 := pw_cell_below hd.below (two_cell1 _ _ _ _)
  have HB4 := Aside0.mk (below_step (below_alloc HB3.out _) hd.below)
  clear hd HB3 a3 s3
  have hq := topL_w HW0.out (l1.length : Int) s
  have hr := topL_w HW0.out ((l1.length : Int) - 1) s
  have hd := topL_w HW1.out ((l1.length : Int) - 1) s
  obtain ⟨Q, hQ⟩ : ∃ Q, Q = topL l0 (l1.length : Int) s := ⟨_, rfl⟩
  obtain ⟨R, hR⟩ : ∃ R, R = topL l0 ((l1.length : Int) - 1) s := ⟨_, rfl⟩
  obtain ⟨D, hD⟩ : ∃ D, D = topL l1 ((l1.length : Int) - 1) s := ⟨_, rfl⟩
  rw [← hQ] at hq q4 HH
  rw [← hR] at hr r4 HH
  rw [← hD] at hd HH ⊢
  try rw [← hQ]
  try rw [← hR]
  clear hQ hR hD
  have hh := HH.out
  by_cases hc : D ≤ Q
  ·rw [if_pos hc] at hh
   cases hh
   have hcb : decide (D ≤ Q) = true := decide_eq_true hc
   go_wp2
   go_ret
   exact ⟨rfl, HB4.out⟩
  ·rw [if_neg hc] at hh
   cases hh
   have hcb : decide (D ≤ Q) = false := decide_eq_false hc
   have hdv := bits_Div64.calls Q R D ((Q * W64 + R) / D) ((Q * W64 + R) % D) w4 (by unfold bits_Div64.f; rw [if_pos ⟨⟨hq.1, by omega⟩, hr, hd.2⟩])
   have HDV := Aside0.mk hdv
   obtain ⟨V, hV⟩ : ∃ V, V = (Q * W64 + R) / D := ⟨_, rfl⟩
   rw [← hV] at HDV
   have HV := Aside0.mk hV
   obtain ⟨U, hU⟩ : ∃ U, U = (Q * W64 + R) % D := ⟨_, rfl⟩
   rw [← hU] at HDV
   clear hV hU hdv hq hr hd HH hc
   go_wp2_with fail
   refine HDV.out.mono ?_
   rintro e w5 ⟨rfl, hd⟩
   have HB5 := Aside0.mk (below_step HB4.out hd.below)
   clear hd
   go_wp2
   go_ret
   refine ⟨?_, HB5.out⟩
   rw [← HV.out]
   rfl
 ·rw [if_neg hw] at h; cases h
end Go.Proofs.YtkkkbalefnileaaDoor.Ex
/- The law's few: a copy of a row's head; equal. -/
namespace Go.Proofs.YtkkkbalefnileaaDoor.Ex
open Go.RowKit Go.Proofs.YtkkkbalefnileaaDoorW.PrintWords Go.Proofs.YtkkkbalefnileaaDoorW.PrintLast Go.Proofs.YtkkkbalefnileaaDoorW.PrintMore
set_option linter.unusedVariables false
set_option linter.unusedSimpArgs false

def Halt1 (p : Prop) : Prop := p
theorem halt1 {p : Prop} (h : Halt1 p) : p := h
def reckonerlaw02_few.f (l0 : List Int) (a1 : Int) : Option (List Int) := if 0 ≤ a1 ∧ (l0.length ≤ 17592186044415 ∨ a1 ≤ 17592186044415) then some (l0.take a1.toNat) else none
set_option maxHeartbeats 1000000 in
theorem reckonerlaw02_few.calls (A0 : Option Addr) (c0 : Nat) (l0 : List Int) (a1 : Int) (r : List Int) (w : World) (hr0 : Kd.C (Kd.int .u64) w A0 l0.length l0) (hc0 : l0.length ≤ c0) (h : reckonerlaw02_few.f l0 a1 = some r) :
  Calls Tryd.prog 8 #[.slice A0 l0.length c0, .int .i64 a1] w fun e w' => ∃ v0_ : Value, e = .returned (v0_) ∧ Kd.R (Kd.int .u64) 36 w' w.heap.size (fun _ => True) v0_ r ∧ Below w.heap.size w w' := by
 unfold reckonerlaw02_few.f at h
 by_cases hw : 0 ≤ a1 ∧ (l0.length ≤ 17592186044415 ∨ a1 ≤ 17592186044415)
 ·rw [if_pos hw] at h
  cases h
  obtain ⟨hw0, hw1⟩ := hw
  by_cases hlt : a1 < (l0.length : Int)
  ·obtain ⟨m, rfl⟩ := Int.eq_ofNat_of_zero_le hw0
   have e0 : ((m : Nat) : Int).toNat = m := rfl
   rw [e0]
   have hmn : min (l0.length : Int) ((m : Nat) : Int) = ((m : Nat) : Int) := by omega
   have HC := Aside0.mk (show Kd.C (Kd.int .u64) w A0 m (l0.take m) from (Kd.C_of_reads (h1 := fun _ => rfl) ((Kd.reads_of_C (enc := Value.int .u64) (d := (0 : Int)) (h1 := fun _ => rfl) hr0).take_ m (by omega))))
   have HL := Aside0.mk (show (l0.take m).length ≤ 17592186044415 by rw [List.length_take]; omega)
   have HB := Aside0.mk (Below.refl w.heap.size w)
   clear hr0
   go_enter Tryd.func8, Tryd.ntmps8
   go_wp2_with ((with_reducible refine gate_builtin (b := .append) (xs := #[.tmp 6, .tmp 12]) rfl ?_); at_builtin; refine halt1 ?_)
   unfold Halt1
   refine Kd.R_append_rows (Kd.int .u64) (w0 := w) w.heap.size rfl (.tmp 6) (.tmp 12) 23 36 (.int .u64 0) 8 rfl Tryd.underlying23 iW rfl (by decide) (by omega) (.slice none 0 0) ([] : List Int) (l0.take m) _ _ _ (fun _ => True) (fun _ => False) rfl rfl ?aO ?aR (fun _ _ h => h) (fun _ h => h.elim) ?aF ?aB ?aS ?aL ?_
   case aR => exact HC.out
   case aB => exact HB.out
   case aF => exact (fun _ _ => trivial)
   case aO => exact Kd.R_nil _ _ _ _ (fun _ => True)
   case aS => exact Nat.le_refl _
   case aL => have := HL.out; first | (simp at this ⊢; omega) | (simp; omega)
   intro v1 w1 ho hb hg hat
   have HO := Aside0.mk ho
   have HB1 := Aside0.mk hb
   clear ho hb hg hat
   go_wp2
   go_ret
   exact ⟨_, rfl, by have := HO.out; rw [List.nil_append] at this; exact this, HB1.out⟩
  ·rw [List.take_of_length_le (by omega)]
   have hmn : min (l0.length : Int) a1 = (l0.length : Int) := by omega
   have HC := Aside0.mk (show Kd.C (Kd.int .u64) w A0 l0.length (l0) from hr0)
   have HL := Aside0.mk (show (l0).length ≤ 17592186044415 by omega)
   have HB := Aside0.mk (Below.refl w.heap.size w)
   clear hr0
   go_enter Tryd.func8, Tryd.ntmps8
   go_wp2_with ((with_reducible refine gate_builtin (b := .append) (xs := #[.tmp 6, .tmp 12]) rfl ?_); at_builtin; refine halt1 ?_)
   unfold Halt1
   refine Kd.R_append_rows (Kd.int .u64) (w0 := w) w.heap.size rfl (.tmp 6) (.tmp 12) 23 36 (.int .u64 0) 8 rfl Tryd.underlying23 iW rfl (by decide) (by omega) (.slice none 0 0) ([] : List Int) (l0) _ _ _ (fun _ => True) (fun _ => False) rfl rfl ?aO ?aR (fun _ _ h => h) (fun _ h => h.elim) ?aF ?aB ?aS ?aL ?_
   case aR => exact HC.out
   case aB => exact HB.out
   case aF => exact (fun _ _ => trivial)
   case aO => exact Kd.R_nil _ _ _ _ (fun _ => True)
   case aS => exact Nat.le_refl _
   case aL => have := HL.out; first | (simp at this ⊢; omega) | (simp; omega)
   intro v1 w1 ho hb hg hat
   have HO := Aside0.mk ho
   have HB1 := Aside0.mk hb
   clear ho hb hg hat
   go_wp2
   go_ret
   exact ⟨_, rfl, by have := HO.out; rw [List.nil_append] at this; exact this, HB1.out⟩
 ·rw [if_neg hw] at h; cases h
end Go.Proofs.YtkkkbalefnileaaDoor.Ex
/- slices.Clone of a number. -/
namespace Go.Proofs.YtkkkbalefnileaaDoor.Ex
open Go.RowKit Go.Proofs.YtkkkbalefnileaaDoorW.PrintWords Go.Proofs.YtkkkbalefnileaaDoorW.PrintLast Go.Proofs.YtkkkbalefnileaaDoorW.PrintMore
set_option linter.unusedVariables false
set_option linter.unusedSimpArgs false

def api_Nat_uint64.f (l0 : List Int) : Option (List Int) := if l0.length ≤ 17592186044415 then some l0 else none
set_option maxHeartbeats 2000000 in
set_option maxRecDepth 100000 in
theorem api_Nat_uint64.calls (A0 : Option Addr) (c0 : Nat) (l0 : List Int) (r : List Int) (w : World) (hr0 : Kd.C (Kd.int .u64) w A0 l0.length l0) (hc0 : l0.length ≤ c0) (h : api_Nat_uint64.f l0 = some r) :
    Calls Tryd.prog 56 #[.slice A0 l0.length c0] w fun e w' => ∃ v0_ : Value, e = .returned (v0_) ∧ Kd.R (Kd.int .u64) 36 w' w.heap.size (fun _ => True) v0_ r ∧ Below w.heap.size w w' := by
  unfold api_Nat_uint64.f at h
  by_cases hw : l0.length ≤ 17592186044415
  · rw [if_pos hw] at h
    cases h
    cases A0 with
    | none =>
      have hn : l0 = [] := by
        have h1 := hr0
        cases l0 with
        | nil => rfl
        | cons x l =>
          obtain ⟨ad, ha, _⟩ := Kd.at_int hr0 0 (by omega) (by simp)
          cases ha
      subst hn
      clear hr0
      have q22 : ∀ (w : World) (a : Option Addr) (n c : Nat), (binOp .eql 23 (.slice a n c) (.slice none 0 0)).run Tryd.prog w = .ok (.bool a.isNone) w := fun w a n c => Lib.run_eql_slice_nil w _ _ a n c 0 0 Tryd.underlying23
      go_enter Tryd.func56, Tryd.ntmps56
      go_wp2
      go_ret
      exact ⟨_, rfl, Kd.R_nil _ _ _ _ _, Below.refl _ _⟩
    | some ad =>
      have HB := Aside0.mk (below_alloc (Below.refl w.heap.size w) (.cells #[] 36))
      have HC := Aside0.mk (Kd.C_below hr0 HB.out)
      have HL := Aside0.mk hw
      have HO := Aside0.mk (show Kd.R (Kd.int .u64) 36 (w.alloc (.cells #[] 36)) w.heap.size (fun _ => True) (.slice (some ⟨w.heap.size, 0, none⟩) 0 0) ([] : List Int) from Kd.R_of_own (enc := Value.int .u64) (h1 := fun _ => rfl) (own_lit w w.heap.size 36 .u64 [] (Nat.le_refl _) (by simp)) (fun _ _ => trivial))
      clear hr0
      have q22 : ∀ (w : World) (a : Option Addr) (n c : Nat), (binOp .eql 23 (.slice a n c) (.slice none 0 0)).run Tryd.prog w = .ok (.bool a.isNone) w := fun w a n c => Lib.run_eql_slice_nil w _ _ a n c 0 0 Tryd.underlying23
      go_enter Tryd.func56, Tryd.ntmps56
      go_wp2_with ((with_reducible refine gate_builtin (b := .append) (xs := #[.tmp 5, .tmp 6]) rfl ?_); at_builtin; refine halt1 ?_)
      unfold Halt1
      refine Kd.R_append_rows (Kd.int .u64) (w0 := w) w.heap.size rfl (.tmp 5) (.tmp 6) 23 36 (.int .u64 0) 8 rfl Tryd.underlying23 iW rfl (by decide) (by omega) (.slice (some ⟨w.heap.size, 0, none⟩) 0 0) ([] : List Int) l0 _ _ _ (fun _ => True) (fun _ => False) rfl rfl ?aO ?aR (fun _ _ h => h) (fun _ h => h.elim) ?aF ?aB ?aS ?aL ?_
      case aR => exact HC.out
      case aB => exact HB.out
      case aF => exact (fun _ _ => trivial)
      case aO => exact HO.out
      case aS => exact below_size HB.out
      case aL => have := HL.out; first | (simp at this ⊢; omega) | (simp; omega)
      intro v1 w1 ho hb hg hat
      have HO2 := Aside0.mk ho
      have HB1 := Aside0.mk hb
      clear ho hb hg hat HO HB HC
      go_wp2
      go_ret
      exact ⟨_, rfl, by have := HO2.out; rw [List.nil_append] at this; exact this, HB1.out⟩
  · rw [if_neg hw] at h; cases h
end Go.Proofs.YtkkkbalefnileaaDoor.Ex
/- Values: a row divided by a word; a guess of a digit. No program here. -/
namespace Go.Proofs.YtkkkbalefnileaaDoor.Ex
set_option linter.unusedVariables false

/-- A row divided by a word: the quotient's row and the rest. -/
theorem div_val (w : Int) (l : List Int) (hl : inW l) (hw0 : 0 < w) (hw : isW w) : ∀ n c, n ≤ l.length → 0 ≤ c → c < w →
    inW (downL (divS w l) n c).1 ∧ (0 ≤ (downL (divS w l) n c).2 ∧ (downL (divS w l) n c).2 < w) ∧ valB W64 (downL (divS w l) n c).1 * w + (downL (divS w l) n c).2 = valB W64 (l.take n) + W64 ^ n * c
  | 0, c, _, h0, h1 => ⟨inW_nil, ⟨h0, h1⟩, by simp [downL, valB]⟩
  | n + 1, c, hn, h0, h1 => by
    have hx := isW_get hl n
    have hx0 := hx.1
    have hx1 := hx.2
    have hd := Int.emod_add_mul_ediv (c * W64 + l.getD n 0) w
    have hr0 := Int.emod_nonneg (c * W64 + l.getD n 0) (by omega : w ≠ 0)
    have hr1 := Int.emod_lt_of_pos (c * W64 + l.getD n 0) hw0
    have hn0 : 0 ≤ c * W64 + l.getD n 0 := Int.add_nonneg (Int.mul_nonneg h0 (by decide)) hx0
    have hq0 := Int.ediv_nonneg hn0 (by omega : 0 ≤ w)
    have hq1 : (c * W64 + l.getD n 0) / w < W64 := by
      rw [Int.ediv_lt_iff_lt_mul hw0]
      have h2 : (c + 1) * W64 ≤ w * W64 := Int.mul_le_mul_of_nonneg_right (by omega) (by decide)
      rw [Int.add_mul, Int.one_mul] at h2
      rw [Int.mul_comm W64]
      omega
    obtain ⟨k1, k2, k3⟩ := div_val w l hl hw0 hw n ((c * W64 + l.getD n 0) % w) (by omega) hr0 hr1
    have hlen := downL_length (divS w l) n ((c * W64 + l.getD n 0) % w)
    refine ⟨inW_append.2 ⟨k1, inW_cons.2 ⟨⟨hq0, hq1⟩, inW_nil⟩⟩, k2, ?_⟩
    show valB W64 ((downL (divS w l) n ((c * W64 + l.getD n 0) % w)).1 ++ [(c * W64 + l.getD n 0) / w]) * w + (downL (divS w l) n ((c * W64 + l.getD n 0) % w)).2 = _
    rw [valB_append, hlen, valB_take_succ W64 l n (by omega), Int.pow_succ]
    simp only [valB, Int.mul_zero, Int.add_zero]
    generalize (c * W64 + l.getD n 0) / w = q at *
    generalize (c * W64 + l.getD n 0) % w = r at *
    generalize valB W64 (downL (divS w l) n r).1 = V at *
    generalize (downL (divS w l) n r).2 = S at *
    generalize valB W64 (l.take n) = L at *
    generalize l.getD n 0 = x at *
    generalize W64 ^ n = P at *
    clear hl hq0 hq1 hr0 hr1 hn0 k1 k2 hlen hx hx0 hx1 h0 h1 hn hw hw0
    have e : P * (r + w * q) = P * (c * W64 + x) := by rw [hd]
    grind
end Go.Proofs.YtkkkbalefnileaaDoor.Ex
/- nat.FromWord, DivWord, Add, Mul, Cmp, Trim. -/
namespace Go.Proofs.YtkkkbalefnileaaDoor.Ex
open Go.RowKit Go.Shelf Go.Proofs.YtkkkbalefnileaaDoorW.PrintWords Go.Proofs.YtkkkbalefnileaaDoorW.PrintLast Go.Proofs.YtkkkbalefnileaaDoorW.PrintMore
set_option linter.unusedVariables false
set_option linter.unusedSimpArgs false

theorem can_word {a : Int} (h : isW a) : can a = if a = 0 then [] else [a] := by
  by_cases h0 : a = 0
  · rw [if_pos h0, h0]; rfl
  · rw [if_neg h0]
    exact (can_eq (l := [a]) ⟨h, trivial, fun _ => h0⟩ (by simp [valB])).symm
def nat_FromWord.f (a0 : Int) : Option (List Int) := if isW a0 then some (can a0) else none
set_option maxHeartbeats 1000000 in
theorem nat_FromWord.calls (a0 : Int) (r : List Int) (w : World)  (h : nat_FromWord.f a0 = some r) :
    Calls Tryd.prog 28 #[.int .u64 a0] w fun e w' => ∃ v0_ : Value, e = .returned (v0_) ∧ Kd.R (Kd.int .u64) 36 w' w.heap.size (fun _ => True) v0_ r ∧ Below w.heap.size w w' := by
  unfold nat_FromWord.f at h
  by_cases hw : isW a0
  · rw [if_pos hw] at h
    cases h
    rw [can_word hw]
    by_cases h0 : a0 = 0
    · rw [if_pos h0]
      have hb : (a0 == 0) = true := beq_iff_eq.2 h0
      subst h0
      go_enter Tryd.func28, Tryd.ntmps28
      go_wp2
      go_ret
      exact ⟨_, rfl, Kd.R_nil _ _ _ _ _, Below.refl _ _⟩
    · rw [if_neg h0]
      have hb : (a0 == 0) = false := beq_eq_false_iff_ne.2 h0
      have HO1 := Aside0.mk (show Kd.R (Kd.int .u64) 36 (w.alloc (.cells #[.int .u64 a0] 36)) w.heap.size (fun _ => True) (.slice (some ⟨w.heap.size, 0, none⟩) 1 1) ([a0] : List Int) from Kd.R_of_own (enc := Value.int .u64) (h1 := fun _ => rfl) (own_lit w w.heap.size 36 .u64 [a0] (Nat.le_refl _) (by simp)) (fun _ _ => trivial))
      go_enter Tryd.func28, Tryd.ntmps28
      go_wp2
      go_ret
      exact ⟨_, rfl, HO1.out, below_alloc (Below.refl _ _) _⟩
  · rw [if_neg hw] at h; cases h
def nat_DivWord.f (l0 : List Int) (a1 : Int) : Option (List Int × Int × Int) :=
  if inW l0 ∧ isW a1 then
    if l0.length ≤ 4096 then
      if a1 = 0 then some ([], 0, 5) else some (can (valB W64 l0 / a1), valB W64 l0 % a1, 0)
    else some ([], 0, 2)
  else none
theorem div_word {X : List Int} {a : Int} (hX : inW X) (h4 : X.length ≤ 4096) (ha : isW a) (h0 : a ≠ 0) : ∃ q, words_DivWord.f X a 0 = some (q, valB W64 X % a, 0) ∧ inW q ∧ valB W64 q = valB W64 X / a := by
  have hpos : 0 < a := by have := ha.1; omega
  obtain ⟨d1, d2, d3⟩ := div_val a X hX hpos ha X.length 0 (Nat.le_refl _) (Int.le_refl 0) hpos
  rw [List.take_length, Int.mul_zero, Int.add_zero] at d3
  have hf : words_DivWord.f X a 0 = some ((downL (divS a X) X.length 0).1, (downL (divS a X) X.length 0).2, 0) := by
    unfold words_DivWord.f
    rw [if_pos ⟨hX, ha, ⟨Int.le_refl 0, W64_pos⟩⟩, if_pos h4, if_neg h0, if_neg (by omega)]
  generalize downL (divS a X) X.length 0 = R at *
  have e : R.2 = valB W64 X % a ∧ valB W64 R.1 = valB W64 X / a := by
    have h1 := Int.emod_add_mul_ediv (valB W64 X) a
    have h2 := Int.emod_nonneg (valB W64 X) h0
    have h3 := Int.emod_lt_of_pos (valB W64 X) hpos
    have h4 : R.2 + a * valB W64 R.1 = valB W64 X % a + a * (valB W64 X / a) := by rw [h1, Int.mul_comm a]; omega
    exact div_unique d2.1 d2.2 h2 h3 h4
  rw [e.1] at hf
  exact ⟨R.1, hf, d1, e.2⟩
set_option maxRecDepth 100000 in
set_option maxHeartbeats 2000000 in
theorem nat_DivWord.calls (A0 : Option Addr) (c0 : Nat) (l0 : List Int) (a1 : Int) (r1 : List Int) (r2 : Int) (r3 : Int) (w : World) (hr0 : Kd.C (Kd.int .u64) w A0 l0.length l0) (hc0 : l0.length ≤ c0) (h : nat_DivWord.f l0 a1 = some (r1, r2, r3)) :
  Calls Tryd.prog 39 #[.slice A0 l0.length c0, .int .u64 a1] w fun e w' => ∃ v0_ : Value, e = .returned (.tuple #[v0_, .int .u64 r2, .int .i64 r3]) ∧ Kd.R (Kd.int .u64) 36 w' w.heap.size (fun _ => True) v0_ r1 ∧ Below w.heap.size w w' := by
 unfold nat_DivWord.f at h
 by_cases hw : inW l0 ∧ isW a1
 ·rw [if_pos hw] at h
  obtain ⟨hw0, hw1⟩ := hw
  by_cases h4 : l0.length ≤ 4096
  ·rw [if_pos h4] at h
   have HL := Aside0.mk (large_one A0 c0 l0 w false hr0 hc0 (decide_eq_false (by omega)))
   by_cases h0 : a1 = 0
   ·rw [if_pos h0] at h
    cases h
    have hb : (a1 == 0) = true := beq_iff_eq.2 h0
    subst h0
    clear hr0
    go_enter Tryd.func39, Tryd.ntmps39
    go_wp2_with fail
    refine HL.out.mono ?_
    rintro e w1 ⟨rfl, hb1⟩
    have HB1 := Aside0.mk hb1
    clear hb1
    go_wp2
    go_ret3
    exact ⟨_, rfl, Kd.R_nil _ _ _ _ _, HB1.out⟩
   ·rw [if_neg h0] at h
    cases h
    have hb : (a1 == 0) = false := beq_eq_false_iff_ne.2 h0
    have HT0 := Aside0.mk (fun w' (hb : Below w.heap.size w w') => trim1 A0 c0 l0 w' hw0 (Kd.C_below hr0 hb) hc0)
    have C0 := C_take hr0 _ (can_le hw0)
    rw [can_take hw0] at C0
    have cX := can_in (valW_nonneg hw0)
    have vx := can_val (valW_nonneg hw0)
    have lx := can_le hw0
    obtain ⟨q, hf, hq1, hq2⟩ := div_word cX (by omega) hw1 h0
    rw [vx] at hf hq2
    obtain ⟨X, hX⟩ : ∃ X, X = can (valB W64 l0) := ⟨_, rfl⟩
    rw [← hX] at HT0 C0 lx hf
    have HC0 := Aside0.mk C0
    have HF := Aside0.mk hf
    have HQ1 := Aside0.mk hq1
    have HQ2 := Aside0.mk hq2
    have hXc : X.length ≤ c0 := by omega
    clear C0 hf hq1 hq2 hX vx cX hr0
    obtain ⟨rm, hrm⟩ : ∃ rm, rm = valB W64 l0 % a1 := ⟨_, rfl⟩
    rw [← hrm] at HF ⊢
    clear hrm
    go_enter Tryd.func39, Tryd.ntmps39
    go_wp2_with fail
    refine HL.out.mono ?_
    rintro e w1 ⟨rfl, hb1⟩
    have HB1 := Aside0.mk hb1
    clear hb1
    go_wp2_with fail
    refine (HT0.out _ HB1.out).mono ?_
    rintro e w2 ⟨rfl, rfl⟩
    go_wp2_with fail
    refine (words_DivWord.calls A0 c0 X a1 0 q rm 0 _ (Kd.C_below HC0.out HB1.out) hXc HF.out).mono ?_
    rintro e w2 ⟨v2, rfl, hR2, hb2⟩
    obtain ⟨A2, c2, rfl⟩ := Kd.R_slice hR2
    have HR2 := Aside0.mk (Kd.R_lower hR2 (below_size HB1.out))
    have HB2 := Aside0.mk (below_step HB1.out hb2)
    clear hR2 hb2 HB1
    go_wp2_with fail
    refine (trim1 A2 c2 q _ HQ1.out (R_C HR2.out) (R_cap HR2.out)).mono ?_
    rintro e w3 ⟨rfl, rfl⟩
    go_wp2
    go_ret3
    refine ⟨_, rfl, ?_, HB2.out⟩
    have h5 := R_can HR2.out HQ1.out
    rw [HQ2.out] at h5
    rw [HQ2.out]
    exact h5
  ·rw [if_neg h4] at h
   cases h
   have HL := Aside0.mk (large_one A0 c0 l0 w true hr0 hc0 (decide_eq_true (by omega)))
   clear hr0
   go_enter Tryd.func39, Tryd.ntmps39
   go_wp2_with fail
   refine HL.out.mono ?_
   rintro e w1 ⟨rfl, hb1⟩
   have HB1 := Aside0.mk hb1
   clear hb1
   go_wp2
   go_ret3
   exact ⟨_, rfl, Kd.R_nil _ _ _ _ _, HB1.out⟩
 ·rw [if_neg hw] at h; cases h
def nat_Add.f (l0 l1 : List Int) : Option (List Int × Int) :=
  if inW l0 ∧ inW l1 then
    if l0.length ≤ 4096 ∧ l1.length ≤ 4096 then some (fitV (valB W64 l0 + valB W64 l1)) else some ([], 2)
  else none
set_option maxRecDepth 100000 in
set_option maxHeartbeats 2000000 in
theorem nat_Add.calls (A0 : Option Addr) (c0 : Nat) (l0 : List Int) (A1 : Option Addr) (c1 : Nat) (l1 : List Int) (r1 : List Int) (r2 : Int) (w : World) (hr0 : Kd.C (Kd.int .u64) w A0 l0.length l0) (hc0 : l0.length ≤ c0) (hr1 : Kd.C (Kd.int .u64) w A1 l1.length l1) (hc1 : l1.length ≤ c1) (h : nat_Add.f l0 l1 = some (r1, r2)) :
  Calls Tryd.prog 29 #[.slice A0 l0.length c0, .slice A1 l1.length c1] w fun e w' => ∃ v0_ : Value, e = .returned (.tuple #[v0_, .int .i64 r2]) ∧ Kd.R (Kd.int .u64) 36 w' w.heap.size (fun _ => True) v0_ r1 ∧ Below w.heap.size w w' := by
 unfold nat_Add.f at h
 by_cases hw : inW l0 ∧ inW l1
 ·rw [if_pos hw] at h
  obtain ⟨hw0, hw1⟩ := hw
  by_cases h4 : l0.length ≤ 4096 ∧ l1.length ≤ 4096
  ·rw [if_pos h4] at h
   have HL := Aside0.mk (large_two A0 A1 c0 c1 l0 l1 w false hr0 hc0 hr1 hc1 (decide_eq_false (by omega)))
   have hv : 0 ≤ valB W64 l0 + valB W64 l1 := by have := valW_nonneg hw0; have := valW_nonneg hw1; omega
   have HA := Aside0.mk (show nat_add.f l0 l1 = some (can (valB W64 l0 + valB W64 l1)) by unfold nat_add.f; rw [if_pos ⟨hw0, hw1, by omega, by omega⟩])
   obtain ⟨v, hve⟩ : ∃ v, v = valB W64 l0 + valB W64 l1 := ⟨_, rfl⟩
   rw [← hve] at h hv HA
   have HR0 := Aside0.mk hr0
   have HR1 := Aside0.mk hr1
   have HH := Aside0.mk h
   clear hve hr0 hr1 h
   go_enter Tryd.func29, Tryd.ntmps29
   go_wp2_with fail
   refine HL.out.mono ?_
   rintro e w1 ⟨rfl, hb1⟩
   have HB1 := Aside0.mk hb1
   clear hb1
   go_wp2_with fail
   refine (nat_add.calls A0 c0 l0 A1 c1 l1 _ _ (Kd.C_below HR0.out HB1.out) hc0 (Kd.C_below HR1.out HB1.out) hc1 HA.out).mono ?_
   rintro e w2 ⟨v2, rfl, hR2, hb2⟩
   obtain ⟨A2, c2, rfl⟩ := Kd.R_slice hR2
   have HR2 := Aside0.mk (Kd.R_lower hR2 (below_size HB1.out))
   have HB2 := Aside0.mk (below_step HB1.out hb2)
   clear hR2 hb2 HB1
   have hF := fit1 A2 c2 (can v) w2 (can_in hv) (R_C HR2.out) (R_cap HR2.out)
   rw [can_val hv] at hF
   have hh := HH.out
   unfold fitV at hh
   by_cases h9 : (can v).length ≤ 4096
   ·rw [if_pos h9] at hF hh
    cases hh
    have HF := Aside0.mk hF
    clear hF
    go_wp2_with fail
    refine HF.out.mono ?_
    rintro e w9 ⟨rfl, rfl⟩
    go_wp2
    go_ret2
    exact ⟨_, rfl, HR2.out, HB2.out⟩
   ·rw [if_neg h9] at hF hh
    cases hh
    have HF := Aside0.mk hF
    clear hF
    go_wp2_with fail
    refine HF.out.mono ?_
    rintro e w9 ⟨rfl, rfl⟩
    go_wp2
    go_ret2
    exact ⟨_, rfl, Kd.R_nil _ _ _ _ _, HB2.out⟩
  ·rw [if_neg h4] at h
   cases h
   have HL := Aside0.mk (large_two A0 A1 c0 c1 l0 l1 w true hr0 hc0 hr1 hc1 (decide_eq_true (by omega)))
   clear hr0 hr1
   go_enter Tryd.func29, Tryd.ntmps29
   go_wp2_with fail
   refine HL.out.mono ?_
   rintro e w1 ⟨rfl, hb1⟩
   have HB1 := Aside0.mk hb1
   clear hb1
   go_wp2
   go_ret2
   exact ⟨_, rfl, Kd.R_nil _ _ _ _ _, HB1.out⟩
 ·rw [if_neg hw] at h; cases h
def nat_Mul.f (l0 l1 : List Int) : Option (List Int × Int) :=
  if inW l0 ∧ inW l1 then
    if l0.length ≤ 4096 ∧ l1.length ≤ 4096 then some (fitV (valB W64 l0 * valB W64 l1)) else some ([], 2)
  else none
/-- A product that is told to be too long is so. -/
theorem mul_long {X Y : List Int} (hX : canL X) (hY : canL Y) (h1 : 0 < lenL X) (h2 : 0 < lenL Y) (h3 : 262144 < lenL X + lenL Y - 1) : 4096 < (can (valB W64 X * valB W64 Y)).length := by
  have hn : X ≠ [] := by rintro rfl; simp [lenL] at h1
  have hm : Y ≠ [] := by rintro rfl; simp [lenL] at h2
  obtain ⟨p1, p2, p3, p4, p5⟩ := lenL_bounds hX hn
  obtain ⟨q1, q2, q3, q4, q5⟩ := lenL_bounds hY hm
  have hx0 := valW_nonneg (canL_in hX)
  have hy0 := valW_nonneg (canL_in hY)
  have h4 : (2 : Int) ^ (lenL X - 1).toNat * 2 ^ (lenL Y - 1).toNat ≤ valB W64 X * valB W64 Y := Int.mul_le_mul p4 q4 (Int.pow_nonneg (by decide)) hx0
  rw [← Int.pow_add] at h4
  have h5 := pow_mono (B := 2) (by decide) (show 64 * 4096 ≤ (lenL X - 1).toNat + (lenL Y - 1).toNat by omega)
  rw [← pow2_W] at h5
  exact can_high (Int.mul_nonneg hx0 hy0) (Int.le_trans h5 h4)
set_option maxRecDepth 100000 in
set_option maxHeartbeats 4000000 in
theorem nat_Mul.calls (A0 : Option Addr) (c0 : Nat) (l0 : List Int) (A1 : Option Addr) (c1 : Nat) (l1 : List Int) (r1 : List Int) (r2 : Int) (w : World) (hr0 : Kd.C (Kd.int .u64) w A0 l0.length l0) (hc0 : l0.length ≤ c0) (hr1 : Kd.C (Kd.int .u64) w A1 l1.length l1) (hc1 : l1.length ≤ c1) (h : nat_Mul.f l0 l1 = some (r1, r2)) :
  Calls Tryd.prog 30 #[.slice A0 l0.length c0, .slice A1 l1.length c1] w fun e w' => ∃ v0_ : Value, e = .returned (.tuple #[v0_, .int .i64 r2]) ∧ Kd.R (Kd.int .u64) 36 w' w.heap.size (fun _ => True) v0_ r1 ∧ Below w.heap.size w w' := by
 unfold nat_Mul.f at h
 by_cases hw : inW l0 ∧ inW l1
 ·rw [if_pos hw] at h
  obtain ⟨hw0, hw1⟩ := hw
  by_cases h4 : l0.length ≤ 4096 ∧ l1.length ≤ 4096
  ·rw [if_pos h4] at h
   have HL := Aside0.mk (large_two A0 A1 c0 c1 l0 l1 w false hr0 hc0 hr1 hc1 (decide_eq_false (by omega)))
   have hv0 := valW_nonneg hw0
   have hv1 := valW_nonneg hw1
   have HLen0 := Aside0.mk (show nat_Len.f l0 = some (lenL (can (valB W64 l0))) by unfold nat_Len.f; rw [if_pos ⟨hw0, by omega⟩])
   have HLen1 := Aside0.mk (show nat_Len.f l1 = some (lenL (can (valB W64 l1))) by unfold nat_Len.f; rw [if_pos ⟨hw1, by omega⟩])
   have HM := Aside0.mk (show nat_mul.f l0 l1 = some (can (valB W64 l0 * valB W64 l1)) by unfold nat_mul.f; rw [if_pos ⟨hw0, hw1, by omega, by omega, by have := can_le hw0; omega⟩])
   have hlen : ∀ l : List Int, inW l → l.length ≤ 4096 → 0 ≤ lenL (can (valB W64 l)) ∧ lenL (can (valB W64 l)) ≤ 262144 := by
    intro l hl hl4
    by_cases hn : can (valB W64 l) = []
    ·rw [hn]; unfold lenL; simp
    ·obtain ⟨q1, q2, q3, q4, q5⟩ := lenL_bounds (can_canL (valW_nonneg hl)) hn
     have := can_le hl
     exact ⟨by omega, by omega⟩
   obtain ⟨a1, a2⟩ := hlen l0 hw0 h4.1
   obtain ⟨b1, b2⟩ := hlen l1 hw1 h4.2
   have hmul := fun h1 h2 h3 => mul_long (can_canL hv0) (can_canL hv1) h1 h2 h3
   rw [can_val hv0, can_val hv1] at hmul
   have hv : 0 ≤ valB W64 l0 * valB W64 l1 := Int.mul_nonneg hv0 hv1
   obtain ⟨L, hL⟩ : ∃ L, L = lenL (can (valB W64 l0)) := ⟨_, rfl⟩
   obtain ⟨M, hM⟩ : ∃ M, M = lenL (can (valB W64 l1)) := ⟨_, rfl⟩
   rw [← hL] at HLen0 a1 a2 hmul
   rw [← hM] at HLen1 b1 b2 hmul
   obtain ⟨v, hve⟩ : ∃ v, v = valB W64 l0 * valB W64 l1 := ⟨_, rfl⟩
   rw [← hve] at h hv HM hmul
   have HR0 := Aside0.mk hr0
   have HR1 := Aside0.mk hr1
   have HH := Aside0.mk h
   clear hve hr0 hr1 h hL hM hlen
   by_cases hearly : 0 < L ∧ 0 < M ∧ 262144 < L + M - 1
   ·have HTL := Aside0.mk (show nat_tooLong.f L M = some true by unfold nat_tooLong.f; rw [if_pos ⟨by omega, by omega, by omega, by omega⟩, decide_eq_true hearly])
    have hh := HH.out
    unfold fitV at hh
    rw [if_neg (by have := hmul hearly.1 hearly.2.1 hearly.2.2; omega)] at hh
    cases hh
    clear hearly hmul HH
    go_enter Tryd.func30, Tryd.ntmps30
    go_wp2_with fail
    refine HL.out.mono ?_
    rintro e w1 ⟨rfl, hb1⟩
    have HB1 := Aside0.mk hb1
    clear hb1
    go_wp2_with fail
    refine (nat_Len.calls A0 c0 l0 _ _ (Kd.C_below HR0.out HB1.out) hc0 HLen0.out).mono ?_
    rintro e w2 ⟨rfl, hd⟩
    have HB2 := Aside0.mk (below_step HB1.out hd.below)
    clear hd HB1
    go_wp2_with fail
    refine (nat_Len.calls A1 c1 l1 _ _ (Kd.C_below HR1.out HB2.out) hc1 HLen1.out).mono ?_
    rintro e w3 ⟨rfl, hd⟩
    have HB3 := Aside0.mk (below_step HB2.out hd.below)
    clear hd HB2
    go_wp2_with fail
    refine (nat_tooLong.calls L M _ _ HTL.out).mono ?_
    rintro e w4 ⟨rfl, hd⟩
    have HB4 := Aside0.mk (below_step HB3.out hd.below)
    clear hd HB3
    go_wp2
    go_ret2
    exact ⟨_, rfl, Kd.R_nil _ _ _ _ _, HB4.out⟩
   ·have HTL := Aside0.mk (show nat_tooLong.f L M = some false by unfold nat_tooLong.f; rw [if_pos ⟨by omega, by omega, by omega, by omega⟩, decide_eq_false hearly])
    clear hearly hmul
    go_enter Tryd.func30, Tryd.ntmps30
    go_wp2_with fail
    refine HL.out.mono ?_
    rintro e w1 ⟨rfl, hb1⟩
    have HB1 := Aside0.mk hb1
    clear hb1
    go_wp2_with fail
    refine (nat_Len.calls A0 c0 l0 _ _ (Kd.C_below HR0.out HB1.out) hc0 HLen0.out).mono ?_
    rintro e w2 ⟨rfl, hd⟩
    have HB2 := Aside0.mk (below_step HB1.out hd.below)
    clear hd HB1
    go_wp2_with fail
    refine (nat_Len.calls A1 c1 l1 _ _ (Kd.C_below HR1.out HB2.out) hc1 HLen1.out).mono ?_
    rintro e w3 ⟨rfl, hd⟩
    have HB3 := Aside0.mk (below_step HB2.out hd.below)
    clear hd HB2
    go_wp2_with fail
    refine (nat_tooLong.calls L M _ _ HTL.out).mono ?_
    rintro e w4 ⟨rfl, hd⟩
    have HB4 := Aside0.mk (below_step HB3.out hd.below)
    clear hd HB3
    go_wp2_with fail
    refine (nat_mul.calls A0 c0 l0 A1 c1 l1 _ _ (Kd.C_below HR0.out HB4.out) hc0 (Kd.C_below HR1.out HB4.out) hc1 HM.out).mono ?_
    rintro e w5 ⟨v2, rfl, hR2, hb2⟩
    obtain ⟨A2, c2, rfl⟩ := Kd.R_slice hR2
    have HR2 := Aside0.mk (Kd.R_lower hR2 (below_size HB4.out))
    have HB2 := Aside0.mk (below_step HB4.out hb2)
    clear hR2 hb2 HB4
    have hF := fit1 A2 c2 (can v) w5 (can_in hv) (R_C HR2.out) (R_cap HR2.out)
    rw [can_val hv] at hF
    have hh := HH.out
    unfold fitV at hh
    by_cases h9 : (can v).length ≤ 4096
    ·rw [if_pos h9] at hF hh
     cases hh
     have HF := Aside0.mk hF
     clear hF
     go_wp2_with fail
     refine HF.out.mono ?_
     rintro e w9 ⟨rfl, rfl⟩
     go_wp2
     go_ret2
     exact ⟨_, rfl, HR2.out, HB2.out⟩
    ·rw [if_neg h9] at hF hh
     cases hh
     have HF := Aside0.mk hF
     clear hF
     go_wp2_with fail
     refine HF.out.mono ?_
     rintro e w9 ⟨rfl, rfl⟩
     go_wp2
     go_ret2
     exact ⟨_, rfl, Kd.R_nil _ _ _ _ _, HB2.out⟩
  ·rw [if_neg h4] at h
   cases h
   have HL := Aside0.mk (large_two A0 A1 c0 c1 l0 l1 w true hr0 hc0 hr1 hc1 (decide_eq_true (by omega)))
   clear hr0 hr1
   go_enter Tryd.func30, Tryd.ntmps30
   go_wp2_with fail
   refine HL.out.mono ?_
   rintro e w1 ⟨rfl, hb1⟩
   have HB1 := Aside0.mk hb1
   clear hb1
   go_wp2
   go_ret2
   exact ⟨_, rfl, Kd.R_nil _ _ _ _ _, HB1.out⟩
 ·rw [if_neg hw] at h; cases h
def nat_Trim.f (l0 : List Int) : Option (List Int) := if inW l0 ∧ l0.length ≤ 100000 then some (can (valB W64 l0)) else none
set_option maxHeartbeats 1000000 in
theorem nat_Trim.calls (A0 : Option Addr) (c0 : Nat) (l0 : List Int) (r : List Int) (w : World) (hr0 : Kd.C (Kd.int .u64) w A0 l0.length l0) (hc0 : l0.length ≤ c0) (h : nat_Trim.f l0 = some r) :
    Calls Tryd.prog 23 #[.slice A0 l0.length c0] w fun e w' => ∃ v0_ : Value, e = .returned (v0_) ∧ Kd.R (Kd.int .u64) 36 w' w.heap.size (fun _ => True) v0_ r ∧ Below w.heap.size w w' := by
  unfold nat_Trim.f at h
  by_cases hw : inW l0 ∧ l0.length ≤ 100000
  · rw [if_pos hw] at h
    cases h
    obtain ⟨hw0, hm0⟩ := hw
    have HT0 := Aside0.mk (trim1 A0 c0 l0 w hw0 hr0 hc0)
    have C0 := C_take hr0 _ (can_le hw0)
    rw [can_take hw0] at C0
    have l0' := can_le hw0
    have HCl := Aside0.mk (api_Nat_uint64.calls A0 c0 _ _ w C0 (by omega) (by unfold api_Nat_uint64.f; rw [if_pos (by omega)]))
    clear C0 hr0
    go_enter Tryd.func23, Tryd.ntmps23
    go_wp2_with fail
    refine HT0.out.mono ?_
    rintro e w1 ⟨rfl, rfl⟩
    go_wp2_with fail
    refine HCl.out.mono ?_
    rintro e w1 ⟨v1, rfl, hR, hb⟩
    have HR := Aside0.mk hR
    have HB := Aside0.mk hb
    clear hR hb
    go_wp2
    go_ret
    exact ⟨_, rfl, HR.out, HB.out⟩
  · rw [if_neg hw] at h; cases h
end Go.Proofs.YtkkkbalefnileaaDoor.Ex
