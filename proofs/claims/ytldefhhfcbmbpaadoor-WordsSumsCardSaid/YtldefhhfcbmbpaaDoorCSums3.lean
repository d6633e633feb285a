/- For every input that fits memory, with the table of words laid as its text says, the law WordsSums returns true and each argument reads as before: the tied card. (Part 4 of 4.) -/
import Derived.Test.YtldefhhfcbmbpaaDoorRows
import Derived.Test.YtldefhhfcbmbpaaDoorTie
import Derived.Test.YtldefhhfcbmbpaaDoorCards
import Derived.Deep.DeepHandedRow
import Derived.Lib.LaidTab
import Derived.SevenTiedAt
import Derived.LaidLaws
import Derived.WalkKit
import Derived.ProofKit
import Derived.OpenShut
import Derived.ShutString
import Derived.ChangeOld
import Derived.Below
import Derived.SizedLaws
import Derived.Test.YtldefhhfcbmbpaaDoorWSized
import Derived.Test.YtldefhhfcbmbpaaDoorCSums2
/- What every law asks beside: awake; the law's few and equal. -/
namespace Go.Proofs.YtldefhhfcbmbpaaDoor.Ex
open Go.RowKit Go.Proofs.YtldefhhfcbmbpaaDoorW.PrintWords Go.Proofs.YtldefhhfcbmbpaaDoorW.PrintLast Go.Proofs.YtldefhhfcbmbpaaDoorW.PrintMore Go.Proofs.YtldefhhfcbmbpaaDoor.T
set_option linter.unusedVariables false
set_option linter.unusedSimpArgs false

theorem isW_of_wf {x : Int} (h : (Lit.int .u64 x).wf = true) : isW x := by
  have h1 : 0 ≤ x ∧ x ≤ 18446744073709551615 := by
    simp [Lit.wf, IntKind.min, IntKind.max, IntKind.signed, IntKind.bits] at h
    omega
  unfold isW
  rw [W64_eq]
  omega
theorem inW_of_wf {l : List Int} (h : ∀ x ∈ l, (Lit.int .u64 x).wf = true) : inW l := fun x hx => isW_of_wf (h x hx)
theorem inW_take {l : List Int} (h : inW l) (n : Nat) : inW (l.take n) := fun x hx => h x (List.mem_of_mem_take hx)
theorem few_some (l : List Int) (n : Nat) (h : l.length ≤ 17592186044415) : reckonerlaw01_few.f l (n : Int) = some (l.take n) := by
  unfold reckonerlaw01_few.f
  rw [if_pos ⟨by omega, h⟩, Int.toNat_natCast]
theorem equal_some (x y : List Int) (hx : x.length ≤ 17592186044415) (hy : y.length ≤ 17592186044415) : ∃ n : Nat, reckonerlaw01_equal.f x y = some (x.take n, y.take n) ∧ n ≤ 40 ∧ n ≤ x.length ∧ n ≤ y.length := by
  have f40x := few_some x 40 hx
  have f40y := few_some y 40 hy
  have e40 : ((40 : Nat) : Int) = 40 := rfl
  rw [e40] at f40x f40y
  unfold reckonerlaw01_equal.f
  by_cases h1 : (y.length : Int) < (x.length : Int)
  · rw [if_pos h1]
    by_cases h2 : (40 : Int) < (y.length : Int)
    · rw [if_pos h2, f40x, f40y]
      exact ⟨40, rfl, by omega, by omega, by omega⟩
    · rw [if_neg h2, few_some x y.length hx, few_some y y.length hy]
      exact ⟨y.length, rfl, by omega, by omega, by omega⟩
  · rw [if_neg h1]
    by_cases h2 : (40 : Int) < (x.length : Int)
    · rw [if_pos h2, f40x, f40y]
      exact ⟨40, rfl, by omega, by omega, by omega⟩
    · rw [if_neg h2, few_some x x.length hx, few_some y x.length hy]
      exact ⟨x.length, rfl, by omega, by omega, by omega⟩

theorem aw1 : words_Add.f [18446744073709551615] [1] 0 = some ([0], 1, 0) := by kernel_rfl
theorem aw2 : words_Sub.f [0] [1] 0 = some ([18446744073709551615], 1, 0) := by kernel_rfl
theorem aw3 : words_MulWord.f [18446744073709551615] 18446744073709551615 18446744073709551615 = some ([0], 18446744073709551615, 0) := by kernel_rfl
theorem aw4 : words_DivWord.f [0] 3 1 = some ([6148914691236517205], 1, 0) := by kernel_rfl
theorem aw5 : words_Right.f [3] 1 = some ([1], 9223372036854775808, 0) := by kernel_rfl
theorem aw6 : words_Inverse.f 3 = some (12297829382473034411, 0) := by kernel_rfl
theorem aw7 : words_Reciprocal.f 9223372036854775808 = some (18446744073709551615, 0) := by kernel_rfl
theorem awake_ev : Ev (fun k => reckonerlaw01_awake.f k) true := by
  obtain ⟨k1, h1⟩ := same_true (a := [0]) (b := [0]) rfl (by decide)
  obtain ⟨k2, h2⟩ := same_true (a := [18446744073709551615]) (b := [18446744073709551615]) rfl (by decide)
  obtain ⟨k3, h3⟩ := same_true (a := [6148914691236517205]) (b := [6148914691236517205]) rfl (by decide)
  obtain ⟨k4, h4⟩ := same_true (a := [1]) (b := [1]) rfl (by decide)
  refine ⟨max (max k1 k2) (max k3 k4), fun k hk => ?_⟩
  have e1 : reckonerlaw01_same.f k [0] [0] = some true := h1 k (by omega)
  have e2 : reckonerlaw01_same.f k [18446744073709551615] [18446744073709551615] = some true := h2 k (by omega)
  have e3 : reckonerlaw01_same.f k [6148914691236517205] [6148914691236517205] = some true := h3 k (by omega)
  have e4 : reckonerlaw01_same.f k [1] [1] = some true := h4 k (by omega)
  show reckonerlaw01_awake.f k = some true
  unfold reckonerlaw01_awake.f
  simp only [aw1, aw2, aw3, aw4, aw5, aw6, aw7, Option.bind_some, e1, e2, e3, e4, if_true]
  rfl
end Go.Proofs.YtldefhhfcbmbpaaDoor.Ex
/- WordsSums: the plain law. -/
namespace Go.Proofs.YtldefhhfcbmbpaaDoor.Ex
open Go.RowKit Go.Proofs.YtldefhhfcbmbpaaDoorW.PrintWords Go.Proofs.YtldefhhfcbmbpaaDoorW.PrintLast Go.Proofs.YtldefhhfcbmbpaaDoorW.PrintMore Go.Proofs.YtldefhhfcbmbpaaDoor.T
set_option linter.unusedVariables false
set_option linter.unusedSimpArgs false

theorem chk_lens (a b : List Int) (ha : a.length ≤ 4096) (hb : b.length ≤ 4096) : chk [a, b] = if b.length = a.length then 0 else 1 := by
  unfold chk
  rw [if_pos (by simp [ha, hb])]
  by_cases h : b.length = a.length
  · rw [if_pos h, if_pos (by simp [h])]
  · rw [if_neg h, if_neg (by simpa using h)]
theorem Sums_next (x0 x1 a b : List Int) (c : Int) (r : Nat) (hx0 : x0.length ≤ 17592186044415) (hx1 : x1.length ≤ 17592186044415) (h0 : inW x0) (h1 : inW x1) (ha : inW a) (hb : inW b) (hla : a.length ≤ 40) (hlb : b.length ≤ 40) (hc : isW c)
    (ih : ∀ (a b : List Int) (c : Int), inW a → inW b → a.length ≤ 40 → b.length ≤ 40 → isW c → Ev (fun k => reckonerlaw01_WordsSums.l0 k x0 x1 c a b ((r + 1 : Nat) : Int)) true) (hr : r < 3) :
    Ev (fun k => if (r : Int) = 0 then ((reckonerlaw01_equal.f x0 x1).bind fun bt => (reckonerlaw01_WordsSums.l0 k x0 x1 (Int.tmod c 2) bt.1 bt.2 (wrap64 ((r : Int) + 1)))) else (reckonerlaw01_WordsSums.l0 k x0 x1 (Int.tmod c 2) a b (wrap64 ((r : Int) + 1)))) true := by
  have e1 : wrap64 ((r : Int) + 1) = ((r + 1 : Nat) : Int) := by rw [← w64_nat (r + 1) (by omega)]; rfl
  have e2 : Int.tmod c 2 = c % 2 := Int.tmod_eq_emod_of_nonneg hc.1
  have hc2 : isW (c % 2) := by unfold isW; rw [W64_eq]; omega
  rw [e1, e2]
  by_cases hz : (r : Int) = 0
  · simp only [if_pos hz]
    obtain ⟨n, he, hn, _, _⟩ := equal_some x0 x1 hx0 hx1
    simp only [he, Option.bind_some]
    exact ih _ _ _ (inW_take h0 n) (inW_take h1 n) (by rw [List.length_take]; omega) (by rw [List.length_take]; omega) hc2
  · simp only [if_neg hz]
    exact ih a b _ ha hb hla hlb hc2
theorem Sums_loop (x0 x1 : List Int) (hx0 : x0.length ≤ 17592186044415) (hx1 : x1.length ≤ 17592186044415) (h0 : inW x0) (h1 : inW x1) : ∀ (m r : Nat), r + m = 3 → ∀ (a b : List Int) (c : Int), inW a → inW b → a.length ≤ 40 → b.length ≤ 40 → isW c →
    Ev (fun k => reckonerlaw01_WordsSums.l0 k x0 x1 c a b (r : Int)) true
  | 0, r, hr, a, b, c, ha, hb, hla, hlb, hc => by
    have hr3 : ¬ (r : Int) < 3 := by omega
    refine Ev.step (f := fun k => (reckonerlaw01_awake.f k).bind fun t => some t) (fun k => ?_) (Ev.bind awake_ev (Ev.now true))
    show reckonerlaw01_WordsSums.l0 (k + 1) x0 x1 c a b (r : Int) = _
    rw [reckonerlaw01_WordsSums.l0, if_neg hr3]
  | m + 1, r, hr, a, b, c, ha, hb, hla, hlb, hc => by
    have hr3 : (r : Int) < 3 := by omega
    have nx := Sums_next x0 x1 a b c r hx0 hx1 h0 h1 ha hb hla hlb hc (fun a b c => Sums_loop x0 x1 hx0 hx1 h0 h1 m (r + 1) (by omega) a b c) (by omega)
    have hk := chk_lens a b (by omega) (by omega)
    by_cases hl : b.length = a.length
    · rw [if_pos hl] at hk
      have hli : (a.length : Int) = (b.length : Int) := by omega
      by_cases hcc : 1 < c
      · have fa : words_Add.f a b c = some ([], 0, 1) := by unfold words_Add.f; rw [if_pos ⟨ha, hb, hc⟩, if_pos hk, if_pos hcc]
        have fs : words_Sub.f a b c = some ([], 0, 1) := by unfold words_Sub.f; rw [if_pos ⟨ha, hb, hc⟩, if_pos hk, if_pos hcc]
        have hd : decide (c > 1) = true := decide_eq_true hcc
        refine Ev.step (f := fun k => reckonerlaw01_WordsSums.j1 k x0 x1 c a b (r : Int) [] 0 1 [] 0 1 true) (fun k => ?_) (Ev.step (f := fun k => reckonerlaw01_WordsSums.j2 k x0 x1 c a b (r : Int) false) (fun k => ?_) (Ev.step (fun k => ?_) nx))
        · show reckonerlaw01_WordsSums.l0 (k + 1) x0 x1 c a b (r : Int) = _
          rw [reckonerlaw01_WordsSums.l0, if_pos hr3, fa, fs, Option.bind_some, Option.bind_some, if_pos hli, hd]
        · show reckonerlaw01_WordsSums.j1 (k + 1) x0 x1 c a b (r : Int) [] 0 1 [] 0 1 true = _
          rw [reckonerlaw01_WordsSums.j1, if_pos rfl, if_pos rfl, if_pos rfl, if_pos (by kernel_rfl), if_pos rfl]
          rfl
        · rfl
      · have fa : words_Add.f a b c = some ((carryL (fun i c => addS (a.getD i 0) (b.getD i 0) c) a.length 0 c).1, (carryL (fun i c => addS (a.getD i 0) (b.getD i 0) c) a.length 0 c).2, 0) := by unfold words_Add.f; rw [if_pos ⟨ha, hb, hc⟩, if_pos hk, if_neg hcc]
        have fs : words_Sub.f a b c = some ((carryL (fun i c => subS (a.getD i 0) (b.getD i 0) c) a.length 0 c).1, (carryL (fun i c => subS (a.getD i 0) (b.getD i 0) c) a.length 0 c).2, 0) := by unfold words_Sub.f; rw [if_pos ⟨ha, hb, hc⟩, if_pos hk, if_neg hcc]
        have hd : decide (c > 1) = false := decide_eq_false hcc
        have h01 : 0 ≤ c ∧ c ≤ 1 := ⟨hc.1, by omega⟩
        have ra := Add_ev a b c ha hb hl h01 (by omega)
        have rs := Sub_ev a b c ha hb hl h01 (by omega)
        have la := carryL_length (fun i c => addS (a.getD i 0) (b.getD i 0) c) a.length 0 c
        have ls := carryL_length (fun i c => subS (a.getD i 0) (b.getD i 0) c) a.length 0 c
        obtain ⟨z, u, hzu⟩ : ∃ z u, carryL (fun i c => addS (a.getD i 0) (b.getD i 0) c) a.length 0 c = (z, u) := ⟨_, _, rfl⟩
        obtain ⟨y, v, hyv⟩ : ∃ y v, carryL (fun i c => subS (a.getD i 0) (b.getD i 0) c) a.length 0 c = (y, v) := ⟨_, _, rfl⟩
        rw [hzu] at ra la fa
        rw [hyv] at rs ls fs
        simp only at fa fs la ls
        have sa := same_true (a := z) (b := z) rfl (by omega)
        have ss := same_true (a := y) (b := y) rfl (by omega)
        have j3 : Ev (fun k => reckonerlaw01_WordsSums.j3 k x0 x1 c a b (r : Int) false) true := Ev.step (fun k => rfl) nx
        refine Ev.step (f := fun k => reckonerlaw01_WordsSums.j1 k x0 x1 c a b (r : Int) z u 0 y v 0 false) (fun k => ?_) ?_
        · show reckonerlaw01_WordsSums.l0 (k + 1) x0 x1 c a b (r : Int) = _
          rw [reckonerlaw01_WordsSums.l0, if_pos hr3, fa, fs, Option.bind_some, Option.bind_some, if_pos hli, hd]
        · refine Ev.step (f := fun k => (reckonerref01_Add.f k a b c).bind fun p => (reckonerref01_Sub.f k a b c).bind fun q => (reckonerlaw01_same.f k z p.1).bind fun t => if t = true then (if u = p.2 then ((reckonerlaw01_same.f k y q.1).bind fun t' => (if t' = true then (reckonerlaw01_WordsSums.j3 k x0 x1 c a b (r : Int) (v != q.2)) else (reckonerlaw01_WordsSums.j3 k x0 x1 c a b (r : Int) true))) else (reckonerlaw01_WordsSums.j3 k x0 x1 c a b (r : Int) true)) else (reckonerlaw01_WordsSums.j3 k x0 x1 c a b (r : Int) true)) (fun k => rfl) ?_
          refine Ev.bind ra (Ev.bind rs (Ev.bind sa ?_))
          simp only [if_true]
          refine Ev.bind ss ?_
          simp only [if_true, bne_self_eq_false]
          exact j3
    · rw [if_neg hl] at hk
      have hk0 : ¬ chk [a, b] = 0 := by rw [hk]; decide
      have hli : ¬ (a.length : Int) = (b.length : Int) := by omega
      have fa : words_Add.f a b c = some ([], 0, 1) := by unfold words_Add.f; rw [if_pos ⟨ha, hb, hc⟩, if_neg hk0, hk]
      have fs : words_Sub.f a b c = some ([], 0, 1) := by unfold words_Sub.f; rw [if_pos ⟨ha, hb, hc⟩, if_neg hk0, hk]
      refine Ev.step (f := fun k => reckonerlaw01_WordsSums.j1 k x0 x1 c a b (r : Int) [] 0 1 [] 0 1 true) (fun k => ?_) (Ev.step (f := fun k => reckonerlaw01_WordsSums.j2 k x0 x1 c a b (r : Int) false) (fun k => ?_) (Ev.step (fun k => ?_) nx))
      · show reckonerlaw01_WordsSums.l0 (k + 1) x0 x1 c a b (r : Int) = _
        rw [reckonerlaw01_WordsSums.l0, if_pos hr3, fa, fs, Option.bind_some, Option.bind_some, if_neg hli]
      · show reckonerlaw01_WordsSums.j1 (k + 1) x0 x1 c a b (r : Int) [] 0 1 [] 0 1 true = _
        rw [reckonerlaw01_WordsSums.j1, if_pos rfl, if_pos rfl, if_pos rfl, if_pos (by kernel_rfl), if_pos rfl]
        rfl
      · rfl
theorem pureSums : reckonerlaw01_WordsSums.Pure := by
  intro l0 l1 a2 _ h0 hw0 _ h1 hw1 hw2
  have i0 := inW_of_wf hw0
  have i1 := inW_of_wf hw1
  have f0 := few_some l0 40 (by omega)
  have f1 := few_some l1 40 (by omega)
  have h := Sums_loop l0 l1 (by omega) (by omega) i0 i1 3 0 (by omega) (l0.take 40) (l1.take 40) a2 (inW_take i0 40) (inW_take i1 40) (by rw [List.length_take]; omega) (by rw [List.length_take]; omega) (isW_of_wf hw2)
  obtain ⟨k, hk⟩ := h.rounds
  refine ⟨k, ?_⟩
  unfold reckonerlaw01_WordsSums.f
  have e40 : ((40 : Nat) : Int) = 40 := rfl
  rw [e40] at f0 f1
  rw [f0, f1]
  exact hk
end Go.Proofs.YtldefhhfcbmbpaaDoor.Ex
-- PRINTED by print.py: the row of the law reckonerlaw01_WordsSums, out of its Pure (the session's) and the printed walk. Not trusted: Lean checks it.
namespace Go.Proofs.YtldefhhfcbmbpaaDoor.wordsSums
open Go.Proofs.YtldefhhfcbmbpaaDoor.Ex
open Go.ChangeShapes Go.WideShapes Go.ChangeAt Go.RowKit
open Go.ChangeMaps (open_string shut_string)
set_option linter.unusedVariables false
theorem own : ownKnob Tryd.prog.godebug = none := by kernel_rfl
theorem laidOut : laidOutB Tryd.prog = true := by kernel_rfl
def IsRow (k : IntKind) (w : World) (a : Option Addr) (len cap : Nat) (zs : List Int) : Prop :=
  (a = none ∧ len = 0 ∧ cap = 0 ∧ zs = []) ∨
  ∃ x, a = some x ∧ len ≤ cap ∧ cap ≤ maxLen ∧ zs.length = cap ∧ (∀ i, i < zs.length → w.cell? (x.add i) = some (.int k (zs.getD i 0))) ∧ ∀ n ∈ zs, (Lit.int k n).wf = true
theorem gT : Tryd.prog.globalNamed "reckoner/words.small" = some 0 := by kernel_rfl
theorem gTType : (Tryd.prog.globals[0]?).map (·.type) = some 82 := by kernel_rfl
theorem gCellsE : Tryd.prog.cellsOf 23 = 1 := by kernel_rfl
theorem gCells : Tryd.prog.cellsOf 82 = 16 := by kernel_rfl
/-- A world in which the table lies as its initialiser lays it. -/
noncomputable def laidWorld (os : Os) : World :=
  { World.holding Tryd.prog os ⟨#[], #[], []⟩ with heap := (World.holding Tryd.prog os ⟨#[], #[], []⟩).heap.modify 0 fun
      | .cells _ t frozen => .cells (smalls.map fun z => Value.int .u64 z).toArray t frozen
      | o => o }
theorem laid_met (os : Os) (args : Array Value) : laidMet Tryd.prog Rows.wordsSumsRow.laid ((laidWorld os).forCall (fun _ _ => 0) ⟨#[], args, []⟩).memory :=
  laidMet_of_run' 8 (by kernel_rfl) (by kernel_rfl)
theorem witness_row (os : Os) {H : Type} (enc : TypeId × Value → H) :
    (OpenSpec.ofChange Rows.wordsSumsSpec).preRow enc Tryd.prog Tryd.f3 Rows.wordsSumsRow.domain false Rows.wordsSumsRow.laid ((laidWorld os).forCall (fun _ _ => 0) ⟨#[], #[.slice none 0 0, .slice none 0 0, .int .u64 0], []⟩).memory #[.slice none 0 0, .slice none 0 0, .int .u64 0] := by
  have hw : (DataW.whole enc Tryd.prog ((laidWorld os).forCall (fun _ _ => 0) ⟨#[], #[.slice none 0 0, .slice none 0 0, .int .u64 0], []⟩).memory Tryd.f3.params.toList (OpenSpec.ofChange Rows.wordsSumsSpec).vars false (#[.slice none 0 0, .slice none 0 0, .int .u64 0] : Array Value).toList 8).map (fun x => (x.1, x.2.1)) =
      some ([.nil, .nil, .lit (.int .u64 0)], []) := by kernel_rfl
  obtain ⟨⟨x1, x2, x3⟩, hx, hx1⟩ := Option.map_eq_some_iff.1 hw
  simp only [Prod.mk.injEq] at hx1
  obtain ⟨rfl, rfl⟩ := hx1
  exact OpenSpec.preRow_of_cond 8 hx (by kernel_rfl) (fun k hk => by cases hk) (by kernel_rfl) (laid_met os _)
set_option maxRecDepth 100000 in
theorem lifted (os : Os) (started : os.Started) (H : Type) (enc : TypeId × Value → H) (F : Stop.Interp) :
    ReturnsInHanded {} Tryd.checked os 3 .any ((OpenSpec.ofChange Rows.wordsSumsSpec).preRow enc Tryd.prog Tryd.f3 Rows.wordsSumsRow.domain false Rows.wordsSumsRow.laid) (((OpenSpec.ofChange Rows.wordsSumsSpec).at F).post enc Tryd.prog Tryd.f3 false true false false) := by
  refine returnsInHanded_of_row (C := Tryd.checked) (s := OpenSpec.ofChange Rows.wordsSumsSpec) own started (by kernel_rfl) Tryd.func3
    (witness_row_at (enc := enc) (C := Tryd.checked) false (laidWorld os) #[.slice none 0 0, .slice none 0 0, .int .u64 0] rfl (by kernel_rfl) (by kernel_rfl) (by kernel_rfl) (witness_row os enc)) ?_
  intro W base args ds gs before hval0 hW hcnd _ hsz0 hL _ _
  have htab : Lib.TabIs Tryd.prog W "reckoner/words.small" .u64 smalls := Lib.tabIs_of_head gT gTType Tryd.underlying82 Tryd.underlying23 gCellsE gCells hL
  have hg : Laid W := fun i hi => htab.cell gT i hi
  have hsz : (DataW.weightsEach Tryd.prog (Tryd.f3.params.toList ++ (OpenSpec.ofChange Rows.wordsSumsSpec).bare.plain.varTypes Tryd.prog) (ds ++ gs)).all (· ≤ reachBytes) = true := hsz0
  have hval : ∀ (j : Nat) t v, Tryd.f3.params[j]? = some t → args[j]? = some v → Value.okWide Tryd.prog W .any base t v := hval0
  have hW' := hW
  obtain ⟨p, q, hA0, hV, rfl, hfz, hnd⟩ := hW
  have hA : DataW.TrodAll enc Tryd.prog W 0 (fun _ => true) true Tryd.f3.params.toList args.toList ds p := hA0
  rw [Tryd.params3] at hA hval hsz
  obtain ⟨v0, vs0, d0, ds0, p0, q0, hargs, rfl, rfl, h0, r0⟩ := trodAll_cons hA
  obtain ⟨v1, vs1, d1, ds1, p1, q1, rfl, rfl, rfl, h1, r1⟩ := trodAll_cons r0
  obtain ⟨v2, vs2, d2, ds2, p2, q2, rfl, rfl, rfl, h2, r2⟩ := trodAll_cons r1
  obtain ⟨rfl, rfl, rfl⟩ := trodAll_nil r2
  obtain rfl : args = #[v0, v1, v2] := by cases args; simp_all
  obtain ⟨rfl, rfl⟩ := trodVars_none hV
  obtain ⟨a0, len0, cap0, rfl⟩ := okWide_slice Tryd.underlying22 (hval 0 22 v0 rfl rfl)
  have k0 := h0
  have lt0 : ∀ x ∈ p0, x.block < W.heap.size := by obtain ⟨m, hm⟩ := k0; exact DataW.trod_lt m _ _ _ hm
  obtain ⟨z0, w0⟩ : ∃ zs, IsRow .u64 W a0 len0 cap0 zs := by
    obtain ⟨fuel, hf⟩ := h0
    rcases open_ints Tryd.underlying22 Tryd.underlying23 (by kernel_rfl) hf with ⟨hcs, _⟩ | ⟨x, l, c, zs, hcs, _, hl, hm, hz, _, hcell, hwz⟩
    · simp [Value.cells] at hcs
      obtain ⟨rfl, rfl, rfl⟩ := hcs
      exact ⟨[], .inl ⟨rfl, rfl, rfl, rfl⟩⟩
    · simp [Value.cells] at hcs
      obtain ⟨rfl, rfl, rfl⟩ := hcs
      exact ⟨zs, .inr ⟨_, rfl, hl, hm, by simpa using hz, hcell, hwz⟩⟩
  have y0 : len0 * 8 ≤ 140737488351232 := Go.Proofs.YtldefhhfcbmbpaaDoorW.PrintWords.sized_ints hsz (j := 0) (t := 22) rfl rfl Tryd.underlying22 Tryd.underlying23 (by kernel_rfl) (by kernel_rfl) h0
  obtain ⟨a1, len1, cap1, rfl⟩ := okWide_slice Tryd.underlying22 (hval 1 22 v1 rfl rfl)
  have k1 := h1
  have lt1 : ∀ x ∈ p1, x.block < W.heap.size := by obtain ⟨m, hm⟩ := k1; exact DataW.trod_lt m _ _ _ hm
  obtain ⟨z1, w1⟩ : ∃ zs, IsRow .u64 W a1 len1 cap1 zs := by
    obtain ⟨fuel, hf⟩ := h1
    rcases open_ints Tryd.underlying22 Tryd.underlying23 (by kernel_rfl) hf with ⟨hcs, _⟩ | ⟨x, l, c, zs, hcs, _, hl, hm, hz, _, hcell, hwz⟩
    · simp [Value.cells] at hcs
      obtain ⟨rfl, rfl, rfl⟩ := hcs
      exact ⟨[], .inl ⟨rfl, rfl, rfl, rfl⟩⟩
    · simp [Value.cells] at hcs
      obtain ⟨rfl, rfl, rfl⟩ := hcs
      exact ⟨zs, .inr ⟨_, rfl, hl, hm, by simpa using hz, hcell, hwz⟩⟩
  have y1 : len1 * 8 ≤ 140737488351232 := Go.Proofs.YtldefhhfcbmbpaaDoorW.PrintWords.sized_ints hsz (j := 1) (t := 22) rfl rfl Tryd.underlying22 Tryd.underlying23 (by kernel_rfl) (by kernel_rfl) h1
  obtain ⟨a2, rfl, rfl, rfl, w2⟩ := open_int Tryd.underlying23 (hval 2 23 v2 rfl rfl) h2
  clear hA0 hval0 hsz0 hsz
  refine (T.reckonerlaw01_WordsSums.walk pureSums a0 len0 cap0 z0 a1 len1 cap1 z1 a2 W w0 y0 w1 y1 w2 hg).mono fun e W' ⟨he, bel⟩ => ?_
  subst he
  exact ⟨_, rfl, _, _, _, [], _, [], hW', trodAll_mk1 (shut_bool Tryd.underlying4 _), (trodAll_cons_mk (Below.trod laidOut (by kernel_rfl) (of_decide_eq_true (by kernel_rfl)) k0 bel lt0) (trodAll_cons_mk (Below.trod laidOut (by kernel_rfl) (of_decide_eq_true (by kernel_rfl)) k1 bel lt1) (trodAll_cons_mk (shut_int Tryd.underlying23 w2) trodAll_mk0))), rfl, bel.frame _, fun h => by cases h⟩
theorem over : Rows.wordsSumsRow.holds Tryd.pinned (OpenSpec.ofChange Rows.wordsSumsSpec) :=
  OpenClaim.holds_of_cond 3 Tryd.f3 rfl rfl rfl rfl rfl rfl rfl ⟨rfl, rfl, rfl, rfl, rfl⟩ rfl rfl rfl rfl rfl (by kernel_rfl) Tryd.func3 (by kernel_rfl)
    (of_decide_eq_true (by kernel_rfl)) (by unfold Func.isWrapper; first | (rw [if_pos (by decide +kernel)]; kernel_rfl) | (rw [if_neg (by decide +kernel)]; exact ⟨rfl, rfl⟩))
    (fun os started H enc _ F0 => by rw [OpenClaim.pre_eq_preRow]; exact lifted os started H enc F0)
theorem proved : Rows.WordsSumsSaid := over
end Go.Proofs.YtldefhhfcbmbpaaDoor.wordsSums
namespace Go.Proofs.YtldefhhfcbmbpaaDoor
/-- The row, under a short name, for the claim. -/
theorem wordsSums_holds : Rows.WordsSumsSaid := wordsSums.proved
/-- THE TIED CARD. -/
theorem wordsSumsCard_holds : Rows.WordsSumsCardSaid :=
  Claim7.holds_tied_plain_at .later [] [.data] true (true, "2504ff196f4791dceee85039294dceef7a5defc03cfdfb7972b2fd1a548768f6") false
    wordsSums_holds (fun _ h => by cases h) (by kernel_rfl) (fun _ h => by cases h) wordsSums_row_tie rfl ⟨rfl, rfl⟩ (by kernel_rfl) rfl
    (fun f fn hf hfn => by
      obtain rfl : f = 3 := Option.some.inj ((show Tryd.prog.funcNamed Rows.wordsSumsRow.func = some 3 by kernel_rfl).symm.trans hf) |>.symm
      obtain rfl : fn = Tryd.f3 := (Option.some.inj (Tryd.func3.symm.trans hfn)).symm
      exact ⟨by kernel_rfl, fun j t ht => by
        rw [Tryd.params3] at ht
        have h3 : Tryd.prog.wantsStandIn t = false := by
          rcases j with (_ | (_ | (_ | j)))
          · obtain rfl := Option.some.inj ht.symm
            kernel_rfl
          · obtain rfl := Option.some.inj ht.symm
            kernel_rfl
          · obtain rfl := Option.some.inj ht.symm
            kernel_rfl
          · simp at ht
        exact h3⟩)
    (by kernel_rfl)
end Go.Proofs.YtldefhhfcbmbpaaDoor
