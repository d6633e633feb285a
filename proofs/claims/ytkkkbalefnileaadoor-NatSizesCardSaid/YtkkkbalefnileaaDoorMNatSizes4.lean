/- NatSizes (a card): for every int and every row of words, each function of the package refuses a number of more than 4096 words before all else; those told without errors do not mind; sums and products that would be too large are refused. (Part 5 of 5.) -/
import Derived.Test.YtkkkbalefnileaaDoorRows
import Derived.LaidMore
import Derived.OpenShut
import Derived.StringKeys
import Derived.SizedLaws
import Derived.ChangeSlices
import Derived.Test.YtkkkbalefnileaaDoorTie
import Derived.Test.YtkkkbalefnileaaDoorCards
import Derived.Deep.DeepHandedRow
import Derived.Deep.DeepWitnessRowRef
import Derived.SevenTiedAt
import Derived.LaidLaws
import Derived.WalkKit
import Derived.ProofKit
import Derived.ShutString
import Derived.ChangeOld
import Derived.Below
import Derived.Test.YtkkkbalefnileaaDoorMNatSizes3
/- The walk of NatSizes. -/
namespace Go.Proofs.YtkkkbalefnileaaDoor.Ex
open Go.RowKit Go.Shelf Go.Proofs.YtkkkbalefnileaaDoorW.PrintWords Go.Proofs.YtkkkbalefnileaaDoorW.PrintLast Go.Proofs.YtkkkbalefnileaaDoorW.PrintMore Go.Proofs.YtkkkbalefnileaaDoor.T
set_option linter.unusedVariables false
set_option linter.unusedSimpArgs false

/-- A row of 4096 words, the first k of them the greatest one. -/
def fillL (k : Nat) : List Int := List.replicate k 18446744073709551615 ++ List.replicate (4096 - k) 0
theorem fillL_len (k : Nat) (h : k ≤ 4096) : (fillL k).length = 4096 := by unfold fillL; rw [List.length_append, List.length_replicate, List.length_replicate]; omega
theorem fillL_set (k : Nat) (h : k < 4096) : (fillL k).set k 18446744073709551615 = fillL (k + 1) := by
  unfold fillL
  obtain ⟨m, hm⟩ : ∃ m, 4096 - k = m + 1 := ⟨4096 - k - 1, by omega⟩
  have hm2 : 4096 - (k + 1) = m := by omega
  rw [hm, hm2, List.set_append, List.length_replicate, if_neg (by omega), Nat.sub_self, List.replicate_succ, List.set_cons_zero, List.replicate_succ' (n := k), List.append_assoc]
  rfl
theorem fillL_zero : fillL 0 = List.replicate 4096 0 := rfl
theorem sz_mostAdd (W : World) (g : Nat) (Y : List Int) (hYl : Y.length = 4096) (hg : RowB W g Y) (x : Int) (f : nat_Add.f Y [x] = some ([], 2)) :
    Calls Tryd.prog 29 #[.slice (some ⟨g, 0, none⟩) 4096 4096, .slice (some ⟨W.heap.size, 0, none⟩) 1 1] (W.alloc (.cells #[.int .u64 x] 36)) fun e w' => (∃ (A1 : Option Addr) (c1 : Nat), e = .returned (.tuple #[.slice A1 0 c1, .int .i64 2])) ∧ Below W.heap.size W w' := by
  have hB := below_alloc (Below.refl W.heap.size W) (.cells #[.int .u64 x] 36)
  have h1 : RowB (W.alloc (.cells #[.int .u64 x] 36)) W.heap.size [x] := heap_alloc_new _ _
  have HC := nat_Add.calls (some ⟨g, 0, none⟩) 4096 Y (some ⟨W.heap.size, 0, none⟩) 1 [x] [] 2 _ (R_C ((hg.alloc _).own' 0 (Nat.zero_le _) (by omega))) (by omega) (R_C (h1.own' 0 (Nat.zero_le _) (by show 1 ≤ 1000000; decide))) (Nat.le_refl 1) f
  rw [hYl] at HC
  refine HC.mono ?_
  rintro e w' ⟨v, rfl, hR, hb⟩
  obtain ⟨A1, c1, rfl⟩ := Kd.R_slice hR
  exact ⟨⟨A1, c1, rfl⟩, below_step hB hb⟩
theorem sz_mostMul (W : World) (g : Nat) (Y : List Int) (hYl : Y.length = 4096) (hg : RowB W g Y) (x : Int) (f : nat_Mul.f Y [x] = some ([], 2)) :
    Calls Tryd.prog 30 #[.slice (some ⟨g, 0, none⟩) 4096 4096, .slice (some ⟨W.heap.size, 0, none⟩) 1 1] (W.alloc (.cells #[.int .u64 x] 36)) fun e w' => (∃ (A1 : Option Addr) (c1 : Nat), e = .returned (.tuple #[.slice A1 0 c1, .int .i64 2])) ∧ Below W.heap.size W w' := by
  have hB := below_alloc (Below.refl W.heap.size W) (.cells #[.int .u64 x] 36)
  have h1 : RowB (W.alloc (.cells #[.int .u64 x] 36)) W.heap.size [x] := heap_alloc_new _ _
  have HC := nat_Mul.calls (some ⟨g, 0, none⟩) 4096 Y (some ⟨W.heap.size, 0, none⟩) 1 [x] [] 2 _ (R_C ((hg.alloc _).own' 0 (Nat.zero_le _) (by omega))) (by omega) (R_C (h1.own' 0 (Nat.zero_le _) (by show 1 ≤ 1000000; decide))) (Nat.le_refl 1) f
  rw [hYl] at HC
  refine HC.mono ?_
  rintro e w' ⟨v, rfl, hR, hb⟩
  obtain ⟨A1, c1, rfl⟩ := Kd.R_slice hR
  exact ⟨⟨A1, c1, rfl⟩, below_step hB hb⟩
theorem sz_mostNil (W : World) (g : Nat) (Y r : List Int) (hYl : Y.length = 4096) (hg : RowB W g Y) (f : nat_Add.f Y [] = some (r, 0)) :
    Calls Tryd.prog 29 #[.slice (some ⟨g, 0, none⟩) 4096 4096, .slice none 0 0] W fun e w' => (∃ (A1 : Option Addr) (c1 : Nat), e = .returned (.tuple #[.slice A1 r.length c1, .int .i64 0]) ∧ Kd.R (Kd.int .u64) 36 w' W.heap.size (fun _ => True) (.slice A1 r.length c1) r) ∧ Below W.heap.size W w' := by
  have HC := nat_Add.calls (some ⟨g, 0, none⟩) 4096 Y none 0 [] r 0 W (R_C (hg.own' 0 (Nat.zero_le _) (by omega))) (by omega) ⟨rfl, by decide, fun h => absurd h (by decide)⟩ (Nat.le_refl 0) f
  rw [hYl] at HC
  refine HC.mono ?_
  rintro e w' ⟨v, rfl, hR, hb⟩
  obtain ⟨A1, c1, rfl⟩ := Kd.R_slice hR
  exact ⟨⟨A1, c1, rfl, hR⟩, hb⟩
theorem sz_IsMost (k : Nat) (W : World) (g : Nat) (Y r : List Int) (hYl : Y.length = 4096) (hg : RowB W g Y) (A1 : Option Addr) (c1 base : Nat) (hR : Kd.R (Kd.int .u64) 36 W base (fun _ => True) (.slice A1 r.length c1) r) (f : reckonerref02_Is.f k r Y = some true) :
    Calls Tryd.prog 12 #[.slice A1 r.length c1, .slice (some ⟨g, 0, none⟩) 4096 4096] W fun e w' => e = .returned (.bool true) ∧ Below W.heap.size W w' := by
  have HC := reckonerref02_Is.calls k A1 c1 r (some ⟨g, 0, none⟩) 4096 Y true W (R_C hR) (R_cap hR) (R_C (hg.own' 0 (Nat.zero_le _) (by omega))) (by omega) f
  rw [hYl] at HC
  exact HC
theorem sz_Trim (W : World) (g n : Nat) (Lg : List Int) (hLl : Lg.length = n) (hn2 : n ≤ 5000) (hg : RowB W g Lg) (f : nat_Trim.f Lg = some []) :
    Calls Tryd.prog 23 #[.slice (some ⟨g, 0, none⟩) n n] W fun e w' => (∃ (A1 : Option Addr) (c1 : Nat), e = .returned (.slice A1 0 c1) ∧ Kd.R (Kd.int .u64) 36 w' W.heap.size (fun _ => True) (.slice A1 0 c1) []) ∧ Below W.heap.size W w' := by
  subst hLl
  refine (nat_Trim.calls _ _ Lg [] W (R_C (hg.own' 0 (Nat.zero_le _) (by omega))) (Nat.le_refl _) f).mono ?_
  rintro e w' ⟨v, rfl, hR, hb⟩
  obtain ⟨A1, c1, rfl⟩ := Kd.R_slice hR
  exact ⟨⟨A1, c1, rfl, hR⟩, hb⟩
theorem sz_IsNil (k : Nat) (W : World) (base : Nat) (A1 : Option Addr) (c1 : Nat) (hR : Kd.R (Kd.int .u64) 36 W base (fun _ => True) (.slice A1 0 c1) []) (f : reckonerref02_Is.f k [] [] = some true) :
    Calls Tryd.prog 12 #[.slice A1 0 c1, .slice none 0 0] W fun e w' => e = .returned (.bool true) ∧ Below W.heap.size W w' :=
  reckonerref02_Is.calls k A1 c1 [] none 0 [] true W (R_C hR) (Nat.zero_le _) ⟨rfl, by decide, fun h => absurd h (by decide)⟩ (Nat.le_refl 0) f
theorem sz_Len (W : World) (g n : Nat) (Lg : List Int) (hLl : Lg.length = n) (hn2 : n ≤ 5000) (hg : RowB W g Lg) (f : nat_Len.f Lg = some 0) :
    Calls Tryd.prog 26 #[.slice (some ⟨g, 0, none⟩) n n] W fun e w' => e = .returned (.int .i64 0) ∧ Below W.heap.size W w' := by
  subst hLl
  refine (nat_Len.calls _ _ Lg 0 W (R_C (hg.own' 0 (Nat.zero_le _) (by omega))) (Nat.le_refl _) f).mono ?_
  rintro e w' ⟨rfl, hd⟩
  exact ⟨rfl, hd.below⟩
theorem sz_Cmp (W : World) (g n : Nat) (Lg : List Int) (hLl : Lg.length = n) (hn2 : n ≤ 5000) (hg : RowB W g Lg) (f : nat_Cmp.f Lg [] = some 0) :
    Calls Tryd.prog 24 #[.slice (some ⟨g, 0, none⟩) n n, .slice none 0 0] W fun e w' => e = .returned (.int .i64 0) ∧ Below W.heap.size W w' := by
  subst hLl
  refine (nat_Cmp.calls _ _ Lg none 0 [] 0 W (R_C (hg.own' 0 (Nat.zero_le _) (by omega))) (Nat.le_refl _) ⟨rfl, by decide, fun h => absurd h (by decide)⟩ (Nat.le_refl 0) f).mono ?_
  rintro e w' ⟨rfl, hd⟩
  exact ⟨rfl, hd.below⟩
set_option maxRecDepth 100000 in
set_option maxHeartbeats 16000000 in
theorem NatSizes1 (a0 : Int) (A1 : Option Addr) (c1 : Nat) (l1 : List Int) (w : World) (hr1 : Kd.C (Kd.int .u64) w A1 l1.length l1) (hc1 : l1.length ≤ c1) (hj : LaidJ w)
    (n : Nat) (hn1 : 4096 < n) (hn2 : n ≤ 5000) (hlen : wrap64 (4097 + wrap64 (Int.tmod (IntKind.u64.wrap a0) 3)) = (n : Int)) (a : List Int) (fF : reckonerlaw02_few.f l1 5 = some a) (hai : inW a) (hal : a.length ≤ 5)
    (Lg : List Int) (HLe : Aside0 (Lg = List.replicate n 0)) (hLl : Lg.length = n) (hLi : inW Lg) (k1 k2 k3 : Nat) (fT : nat_Trim.f Lg = some []) (fI : reckonerref02_Is.f k1 [] [] = some true) (fL : nat_Len.f Lg = some 0) (fC : nat_Cmp.f Lg [] = some 0)
    (Y r : List Int) (HYe : Aside0 (Y = fillL 4096)) (hYl : Y.length = 4096) (fA : nat_Add.f Y [1] = some ([], 2)) (fM : nat_Mul.f Y [2] = some ([], 2)) (fN : nat_Add.f Y [] = some (r, 0)) (fI2 : reckonerref02_Is.f k2 r Y = some true) (aw : reckonerlaw02_awake.f k3 = some true) :
    Calls Tryd.prog 7 #[.int .i64 a0, .slice A1 l1.length c1] w fun e w' => e = .returned (.bool true) ∧ Below w.heap.size w w' := by
  have HR1 := Aside0.mk hr1
  have HJ0 := Aside0.mk hj
  clear hr1 hj
  have hmk := print_make2 n n (Nat.le_refl n) (by omega)
  go_enter Tryd.func7, Tryd.ntmps7
  try simp only [List.append]
  go_wp2_with fail
  have hB0 := below_alloc (Below.refl w.heap.size w) (.cells (madeCells #[.int .u64 0] n) 36)
  have hG0 := RowB.made w n
  rw [← HLe.out] at hG0
  have HGn := Aside0.mk hG0
  have HBn := Aside0.mk hB0
  have HJn := Aside0.mk (HJ0.out.below hB0)
  have HRn := Aside0.mk (Kd.C_below HR1.out hB0)
  generalize w.alloc (.cells (madeCells #[.int .u64 0] n) 36) = w1 at HGn HBn HJn HRn ⊢
  have hgl : w.heap.size ≤ w.heap.size := Nat.le_refl _
  obtain ⟨g, hg⟩ : ∃ g, g = w.heap.size := ⟨_, rfl⟩
  rw [← hg] at HGn ⊢
  clear hg HR1 HJ0 hmk hB0 hG0 HLe hgl hlen
  have HG := HGn
  have HB := HBn
  have HJ := HJn
  clear HGn HBn HJn
  refine (reckonerlaw02_few.calls A1 c1 l1 5 a w1 HRn.out hc1 fF).mono ?_
  rintro e w2 ⟨v2, rfl, hR2, hb2⟩
  obtain ⟨A, c, rfl⟩ := Kd.R_slice hR2
  have HGn := Aside0.mk (HG.out.below hb2)
  have HBn := Aside0.mk (below_step HB.out hb2)
  have HJn := Aside0.mk (HJ.out.below hb2)
  have HA := Aside0.mk (Kd.R_lower hR2 (Nat.zero_le _))
  clear hR2 hb2 HG HB HJ HRn fF hc1
  have HG := HGn
  have HB := HBn
  have HJ := HJn
  clear HGn HBn HJn
  go_wp2_with fail
  refine (sz_Add _ g n Lg hLl hLi hn1 hn2 HG.out A c a hai hal (R_C HA.out) (R_cap HA.out)).mono ?_
  rintro e u0 ⟨⟨B0, d0, rfl⟩, hb⟩
  have HGn := Aside0.mk (HG.out.below hb)
  have HBn := Aside0.mk (below_step HB.out hb)
  have HJn := Aside0.mk (HJ.out.below hb)
  have HAn := Aside0.mk (Kd.R_below HA.out hb)
  clear hb HG HB HJ HA
  have HG := HGn
  have HB := HBn
  have HJ := HJn
  have HA := HAn
  clear HGn HBn HJn HAn
  go_wp2_with fail
  refine (sz_Sub _ g n Lg hLl hLi hn1 hn2 HG.out A c a hai hal (R_C HA.out) (R_cap HA.out)).mono ?_
  rintro e u1 ⟨⟨B1, d1, rfl⟩, hb⟩
  have HGn := Aside0.mk (HG.out.below hb)
  have HBn := Aside0.mk (below_step HB.out hb)
  have HJn := Aside0.mk (HJ.out.below hb)
  have HAn := Aside0.mk (Kd.R_below HA.out hb)
  clear hb HG HB HJ HA
  have HG := HGn
  have HB := HBn
  have HJ := HJn
  have HA := HAn
  clear HGn HBn HJn HAn
  go_wp2_with fail
  refine (sz_Mul _ g n Lg hLl hLi hn1 hn2 HG.out A c a hai hal (R_C HA.out) (R_cap HA.out)).mono ?_
  rintro e u2 ⟨⟨B2, d2, rfl⟩, hb⟩
  have HGn := Aside0.mk (HG.out.below hb)
  have HBn := Aside0.mk (below_step HB.out hb)
  have HJn := Aside0.mk (HJ.out.below hb)
  have HAn := Aside0.mk (Kd.R_below HA.out hb)
  clear hb HG HB HJ HA
  have HG := HGn
  have HB := HBn
  have HJ := HJn
  have HA := HAn
  clear HGn HBn HJn HAn
  go_wp2_with fail
  refine (sz_Square _ g n Lg hLl hLi hn1 hn2 HG.out).mono ?_
  rintro e u3 ⟨⟨B3, d3, rfl⟩, hb⟩
  have HGn := Aside0.mk (HG.out.below hb)
  have HBn := Aside0.mk (below_step HB.out hb)
  have HJn := Aside0.mk (HJ.out.below hb)
  have HAn := Aside0.mk (Kd.R_below HA.out hb)
  clear hb HG HB HJ HA
  have HG := HGn
  have HB := HBn
  have HJ := HJn
  have HA := HAn
  clear HGn HBn HJn HAn
  go_wp2_with fail
  refine (sz_DivMod _ g n Lg hLl hLi hn1 hn2 HG.out A c a hai hal (R_C HA.out) (R_cap HA.out)).mono ?_
  rintro e u4 ⟨⟨B4, d4, B4_, d4_, rfl⟩, hb⟩
  have HGn := Aside0.mk (HG.out.below hb)
  have HBn := Aside0.mk (below_step HB.out hb)
  have HJn := Aside0.mk (HJ.out.below hb)
  have HAn := Aside0.mk (Kd.R_below HA.out hb)
  clear hb HG HB HJ HA
  have HG := HGn
  have HB := HBn
  have HJ := HJn
  have HA := HAn
  clear HGn HBn HJn HAn
  go_wp2_with fail
  refine (sz_DivWord _ g n Lg hLl hLi hn1 hn2 HG.out).mono ?_
  rintro e u5 ⟨⟨B5, d5, rfl⟩, hb⟩
  have HGn := Aside0.mk (HG.out.below hb)
  have HBn := Aside0.mk (below_step HB.out hb)
  have HJn := Aside0.mk (HJ.out.below hb)
  have HAn := Aside0.mk (Kd.R_below HA.out hb)
  clear hb HG HB HJ HA
  have HG := HGn
  have HB := HBn
  have HJ := HJn
  have HA := HAn
  clear HGn HBn HJn HAn
  go_wp2_with fail
  refine (sz_Pow _ g n Lg hLl hLi hn1 hn2 HG.out).mono ?_
  rintro e u6 ⟨⟨B6, d6, rfl⟩, hb⟩
  have HGn := Aside0.mk (HG.out.below hb)
  have HBn := Aside0.mk (below_step HB.out hb)
  have HJn := Aside0.mk (HJ.out.below hb)
  have HAn := Aside0.mk (Kd.R_below HA.out hb)
  clear hb HG HB HJ HA
  have HG := HGn
  have HB := HBn
  have HJ := HJn
  have HA := HAn
  clear HGn HBn HJn HAn
  go_wp2_with fail
  refine (sz_Left _ g n Lg hLl hLi hn1 hn2 HG.out).mono ?_
  rintro e u7 ⟨⟨B7, d7, rfl⟩, hb⟩
  have HGn := Aside0.mk (HG.out.below hb)
  have HBn := Aside0.mk (below_step HB.out hb)
  have HJn := Aside0.mk (HJ.out.below hb)
  have HAn := Aside0.mk (Kd.R_below HA.out hb)
  clear hb HG HB HJ HA
  have HG := HGn
  have HB := HBn
  have HJ := HJn
  have HA := HAn
  clear HGn HBn HJn HAn
  go_wp2_with fail
  refine (sz_Right _ g n Lg hLl hLi hn1 hn2 HG.out).mono ?_
  rintro e u8 ⟨⟨B8, d8, rfl⟩, hb⟩
  have HGn := Aside0.mk (HG.out.below hb)
  have HBn := Aside0.mk (below_step HB.out hb)
  have HJn := Aside0.mk (HJ.out.below hb)
  have HAn := Aside0.mk (Kd.R_below HA.out hb)
  clear hb HG HB HJ HA
  have HG := HGn
  have HB := HBn
  have HJ := HJn
  have HA := HAn
  clear HGn HBn HJn HAn
  go_wp2_with fail
  refine (sz_Low _ g n Lg hLl hLi hn1 hn2 HG.out).mono ?_
  rintro e u9 ⟨⟨B9, d9, rfl⟩, hb⟩
  have HGn := Aside0.mk (HG.out.below hb)
  have HBn := Aside0.mk (below_step HB.out hb)
  have HJn := Aside0.mk (HJ.out.below hb)
  have HAn := Aside0.mk (Kd.R_below HA.out hb)
  clear hb HG HB HJ HA
  have HG := HGn
  have HB := HBn
  have HJ := HJn
  have HA := HAn
  clear HGn HBn HJn HAn
  go_wp2_with fail
  refine (sz_SetBit _ g n Lg hLl hLi hn1 hn2 HG.out).mono ?_
  rintro e u10 ⟨⟨B10, d10, rfl⟩, hb⟩
  have HGn := Aside0.mk (HG.out.below hb)
  have HBn := Aside0.mk (below_step HB.out hb)
  have HJn := Aside0.mk (HJ.out.below hb)
  have HAn := Aside0.mk (Kd.R_below HA.out hb)
  clear hb HG HB HJ HA
  have HG := HGn
  have HB := HBn
  have HJ := HJn
  have HA := HAn
  clear HGn HBn HJn HAn
  go_wp2_with fail
  refine (sz_And _ g n Lg hLl hLi hn1 hn2 HG.out A c a hai hal (R_C HA.out) (R_cap HA.out) HJ.out).mono ?_
  rintro e u11 ⟨⟨B11, d11, rfl⟩, hb⟩
  have HGn := Aside0.mk (HG.out.below hb)
  have HBn := Aside0.mk (below_step HB.out hb)
  have HJn := Aside0.mk (HJ.out.below hb)
  have HAn := Aside0.mk (Kd.R_below HA.out hb)
  clear hb HG HB HJ HA
  have HG := HGn
  have HB := HBn
  have HJ := HJn
  have HA := HAn
  clear HGn HBn HJn HAn
  go_wp2_with fail
  refine (sz_Or _ g n Lg hLl hLi hn1 hn2 HG.out A c a hai hal (R_C HA.out) (R_cap HA.out) HJ.out).mono ?_
  rintro e u12 ⟨⟨B12, d12, rfl⟩, hb⟩
  have HGn := Aside0.mk (HG.out.below hb)
  have HBn := Aside0.mk (below_step HB.out hb)
  have HJn := Aside0.mk (HJ.out.below hb)
  have HAn := Aside0.mk (Kd.R_below HA.out hb)
  clear hb HG HB HJ HA
  have HG := HGn
  have HB := HBn
  have HJ := HJn
  have HA := HAn
  clear HGn HBn HJn HAn
  go_wp2_with fail
  refine (sz_Xor _ g n Lg hLl hLi hn1 hn2 HG.out A c a hai hal (R_C HA.out) (R_cap HA.out) HJ.out).mono ?_
  rintro e u13 ⟨⟨B13, d13, rfl⟩, hb⟩
  have HGn := Aside0.mk (HG.out.below hb)
  have HBn := Aside0.mk (below_step HB.out hb)
  have HJn := Aside0.mk (HJ.out.below hb)
  have HAn := Aside0.mk (Kd.R_below HA.out hb)
  clear hb HG HB HJ HA
  have HG := HGn
  have HB := HBn
  have HJ := HJn
  have HA := HAn
  clear HGn HBn HJn HAn
  go_wp2_with fail
  refine (sz_Sum _ g n Lg hLl hLi hn1 hn2 HG.out A c a hai hal (R_C HA.out) (R_cap HA.out)).mono ?_
  rintro e u14 ⟨⟨B14, d14, rfl⟩, hb⟩
  have HGn := Aside0.mk (HG.out.below hb)
  have HBn := Aside0.mk (below_step HB.out hb)
  have HJn := Aside0.mk (HJ.out.below hb)
  have HAn := Aside0.mk (Kd.R_below HA.out hb)
  clear hb HG HB HJ HA
  have HG := HGn
  have HB := HBn
  have HJ := HJn
  have HA := HAn
  clear HGn HBn HJn HAn
  go_wp2_with fail
  refine (sz_Product _ g n Lg hLl hLi hn1 hn2 HG.out A c a hai hal (R_C HA.out) (R_cap HA.out)).mono ?_
  rintro e u15 ⟨⟨B15, d15, rfl⟩, hb⟩
  have HGn := Aside0.mk (HG.out.below hb)
  have HBn := Aside0.mk (below_step HB.out hb)
  have HJn := Aside0.mk (HJ.out.below hb)
  have HAn := Aside0.mk (Kd.R_below HA.out hb)
  clear hb HG HB HJ HA
  have HG := HGn
  have HB := HBn
  have HJ := HJn
  have HA := HAn
  clear HGn HBn HJn HAn
  clear HA HJ
  go_wp2_with fail
  refine (sz_Trim _ g n Lg hLl hn2 HG.out fT).mono ?_
  rintro e x1 ⟨⟨B20, d20, rfl, hR⟩, hb⟩
  have HR := Aside0.mk hR
  have HGn := Aside0.mk (HG.out.below hb)
  have HBn := Aside0.mk (below_step HB.out hb)
  clear hb HG HB hR
  have HG := HGn
  have HB := HBn
  clear HGn HBn
  go_wp2_with fail
  refine (sz_IsNil k1 _ _ B20 d20 HR.out fI).mono ?_
  rintro e x2 ⟨rfl, hb⟩
  have HGn := Aside0.mk (HG.out.below hb)
  have HBn := Aside0.mk (below_step HB.out hb)
  clear hb HG HB HR
  have HG := HGn
  have HB := HBn
  clear HGn HBn
  go_wp2_with fail
  refine (sz_Len _ g n Lg hLl hn2 HG.out fL).mono ?_
  rintro e x3 ⟨rfl, hb⟩
  have HGn := Aside0.mk (HG.out.below hb)
  have HBn := Aside0.mk (below_step HB.out hb)
  clear hb HG HB
  have HG := HGn
  have HB := HBn
  clear HGn HBn
  go_wp2_with fail
  refine (sz_Cmp _ g n Lg hLl hn2 HG.out fC).mono ?_
  rintro e x4 ⟨rfl, hb⟩
  have HBn := Aside0.mk (below_step HB.out hb)
  clear hb HG HB
  have HB := HBn
  clear HBn
  go_wp2
  generalize hx : x4 = x5 at HB ⊢
  clear hx
  have hm4 := print_make2 4096 4096 (Nat.le_refl _) (by decide) x5
  have HZ := Aside0.mk (RowB.made x5 4096)
  rw [← fillL_zero] at HZ
  have HB6 := Aside0.mk (below_alloc HB.out (.cells (madeCells #[.int .u64 0] 4096) 36))
  have hgm := below_size HB.out
  generalize x5.alloc (.cells (madeCells #[.int .u64 0] 4096) 36) = x6 at HZ HB6 hm4 ⊢
  generalize x5.heap.size = gm at HZ hm4 hgm ⊢
  rw [show (Instr.makeSlice 23 (.int .i64 4096) (.int .i64 4096)).run Tryd.prog x5 = _ from hm4]
  clear hm4 HB
  go_wp2
  go_loopw [43] (fun i wr => ∃ k : Nat, k ≤ 4096 ∧ i = .int .i64 k ∧ Aside0 (RowB wr gm (fillL k)) ∧ Aside0 (Below w.heap.size w wr)) (fun i _ => 4096 - (intOf i).toNat)
  case atStart => exact ⟨0, Nat.zero_le _, rfl, HZ, HB6⟩
  case round =>
    clear HZ HB6
    obtain ⟨k, hk, rfl, HZ, HB⟩ := hrel
    by_cases hlt : k < 4096
    · have hlti : (k : Int) < 4096 := by omega
      have hlb : decide ((k : Int) < 4096) = true := decide_eq_true hlti
      have hl := fillL_len k hk
      have y1 := HZ.out.cell k (by omega)
      have y2 := HZ.out.frozen k
      generalize (fillL k).getD k 0 = z at y1
      have HZ2 := HZ.out.set k 18446744073709551615
      rw [fillL_set k hlt] at HZ2
      have HZn := Aside0.mk HZ2
      have HBn := Aside0.mk (HB.out.setCell (p := ⟨gm, k, none⟩) hgm (.int .u64 18446744073709551615))
      clear HZ2 HB hl HZ
      go_wp2
      go_roundw
      case rel => exact ⟨k + 1, by omega, by go_num, HZn, HBn⟩
      case measure => simp [intOf]; omega
    · obtain rfl : k = 4096 := by omega
      rw [← HYe.out] at HZ
      clear hlt hk
      go_wp2_with fail
      refine (sz_mostAdd _ gm Y hYl HZ.out 1 fA).mono ?_
      rintro e z1 ⟨⟨B30, d30, rfl⟩, hb⟩
      have HZn := Aside0.mk (HZ.out.below hb)
      have HBn := Aside0.mk (below_step HB.out hb)
      clear hb HZ HB
      have HZ := HZn
      have HB := HBn
      clear HZn HBn
      go_wp2_with fail
      refine (sz_mostMul _ gm Y hYl HZ.out 2 fM).mono ?_
      rintro e z2 ⟨⟨B31, d31, rfl⟩, hb⟩
      have HZn := Aside0.mk (HZ.out.below hb)
      have HBn := Aside0.mk (below_step HB.out hb)
      clear hb HZ HB
      have HZ := HZn
      have HB := HBn
      clear HZn HBn
      go_wp2_with fail
      refine (sz_mostNil _ gm Y r hYl HZ.out fN).mono ?_
      rintro e z3 ⟨⟨B32, d32, rfl, hR⟩, hb⟩
      have HR := Aside0.mk hR
      have HZn := Aside0.mk (HZ.out.below hb)
      have HBn := Aside0.mk (below_step HB.out hb)
      clear hb HZ HB hR
      have HZ := HZn
      have HB := HBn
      clear HZn HBn
      go_wp2_with fail
      refine (sz_IsMost k2 _ gm Y r hYl HZ.out B32 d32 _ HR.out fI2).mono ?_
      rintro e z4 ⟨rfl, hb⟩
      have HBn := Aside0.mk (below_step HB.out hb)
      clear hb HZ HB HR
      have HB := HBn
      clear HBn
      go_wp2_with fail
      refine (reckonerlaw02_awake.calls k3 true _ aw).mono ?_
      rintro e z5 ⟨rfl, hb⟩
      have HBn := Aside0.mk (below_step HB.out hb)
      clear hb HB
      go_wp2
      go_ret
      exact ⟨rfl, HBn.out⟩
end Go.Proofs.YtkkkbalefnileaaDoor.Ex
/- The reference's Parse; what every law asks beside: awake. -/
namespace Go.Proofs.YtkkkbalefnileaaDoor.Ex
open Go.RowKit Go.Proofs.YtkkkbalefnileaaDoorW.PrintWords Go.Proofs.YtkkkbalefnileaaDoorW.PrintLast Go.Proofs.YtkkkbalefnileaaDoorW.PrintMore Go.Proofs.YtkkkbalefnileaaDoor.T
set_option linter.unusedVariables false
set_option linter.unusedSimpArgs false

/-- The number of the digits from place i on, behind v. -/
def pv (s : ByteArray) : Nat → Nat → Int → Int
  | _, 0, v => v
  | i, n + 1, v => pv s (i + 1) n (v * 10 + (bt s (i : Int) - 48) % 256)
theorem Parse_loop (s : ByteArray) (hs : s.size ≤ 1000) (n : Nat) : ∀ (i : Nat) (v : Int), i + n = s.size → 0 ≤ v → v < W64 ^ (i + 1) → Ev (fun k => reckonerref02_Parse.l0 k s (can v) (i : Int)) (can (pv s i n v)) := by
  induction n with
  | zero =>
    intro i v hi h0 h1
    refine Ev.now' fun k => ?_
    rw [reckonerref02_Parse.l0, if_neg (by omega)]
    rfl
  | succ n IH =>
    intro i v hi h0 h1
    have e1 : wrap64 ((i : Int) + 1) = ((i + 1 : Nat) : Int) := by rw [← w64_nat (i + 1) (by omega)]; rfl
    have hd0 : 0 ≤ (bt s (i : Int) - 48) % 256 := Int.emod_nonneg _ (by decide)
    have hd1 : (bt s (i : Int) - 48) % 256 < 256 := Int.emod_lt_of_pos _ (by decide)
    have hdw : isW ((bt s (i : Int) - 48) % 256) := by unfold isW; rw [W64_eq]; omega
    have htw : isW 10 := by decide
    have hl := can_short h0 h1
    have r1 := RWord_ev 10 htw
    have r2 := RMul_ev (can v) (can 10) (can_in h0) (can_in (by decide)) (by omega) (by decide)
    rw [can_val h0, can_val (by decide)] at r2
    have r3 := RWord_ev _ hdw
    have hp := pow_posB W64_pos (i + 1)
    have hb : v * 10 + (bt s (i : Int) - 48) % 256 < W64 ^ (i + 1 + 1) := by
      rw [Int.pow_succ _ (i + 1)]
      have h2 : W64 ^ (i + 1) * 1000 ≤ W64 ^ (i + 1) * W64 := Int.mul_le_mul_of_nonneg_left (by decide) (Int.le_of_lt hp)
      omega
    have hm0 : 0 ≤ v * 10 := by omega
    have hm1 : v * 10 < W64 ^ (i + 1 + 1) := by omega
    have hml := can_short hm0 hm1
    have hwl : (can ((bt s (i : Int) - 48) % 256)).length ≤ 1 := can_short hd0 (by rw [Int.pow_succ, Int.pow_zero, Int.one_mul]; exact hdw.2)
    have r4 := RAdd_ev (can (v * 10)) (can ((bt s (i : Int) - 48) % 256)) (can_in hm0) (can_in hd0) (by omega) (by omega)
    rw [can_val hm0, can_val hd0] at r4
    have ih := IH (i + 1) (v * 10 + (bt s (i : Int) - 48) % 256) (by omega) (by omega) hb
    refine Ev.step (f := fun k => (reckonerref02_FromWord.f k 10).bind fun t => (reckonerref02_Mul.f k (can v) t).bind fun t2 => (reckonerref02_FromWord.f k ((bt s (i : Int) - 48) % 256)).bind fun t3 => (reckonerref02_Add.f k t2 t3).bind fun t4 => reckonerref02_Parse.l0 k s t4 ((i + 1 : Nat) : Int)) (fun k => ?_) (Ev.bind r1 (Ev.bind r2 (Ev.bind r3 (Ev.bind r4 ih))))
    show reckonerref02_Parse.l0 (k + 1) s (can v) (i : Int) = _
    rw [reckonerref02_Parse.l0, if_pos (by omega)]
    simp only [if_pos (show (0 : Int) ≤ (i : Int) by omega), e1]
theorem Parse_ev (s : ByteArray) (hs : s.size ≤ 1000) (v : Int) (h : pv s 0 s.size 0 = v) : Ev (fun k => reckonerref02_Parse.f k s) (can v) := by
  have h1 := Parse_loop s hs s.size 0 0 (by omega) (Int.le_refl 0) (by decide)
  rw [h] at h1
  exact h1
theorem aw1 : nat_Pow.f [10] 20 = some (can 100000000000000000000, 0) := by
  have e : valB W64 [10] ^ (20 : Int).toNat = 100000000000000000000 := by decide
  have hl : (can 100000000000000000000).length ≤ 4096 := Nat.le_trans (can_short (n := 2) (by decide) (by decide)) (by decide)
  unfold nat_Pow.f
  rw [if_pos (by decide), if_pos (by decide), if_neg (by decide), e]
  unfold fitV
  rw [if_pos hl]
theorem aw2 : nat_Square.f [18446744073709551615] = some (can 340282366920938463426481119284349108225, 0) := by
  have e : valB W64 [18446744073709551615] * valB W64 [18446744073709551615] = 340282366920938463426481119284349108225 := by decide
  have hl : (can 340282366920938463426481119284349108225).length ≤ 4096 := Nat.le_trans (can_short (n := 2) (by decide) (by decide)) (by decide)
  unfold nat_Square.f
  rw [if_pos (by decide), if_pos (by decide), e]
  unfold fitV
  rw [if_pos hl]
theorem aw3 : nat_DivMod.f [7766279631452241920, 5] [3] = some (can 33333333333333333333, can 1, 0) := by
  have e1 : valB W64 [7766279631452241920, 5] / valB W64 [3] = 33333333333333333333 := by decide
  have e2 : valB W64 [7766279631452241920, 5] % valB W64 [3] = 1 := by decide
  unfold nat_DivMod.f
  rw [if_pos (by decide), if_pos (by decide), if_neg (by decide), e1, e2]
theorem aw4 : nat_Sub.f [1] [2] = some ([], 8) := by
  unfold nat_Sub.f
  rw [if_pos (by decide), if_pos (by decide), if_pos (by decide)]
theorem awake_ev : Ev (fun k => reckonerlaw02_awake.f k) true := by
  have p1 := Parse_ev ⟨#[49, 48, 48, 48, 48, 48, 48, 48, 48, 48, 48, 48, 48, 48, 48, 48, 48, 48, 48, 48, 48]⟩ (by decide) 100000000000000000000 (by decide +kernel)
  have p2 := Parse_ev ⟨#[51, 51, 51, 51, 51, 51, 51, 51, 51, 51, 51, 51, 51, 51, 51, 51, 51, 51, 51, 51]⟩ (by decide) 33333333333333333333 (by decide +kernel)
  have l1 : (can 100000000000000000000).length ≤ 2 := can_short (by decide) (by decide)
  have l2 : (can 33333333333333333333).length ≤ 2 := can_short (by decide) (by decide)
  have i1 := RIs_ev (can 100000000000000000000) (can_in (by decide)) (by omega) (can_val (by decide))
  have i2 := RIs_ev (v := 340282366920938463426481119284349108225) [1, 18446744073709551614] (by decide) (by decide) (by decide)
  have i3 := RIs_ev (can 33333333333333333333) (can_in (by decide)) (by omega) (can_val (by decide))
  have i4 := RIs_ev (v := 1) [1] (by decide) (by decide) (by decide)
  refine Ev.congr (f := fun k => (reckonerref02_Parse.f k (⟨#[49, 48, 48, 48, 48, 48, 48, 48, 48, 48, 48, 48, 48, 48, 48, 48, 48, 48, 48, 48, 48]⟩ : ByteArray)).bind fun t280 => ((reckonerref02_Is.f k (can 100000000000000000000) t280).bind fun t283 => (if t283 = true then ((reckonerref02_Is.f k (can 340282366920938463426481119284349108225) (([1, 18446744073709551614] : List Int))).bind fun t287 => (if t287 = true then ((reckonerref02_Parse.f k (⟨#[51, 51, 51, 51, 51, 51, 51, 51, 51, 51, 51, 51, 51, 51, 51, 51, 51, 51, 51, 51]⟩ : ByteArray)).bind fun t288 => ((reckonerref02_Is.f k (can 33333333333333333333) t288).bind fun t291 => (if t291 = true then ((reckonerref02_Is.f k (can 1) (([1] : List Int))).bind fun t295 => (if t295 = true then (some ((8 : Int) == 8)) else (none))) else (none)))) else (none))) else (none)))) (fun k => ?_) (Ev.bind p1 (Ev.bind i1 ?_))
  · show reckonerlaw02_awake.f k = _
    unfold reckonerlaw02_awake.f
    rw [aw1, aw2, aw3, aw4]
    rfl
  · simp only [if_true]
    refine Ev.bind i2 ?_
    simp only [if_true]
    refine Ev.bind p2 (Ev.bind i3 ?_)
    simp only [if_true]
    refine Ev.bind i4 ?_
    simp only [if_true]
    exact Ev.now true
end Go.Proofs.YtkkkbalefnileaaDoor.Ex
/- NatSizes: the plain part, and the walk with it. -/
namespace Go.Proofs.YtkkkbalefnileaaDoor.Ex
open Go.RowKit Go.Proofs.YtkkkbalefnileaaDoorW.PrintWords Go.Proofs.YtkkkbalefnileaaDoorW.PrintLast Go.Proofs.YtkkkbalefnileaaDoorW.PrintMore Go.Proofs.YtkkkbalefnileaaDoor.T
set_option linter.unusedVariables false
set_option linter.unusedSimpArgs false

theorem fill_val : ∀ k : Nat, valB W64 (List.replicate k 18446744073709551615) = W64 ^ k - 1
  | 0 => by simp [valB]
  | k + 1 => by
    rw [List.replicate_succ]
    show 18446744073709551615 + W64 * valB W64 (List.replicate k 18446744073709551615) = _
    rw [fill_val k, Int.mul_sub, Int.pow_succ, Int.mul_comm (W64 ^ k), W64_eq]
    omega
theorem NatSizes_true (a0 : Int) (A1 : Option Addr) (c1 : Nat) (l1 : List Int) (w : World) (hr1 : Kd.C (Kd.int .u64) w A1 l1.length l1) (hc1 : l1.length ≤ c1) (hj : LaidJ w) (hm : l1.length * 8 ≤ 140737488351232) (hwf : inW l1) :
    Calls Tryd.prog 7 #[.int .i64 a0, .slice A1 l1.length c1] w fun e w' => e = .returned (.bool true) ∧ Below w.heap.size w w' := by
  have fF := few_some l1 5 (by omega)
  obtain ⟨n, hn, hn1, hn2⟩ : ∃ n : Nat, wrap64 (4097 + wrap64 (Int.tmod (IntKind.u64.wrap a0) 3)) = (n : Int) ∧ 4096 < n ∧ n ≤ 5000 := by
    have u0 : 0 ≤ IntKind.u64.wrap a0 := Int.emod_nonneg a0 (by decide : (18446744073709551616 : Int) ≠ 0)
    rw [Int.tmod_eq_emod_of_nonneg u0]
    have m0 := Int.emod_nonneg (IntKind.u64.wrap a0) (show (3 : Int) ≠ 0 by decide)
    have m1 := Int.emod_lt_of_pos (IntKind.u64.wrap a0) (show (0 : Int) < 3 by decide)
    generalize IntKind.u64.wrap a0 % 3 = t at *
    rw [w64_int t (by omega) (by omega), w64_int _ (by omega) (by omega)]
    exact ⟨(4097 + t).toNat, by omega, by omega, by omega⟩
  obtain ⟨Lg, hLg⟩ : ∃ Lg : List Int, Lg = List.replicate n 0 := ⟨_, rfl⟩
  have hLl : Lg.length = n := by rw [hLg]; exact List.length_replicate
  have hLi : inW Lg := by rw [hLg]; exact inB_zeros W64_pos n
  have hLv : valB W64 Lg = 0 := by rw [hLg]; exact valB_zeros W64 n
  have HLe := Aside0.mk hLg
  clear hLg
  have c0 : can 0 = [] := rfl
  have fT : nat_Trim.f Lg = some [] := by unfold nat_Trim.f; rw [if_pos ⟨hLi, by omega⟩, hLv, c0]
  have fL : nat_Len.f Lg = some 0 := by unfold nat_Len.f; rw [if_pos ⟨hLi, by omega⟩, hLv, c0]; rfl
  have i0 : inW ([] : List Int) := fun x hx => by cases hx
  have fC : nat_Cmp.f Lg [] = some 0 := by unfold nat_Cmp.f; rw [if_pos ⟨hLi, i0, by omega, by decide⟩, hLv]; rfl
  have fI := RIs_ev (v := 0) [] i0 (by decide) rfl
  rw [c0] at fI
  obtain ⟨k1, h1⟩ := Ev.rounds fI
  obtain ⟨Y, hY⟩ : ∃ Y : List Int, Y = fillL 4096 := ⟨_, rfl⟩
  have hYl : Y.length = 4096 := by rw [hY]; exact fillL_len 4096 (Nat.le_refl _)
  have hYr : Y = List.replicate 4096 18446744073709551615 := by rw [hY]; unfold fillL; rw [Nat.sub_self, List.replicate_zero, List.append_nil]
  have hYi : inW Y := by
    rw [hYr]
    intro x hx
    rw [(List.mem_replicate.1 hx).2]
    decide
  have hYv : valB W64 Y = W64 ^ 4096 - 1 := by rw [hYr]; exact fill_val 4096
  have HYe := Aside0.mk hY
  clear hY hYr
  have hp : W64 ^ 4096 = W64 ^ 4095 * W64 := Int.pow_succ ..
  have hp2 := pow_posB W64_pos 4096
  have hp3 := pow_posB W64_pos 4095
  have hp4 : W64 ^ 4095 * 2 ≤ W64 ^ 4095 * W64 := Int.mul_le_mul_of_nonneg_left (by decide) (Int.le_of_lt hp3)
  have one : ∀ x : Int, isW x → inW [x] := fun x hx y hy => by rw [List.mem_singleton.1 hy]; exact hx
  have vone : ∀ x : Int, valB W64 [x] = x := fun x => by simp [valB]
  have hi1 : ∀ v : Int, W64 ^ 4096 ≤ v → fitV v = ([], 2) := fun v hv => by
    have := can_high (n := 4096) (v := v) (Int.le_trans (Int.le_of_lt hp2) hv) hv
    unfold fitV
    rw [if_neg (by omega)]
  have fA : nat_Add.f Y [1] = some ([], 2) := by
    unfold nat_Add.f
    rw [if_pos ⟨hYi, one 1 (by decide)⟩, if_pos ⟨by omega, by show (1 : Nat) ≤ 4096; decide⟩, hYv, vone, hi1 _ (by omega)]
  have fM : nat_Mul.f Y [2] = some ([], 2) := by
    unfold nat_Mul.f
    rw [if_pos ⟨hYi, one 2 (by decide)⟩, if_pos ⟨by omega, by show (1 : Nat) ≤ 4096; decide⟩, hYv, vone, hi1 _ (by
      generalize W64 ^ 4096 = S at *
      generalize W64 ^ 4095 = R at *
      omega)]
  have V0 : 0 ≤ W64 ^ 4096 - 1 := by omega
  have hs := can_short (n := 4096) V0 (by omega)
  have fN : nat_Add.f Y [] = some (can (W64 ^ 4096 - 1), 0) := by
    unfold nat_Add.f fitV
    rw [if_pos ⟨hYi, i0⟩, if_pos ⟨by omega, by decide⟩, hYv, show valB W64 [] = 0 from rfl, Int.add_zero, if_pos hs]
  have fI2 := RIs_ev (v := W64 ^ 4096 - 1) Y hYi (by omega) hYv
  obtain ⟨k2, h2⟩ := Ev.rounds fI2
  obtain ⟨k3, h3⟩ := Ev.rounds awake_ev
  generalize can (W64 ^ 4096 - 1) = r at *
  exact NatSizes1 a0 A1 c1 l1 w hr1 hc1 hj n hn1 hn2 hn (l1.take 5) fF (inW_take hwf 5) (by rw [List.length_take]; omega) Lg HLe hLl hLi k1 k2 k3 fT h1 fL fC Y r HYe hYl fA fM fN h2 h3
theorem pureNatSizes : True := trivial
end Go.Proofs.YtkkkbalefnileaaDoor.Ex
namespace Go.Proofs.YtkkkbalefnileaaDoor.T
open Go.RowKit Go.Proofs.YtkkkbalefnileaaDoorW.PrintWords Go.Proofs.YtkkkbalefnileaaDoorW.PrintLast Go.Proofs.YtkkkbalefnileaaDoorW.PrintMore
theorem reckonerlaw02_NatSizes.walk (P : True) (a0 : Int) (a1 : Option Addr) (len1 cap1 : Nat) (z1 : List Int) (w : World) (w0 : (Lit.int .i64 a0).wf = true) (w1 : (a1 = none ∧ len1 = 0 ∧ cap1 = 0 ∧ z1 = []) ∨ ∃ x, a1 = some x ∧ len1 ≤ cap1 ∧ cap1 ≤ maxLen ∧ z1.length = cap1 ∧ (∀ i, i < z1.length → w.cell? (x.add i) = some (.int .u64 (z1.getD i 0))) ∧ ∀ n ∈ z1, (Lit.int .u64 n).wf = true) (y1 : len1 * 8 ≤ 140737488351232) (hj : Ex.LaidJ w) :
    Calls Tryd.prog 7 #[.int .i64 a0, .slice a1 len1 cap1] w fun e w' => e = .returned (.bool true) ∧ Below w.heap.size w w' := by
  obtain ⟨l1, rfl, hr1, hm1, hw1, hc1⟩ := ReadsInt.ofRowC w1
  exact Ex.NatSizes_true a0 _ _ l1 w (Kd.C_of_reads (d := (0 : Int)) (h1 := fun _ => rfl) hr1) hc1 hj y1 (Ex.inW_of_wf hw1)
end Go.Proofs.YtkkkbalefnileaaDoor.T
/- The laid map of the ways to join, out of a row's condition. -/
namespace Go.Proofs.YtkkkbalefnileaaDoor.Ex
open Go.RowKit Go.WideMaps Go.WideElems
set_option linter.unusedVariables false
set_option linter.unusedSimpArgs false

theorem gJ : Tryd.prog.globalNamed "reckoner/nat.joins" = some 0 := by kernel_rfl
theorem tJ : (Tryd.prog.globals[0]?).map (·.type) = some 88 := by kernel_rfl
theorem uJ : Tryd.prog.underlying 88 = some (.map 9 87) := by kernel_rfl
theorem uJs : Tryd.prog.underlying 9 = some .string := by kernel_rfl
theorem uJf : Tryd.prog.underlying 87 = some (.func #[36, 36] #[36] false) := by kernel_rfl
theorem elemAt_func {P : Program} {W : World} {sp : Nat → Bool} {n : Nat} {t : TypeId} {ps rs : Array TypeId} {va : Bool} {v : Value} {b : UInt8} {r : List UInt8} {q : List MemPlace} {f0 : FuncId}
    (ht : P.underlying t = some (.func ps rs va)) (hone : ((List.range P.funcs.size).filter fun f => (P.funcs[f]?).any (·.name.toUTF8.data.toList == b :: r)) = [f0])
    (h : elemAt (funcToken P) P W 0 sp true n t v = some (.held (b :: r), q)) : v = .func (.func f0) #[] #[] := by
  unfold elemAt at h
  split at h
  · rename_i hf
    refine func_of_trod (w := W) (base := 0) (sp := sp) (fuel := n) (q := q) ht hone ?_
    cases v <;> first | exact h | (unfold Value.formed at hf; rw [ht] at hf; cases hf)
  · cases h
theorem look_of {W : World} {es : Array MapEntry} {clock bm m : Nat} {d : DataW (List UInt8)} (hb : W.heap[bm]? = some (.map es clock))
    (F : Fit Tryd.prog 9 (elemAt (funcToken Tryd.prog) Tryd.prog W 0 (fun _ => true) true m 87) es clock)
    (hx : d = .map ((es.toList.map (rg Tryd.prog 9 (elemAt (funcToken Tryd.prog) Tryd.prog W 0 (fun _ => true) true m 87))).foldr DataW.insert []))
    (s : ByteArray) (f0 : FuncId) (b : UInt8) (r : List UInt8) (hs : s.size ≤ maxLen) (hone : ((List.range Tryd.prog.funcs.size).filter fun f => (Tryd.prog.funcs[f]?).any (·.name.toUTF8.data.toList == b :: r)) = [f0])
    (hd : d.atKey (.string s.data.toList) .nil = .held (b :: r)) : LookJ W bm s f0 := by
  intro w' hB
  have hb' : w'.heap[bm]? = some (.map es clock) := by
    rw [← hb]
    exact hB.block bm (Array.getElem?_eq_some_iff.1 hb).1
  have hz : (zeroValue 87).run Tryd.prog w' = .ok .nilFunc w' := by kernel_rfl
  rcases fit_lookup (w := w') (string_law uJs) uJ hz hb' F (keyOf_string_mk (s := s) uJs hs) with ⟨_, hat⟩ | ⟨v, y, hrun, hRv, hat, _⟩
  · have h1 := hat .nil
    rw [← hx, hd] at h1
    cases h1
  · have h1 := hat .nil
    rw [← hx, hd] at h1
    obtain ⟨y1, y2⟩ := y
    cases h1
    rw [elemAt_func uJf hone hRv] at hrun
    exact hrun
set_option maxRecDepth 100000 in
theorem laidJ_of {W : World} {l : List (String × DataW Unit)} (h : laidMetH Tryd.prog l W) (hm : ("reckoner/nat.joins", Rows.laid_reckoner_nat_joins) ∈ l) : LaidJ W := by
  obtain ⟨g, t, cs, fuel, p, hg, ht, hv, hd⟩ := h.funcs hm
  obtain rfl := Option.some.inj (gJ.symm.trans hg)
  obtain rfl := Option.some.inj (tJ.symm.trans ht)
  rcases open_map uJ hd with ⟨_, hx⟩ | ⟨bm, es, clock, m, rfl, hcs, hb, _, F, hx⟩
  · exact absurd (congrArg Prod.fst hx) (by intro e; cases e)
  · have hx1 := congrArg Prod.fst hx
    refine ⟨bm, ?_, look_of hb F hx1 andS _ 114 [101, 99, 107, 111, 110, 101, 114, 47, 110, 97, 116, 46, 106, 111, 105, 110, 115, 36, 49] (by decide) (by kernel_rfl) rfl, look_of hb F hx1 orS _ 114 [101, 99, 107, 111, 110, 101, 114, 47, 110, 97, 116, 46, 106, 111, 105, 110, 115, 36, 50] (by decide) (by kernel_rfl) rfl, look_of hb F hx1 xorS _ 114 [101, 99, 107, 111, 110, 101, 114, 47, 110, 97, 116, 46, 106, 111, 105, 110, 115, 36, 51] (by decide) (by kernel_rfl) rfl⟩
    have := World.var?_cell hg hv 0
    rw [Array.eq_one_of_toList hcs] at this
    simpa using this
end Go.Proofs.YtkkkbalefnileaaDoor.Ex
-- PRINTED BY print.sh 35421559b90ae4d0a3588c463048766b98c2df88dd9212a6774a882060cdf62d: not written by this session
-- PRINTED WORDS (module Derived/Print/Sized.lean): go-gate-2's, for the rows of laws over slices: an AI agent of Go's test side, Tue Nov 17 2026; no person has read it. Lean checks it.
namespace Go.Proofs.YtkkkbalefnileaaDoorW.PrintWords
open Go.ChangeShapes Go.WideShapes
/-- A row's slice of whole numbers is no longer than its weight allows. -/
theorem sized_ints {H : Type} {enc : TypeId × Value → H} {P : Program} {W : World} {base : Nat} {spare : Nat → Bool} {held : Bool} {t e : TypeId} {k : IntKind} {a : Option Addr} {len cap : Nat} {d : DataW H} {ps : List MemPlace} {ts : List TypeId} {ds : List (DataW H)} {j : Nat}
    (hsz : (DataW.weightsEach P ts ds).all (· ≤ reachBytes) = true) (ht : ts[j]? = some t) (hd : ds[j]? = some d) (hu : P.underlying t = some (.slice e)) (he : P.underlying e = some (.int k)) (hc : P.cellsOf e = 1) {B : Nat} (hB : P.bytesOf e = B)
    (h : DataW.Trod enc P W base spare held t (.slice a len cap) d ps) : len * B ≤ 140737488351232 := by
  obtain ⟨fuel, hf⟩ := h
  rcases open_ints hu he hc hf with ⟨hcs, _⟩ | ⟨x, l, c, zs, hcs, _, hl, _, hz, hx, _, _⟩
  · simp [Value.cells] at hcs
    obtain ⟨rfl, rfl, rfl⟩ := hcs
    simp
  · simp [Value.cells] at hcs
    obtain ⟨rfl, rfl, rfl⟩ := hcs
    obtain ⟨hx, _⟩ := Prod.mk.inj hx
    subst hx
    have z := sized_slice hsz ht hd hu
    rw [hB] at z
    have hl2 : len ≤ zs.length := by
      rw [hz]
      split
      · exact hl
      · exact Nat.le_refl _
    have h1 : (lits (H := H) k (zs.take len)).length + (lits (H := H) k (zs.drop len)).length = zs.length := by
      simp [lits]
      omega
    rw [h1] at z
    exact Nat.le_trans (Nat.mul_le_mul_right _ hl2) z
end Go.Proofs.YtkkkbalefnileaaDoorW.PrintWords
-- PRINTED by print.py: the row of the law reckonerlaw02_NatSizes, out of its Pure (the session's) and the printed walk. Not trusted: Lean checks it.
namespace Go.Proofs.YtkkkbalefnileaaDoor.natSizes
open Go.Proofs.YtkkkbalefnileaaDoor.Ex
open Go.ChangeShapes Go.WideShapes Go.ChangeAt Go.RowKit
open Go.ChangeMaps (open_string shut_string)
set_option linter.unusedVariables false
theorem own : ownKnob Tryd.prog.godebug = none := by kernel_rfl
theorem laidOut : laidOutB Tryd.prog = true := by kernel_rfl
def IsRow (k : IntKind) (w : World) (a : Option Addr) (len cap : Nat) (zs : List Int) : Prop :=
  (a = none ∧ len = 0 ∧ cap = 0 ∧ zs = []) ∨
  ∃ x, a = some x ∧ len ≤ cap ∧ cap ≤ maxLen ∧ zs.length = cap ∧ (∀ i, i < zs.length → w.cell? (x.add i) = some (.int k (zs.getD i 0))) ∧ ∀ n ∈ zs, (Lit.int k n).wf = true
/-- A world in which the map lies as its initialiser lays it: the heap that the door's own run leaves. -/
noncomputable def laidWorld (os : Os) : World := World.doorLaid Tryd.prog 34 os
theorem laid_met (os : Os) (args : Array Value) : laidMetH Tryd.prog Rows.natSizesRow.laid ((laidWorld os).forCall (fun _ _ => 0) ⟨#[], args, []⟩).memory :=
  laidMetH_of_parts3 (fuel := 8) (laidMet_of_run' 8 (by kernel_rfl) (by kernel_rfl)) (by kernel_rfl) (by kernel_rfl)
theorem witness_row (os : Os) {H : Type} (enc : TypeId × Value → H) :
    (OpenSpec.ofChange Rows.natSizesSpec).preRow enc Tryd.prog Tryd.f7 Rows.natSizesRow.domain false Rows.natSizesRow.laid ((laidWorld os).forCall (fun _ _ => 0) ⟨#[], #[.int .i64 0, .slice none 0 0], []⟩).memory #[.int .i64 0, .slice none 0 0] := by
  have hw : (DataW.whole enc Tryd.prog ((laidWorld os).forCall (fun _ _ => 0) ⟨#[], #[.int .i64 0, .slice none 0 0], []⟩).memory Tryd.f7.params.toList (OpenSpec.ofChange Rows.natSizesSpec).vars false (#[.int .i64 0, .slice none 0 0] : Array Value).toList 8).map (fun x => (x.1, x.2.1)) =
      some ([.lit (.int .i64 0), .nil], []) := by kernel_rfl
  obtain ⟨⟨x1, x2, x3⟩, hx, hx1⟩ := Option.map_eq_some_iff.1 hw
  simp only [Prod.mk.injEq] at hx1
  obtain ⟨rfl, rfl⟩ := hx1
  exact OpenSpec.preRow_of_cond 8 hx (by kernel_rfl) (fun k hk => by cases hk) (by kernel_rfl) (laid_met os _)
set_option maxRecDepth 100000 in
theorem lifted (os : Os) (started : os.Started) (H : Type) (enc : TypeId × Value → H) (F : Stop.Interp) :
    ReturnsInHanded {} Tryd.checked os 7 .any ((OpenSpec.ofChange Rows.natSizesSpec).preRow enc Tryd.prog Tryd.f7 Rows.natSizesRow.domain false Rows.natSizesRow.laid) (((OpenSpec.ofChange Rows.natSizesSpec).at F).post enc Tryd.prog Tryd.f7 false true false false) := by
  refine returnsInHanded_of_row (C := Tryd.checked) (s := OpenSpec.ofChange Rows.natSizesSpec) own started (by kernel_rfl) Tryd.func7
    (witness_row_atRef (enc := enc) (C := Tryd.checked) false (laidWorld os) #[.int .i64 0, .slice none 0 0] rfl (by kernel_rfl) (by kernel_rfl) (by kernel_rfl) (witness_row os enc)) ?_
  intro W base args ds gs before hval0 hW hcnd _ hsz0 hL _ _
  have hg : LaidJ W := laidJ_of hL (List.mem_cons_self ..)
  have hsz : (DataW.weightsEach Tryd.prog (Tryd.f7.params.toList ++ (OpenSpec.ofChange Rows.natSizesSpec).bare.plain.varTypes Tryd.prog) (ds ++ gs)).all (· ≤ reachBytes) = true := hsz0
  have hval : ∀ (j : Nat) t v, Tryd.f7.params[j]? = some t → args[j]? = some v → Value.okWide Tryd.prog W .any base t v := hval0
  have hW' := hW
  obtain ⟨p, q, hA0, hV, rfl, hfz, hnd⟩ := hW
  have hA : DataW.TrodAll enc Tryd.prog W 0 (fun _ => true) true Tryd.f7.params.toList args.toList ds p := hA0
  rw [Tryd.params7] at hA hval hsz
  obtain ⟨v0, vs0, d0, ds0, p0, q0, hargs, rfl, rfl, h0, r0⟩ := trodAll_cons hA
  obtain ⟨v1, vs1, d1, ds1, p1, q1, rfl, rfl, rfl, h1, r1⟩ := trodAll_cons r0
  obtain ⟨rfl, rfl, rfl⟩ := trodAll_nil r1
  obtain rfl : args = #[v0, v1] := by cases args; simp_all
  obtain ⟨rfl, rfl⟩ := trodVars_none hV
  obtain ⟨a0, rfl, rfl, rfl, w0⟩ := open_int Tryd.underlying3 (hval 0 3 v0 rfl rfl) h0
  obtain ⟨a1, len1, cap1, rfl⟩ := okWide_slice Tryd.underlying23 (hval 1 23 v1 rfl rfl)
  have k1 := h1
  have lt1 : ∀ x ∈ p1, x.block < W.heap.size := by obtain ⟨m, hm⟩ := k1; exact DataW.trod_lt m _ _ _ hm
  obtain ⟨z1, w1⟩ : ∃ zs, IsRow .u64 W a1 len1 cap1 zs := by
    obtain ⟨fuel, hf⟩ := h1
    rcases open_ints Tryd.underlying23 Tryd.underlying36 (by kernel_rfl) hf with ⟨hcs, _⟩ | ⟨x, l, c, zs, hcs, _, hl, hm, hz, _, hcell, hwz⟩
    · simp [Value.cells] at hcs
      obtain ⟨rfl, rfl, rfl⟩ := hcs
      exact ⟨[], .inl ⟨rfl, rfl, rfl, rfl⟩⟩
    · simp [Value.cells] at hcs
      obtain ⟨rfl, rfl, rfl⟩ := hcs
      exact ⟨zs, .inr ⟨_, rfl, hl, hm, by simpa using hz, hcell, hwz⟩⟩
  have y1 : len1 * 8 ≤ 140737488351232 := Go.Proofs.YtkkkbalefnileaaDoorW.PrintWords.sized_ints hsz (j := 1) (t := 23) rfl rfl Tryd.underlying23 Tryd.underlying36 (by kernel_rfl) (by kernel_rfl) h1
  clear hA0 hval0 hsz0 hsz
  refine (T.reckonerlaw02_NatSizes.walk pureNatSizes a0 a1 len1 cap1 z1 W w0 w1 y1 hg).mono fun e W' ⟨he, bel⟩ => ?_
  subst he
  exact ⟨_, rfl, _, _, _, [], _, [], hW', trodAll_mk1 (shut_bool Tryd.underlying4 _), (trodAll_cons_mk (shut_int Tryd.underlying3 w0) (trodAll_cons_mk (Below.trod laidOut (by kernel_rfl) (of_decide_eq_true (by kernel_rfl)) k1 bel lt1) trodAll_mk0)), rfl, bel.frame _, fun h => by cases h⟩
theorem over : Rows.natSizesRow.holds Tryd.pinned (OpenSpec.ofChange Rows.natSizesSpec) :=
  OpenClaim.holds_of_cond 7 Tryd.f7 rfl rfl rfl rfl rfl rfl rfl ⟨rfl, rfl, rfl, rfl, rfl⟩ rfl rfl rfl rfl rfl (by kernel_rfl) Tryd.func7 (by kernel_rfl)
    (of_decide_eq_true (by kernel_rfl)) (by unfold Func.isWrapper; first | (rw [if_pos (by decide +kernel)]; kernel_rfl) | (rw [if_neg (by decide +kernel)]; exact ⟨rfl, rfl⟩))
    (fun os started H enc _ F0 => by rw [OpenClaim.pre_eq_preRow]; exact lifted os started H enc F0)
theorem proved : Rows.NatSizesSaid := over
end Go.Proofs.YtkkkbalefnileaaDoor.natSizes
namespace Go.Proofs.YtkkkbalefnileaaDoor
/-- The row, under a short name, for the claim. -/
theorem natSizes_holds : Rows.NatSizesSaid := natSizes.proved
/-- THE TIED CARD. -/
theorem natSizesCard_holds : Rows.NatSizesCardSaid :=
  Claim7.holds_tied_plain_at .later [] [.funcs] true (true, "36986857b704cc5859705dd873ca777faef389e418bc52f4b429b1ff2dc10ece") false
    natSizes_holds (fun _ h => by cases h) (by kernel_rfl) (fun _ h => by cases h) natSizes_row_tie rfl ⟨rfl, rfl⟩ (by kernel_rfl) rfl
    (fun f fn hf hfn => by
      obtain rfl : f = 7 := Option.some.inj ((show Tryd.prog.funcNamed Rows.natSizesRow.func = some 7 by kernel_rfl).symm.trans hf) |>.symm
      obtain rfl : fn = Tryd.f7 := (Option.some.inj (Tryd.func7.symm.trans hfn)).symm
      exact ⟨by kernel_rfl, fun j t ht => by
        rw [Tryd.params7] at ht
        have h3 : Tryd.prog.wantsStandIn t = false := by
          rcases j with (_ | (_ | j))
          · obtain rfl := Option.some.inj ht.symm
            kernel_rfl
          · obtain rfl := Option.some.inj ht.symm
            kernel_rfl
          · simp at ht
        exact h3⟩)
    (by kernel_rfl)
end Go.Proofs.YtkkkbalefnileaaDoor
