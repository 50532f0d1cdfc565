/- attpdu: the reference: Check. attpdu: the reference: Check. attpdu: the reference: Check. -/
import Derived.Test.YthnffdlnhfhabaaAtV
import Derived.Test.YthnffdlnhfhabaaAtTa
namespace Go.Proofs.Ythnffdlnhfhabaa
open Go.RowKit

set_option linter.unusedSimpArgs false in
set_option linter.unusedVariables false in
set_option maxRecDepth 100000 in
set_option maxHeartbeats 4000000 in
theorem rchk_AHC (ki : Int) (hk : fldC ki = some [65, 72, 67]) (h1 : (ki == 1) = true) (ak : Int) (ha la hi lo : Nat) (of mt co : Int) (cm : Bool) (a1 a2 : Option Addr) (n c m d : Nat) (its : List It) (w : World) (hits : Items w (.slice a2 m d) m its) (hm : m ≤ 1000) (hbn : ∀ t ∈ its, t.n ≤ 1000000) : Calls Try.prog 13 #[.agg #[.int .i64 ki, .int .i64 ak, .int .u16 ha, .int .u16 la, .int .u64 hi, .int .u64 lo, .int .i64 of, .int .i64 mt, .int .i64 co, .bool cm, .slice a1 n c, .slice a2 m d]] w fun e w' => e = .returned (.int .i64 (chkP ki ak ha la hi lo of mt co cm n m its)) ∧ Below w.heap.size w w' := by
  have hf : ∀ W, Calls Try.prog 28 #[.int .i64 ki] W (fun e w' => e = .returned (.agg #[.bool true, .bool true, .bool true, .bool false, .bool false, .bool false, .bool false, .bool true, .bool false, .bool false, .bool false]) ∧ Below W.heap.size W w') := fun W => by
    have h := rfields_any ki W
    rw [hk] at h
    exact h
  have hun := fun W => runu_AHC ki hk ak ha la hi lo of mt co cm a1 a2 n c m d W
  have hcl := fun W (h : Below w.heap.size w W) => rcheckList_any ki ak ha la hi lo of mt co cm a1 a2 n c m d its W (hits.below h) hm hbn
  have hB := (Below.refl w.heap.size w).alloc (Nat.le_refl _) (.cells #[.int .i64 ki, .int .i64 ak, .int .u16 ha, .int .u16 la, .int .u64 hi, .int .u64 lo, .int .i64 of, .int .i64 mt, .int .i64 co, .bool cm, .slice a1 n c, .slice a2 m d] 29)
  have T0 := cells_new w [.int .i64 ki, .int .i64 ak, .int .u16 ha, .int .u16 la, .int .u64 hi, .int .u64 lo, .int .i64 of, .int .i64 mt, .int .i64 co, .bool cm, .slice a1 n c, .slice a2 m d] 29
  obtain ⟨q, hq⟩ : ∃ q, anyC [65, 72, 67] (zB ak ha la hi lo of mt co cm n m) 10 = q := ⟨_, rfl⟩
  have h1' : (ki != 1) = false := by rw [bne, h1]; rfl
  have hchk : chkP ki ak ha la hi lo of mt co cm n m its = if q then 1 else errC [65, 72, 67] (cI ki ak ha la of mt co n its) 10 := by
    unfold chkP
    rw [hk]
    simp only
    rw [hq]
  rw [hchk]
  have herr : errC [65, 72, 67] (cI ki ak ha la of mt co n its) 10 = (if 0 ≤ ak ∧ ak ≤ 255 then if 1 ≤ co ∧ co ≤ 255 then 0 else 5 else 5) := by
    simp only [errC, cI, le, leF, unlessI, h1]
    first
    | (simp; done)
    | (simp
       repeat' split
       all_goals first | rfl | omega | (simp_all; done) | (simp_all; omega))
  rw [herr]
  rw [hq] at hun
  obtain ⟨RES, hRES⟩ : ∃ R : Int, R = if q = true then 1 else (if 0 ≤ ak ∧ ak ≤ 255 then if 1 ≤ co ∧ co ≤ 255 then 0 else 5 else 5) := ⟨_, rfl⟩
  rw [← hRES]
  have HRES := Lib.hid hRES
  clear hRES
  have hn0 : q = false → n = 0 := fun h => by
    rw [h] at hq
    simp [anyC, zB, le, leF] at hq
    omega
  have HF := Lib.hid hf
  have HUN := Lib.hid hun
  have HCL := Lib.hid hcl
  clear hf hun hcl hk hq hchk herr hits hbn
  go_enter Try.func13, Try.ntmps13
  go_upto_region 1 with fail
  generalize World.alloc _ _ = X at T0 hB ⊢
  have HT0 := Lib.hid T0
  have hOpen := T0
  simp only [Cells, blk, List.cons_append, List.nil_append, and_true, Nat.reduceAdd, Nat.add_zero, Nat.zero_add] at hOpen
  obtain ⟨y0, y1, y2, y3, y4, y5, y6, y7, y8, y9, yA, yB⟩ := hOpen
  clear T0
  go_wp2_with fail
  refine (HF.out _).mono ?_
  rintro e w1 ⟨rfl, hB1⟩
  have T1 := HT0.out.keep hB1
  have hB2 := hB.trans (hB1.mono hB.size)
  have hB3 := hB2.alloc hB2.size (.cells #[.bool true, .bool true, .bool true, .bool false, .bool false, .bool false, .bool false, .bool true, .bool false, .bool false, .bool false] 58)
  have T2 := (cells_new w1 [.bool true, .bool true, .bool true, .bool false, .bool false, .bool false, .bool false, .bool true, .bool false, .bool false, .bool false] 58).app (T1.keep ((Below.refl w1.heap.size w1).alloc (Nat.le_refl _) _))
  clear y0 y1 y2 y3 y4 y5 y6 y7 y8 y9 yA yB hB hB1 T1 HT0 hB2
  go_upto_region 2 with fail
  generalize World.alloc _ _ = Y at T2 hB3 ⊢
  have HT2 := Lib.hid T2
  have hOpen := T2
  simp only [Cells, blk, List.cons_append, List.nil_append, and_true, Nat.reduceAdd, Nat.add_zero, Nat.zero_add] at hOpen
  obtain ⟨u0, u1, u2, u3, u4, u5, u6, u7, u8, u9, uA, y0, y1, y2, y3, y4, y5, y6, y7, y8, y9, yA, yB⟩ := hOpen
  clear T2
  go_wp2_with fail
  refine (HUN.out _).mono ?_
  rintro e w4 ⟨rfl, hB4⟩
  have hB5 := hB3.trans (hB4.mono hB3.size)
  have T4 := HT2.out.keep hB4
  clear u0 u1 u2 u3 u4 u5 u6 u7 u8 u9 uA y0 y1 y2 y3 y4 y5 y6 y7 y8 y9 yA yB hB3 hB4 HT2
  cases q
  · have hres := HRES.out
    rw [if_neg (by decide)] at hres
    have HR := Lib.hid hres
    clear hres HRES
    have g5 : decide (512 < n) = false := by simp; have := hn0 rfl; omega
    have g5' : decide ((512 : Int) < (n : Int)) = false := by simp; have := hn0 rfl; omega
    clear hn0
    have hOpen := T4
    simp only [Cells, blk, List.cons_append, List.nil_append, and_true, Nat.reduceAdd, Nat.add_zero, Nat.zero_add] at hOpen
    obtain ⟨u0, u1, u2, u3, u4, u5, u6, u7, u8, u9, uA, y0, y1, y2, y3, y4, y5, y6, y7, y8, y9, yA, yB⟩ := hOpen
    clear T4
    go_wp2
    all_goals
      go_ret
      refine ⟨ret_eq ?_, hB5⟩
      clear HF HUN HCL hB5 u0 u1 u2 u3 u4 u5 u6 u7 u8 u9 uA y0 y1 y2 y3 y4 y5 y6 y7 y8 y9 yA yB
      first
      | exact HR.out.symm
      | (rw [HR.out]
         repeat' split
         all_goals first | rfl | omega | (simp_all; done) | (simp_all; omega))
  · have hres := HRES.out
    rw [if_pos rfl] at hres
    have HR := Lib.hid hres
    clear hres HRES
    clear HCL HF HUN
    have hOpen := T4
    simp only [Cells, blk, List.cons_append, List.nil_append, and_true, Nat.reduceAdd, Nat.add_zero, Nat.zero_add] at hOpen
    obtain ⟨u0, u1, u2, u3, u4, u5, u6, u7, u8, u9, uA, y0, y1, y2, y3, y4, y5, y6, y7, y8, y9, yA, yB⟩ := hOpen
    clear T4
    go_wp2
    go_ret
    exact ⟨ret_eq HR.out.symm, hB5⟩
set_option linter.unusedSimpArgs false in
set_option linter.unusedVariables false in
set_option maxRecDepth 100000 in
set_option maxHeartbeats 4000000 in
theorem rchk_M (ki : Int) (hk : fldC ki = some [77]) (h1 : (ki == 1) = false) (ak : Int) (ha la hi lo : Nat) (of mt co : Int) (cm : Bool) (a1 a2 : Option Addr) (n c m d : Nat) (its : List It) (w : World) (hits : Items w (.slice a2 m d) m its) (hm : m ≤ 1000) (hbn : ∀ t ∈ its, t.n ≤ 1000000) : Calls Try.prog 13 #[.agg #[.int .i64 ki, .int .i64 ak, .int .u16 ha, .int .u16 la, .int .u64 hi, .int .u64 lo, .int .i64 of, .int .i64 mt, .int .i64 co, .bool cm, .slice a1 n c, .slice a2 m d]] w fun e w' => e = .returned (.int .i64 (chkP ki ak ha la hi lo of mt co cm n m its)) ∧ Below w.heap.size w w' := by
  have hf : ∀ W, Calls Try.prog 28 #[.int .i64 ki] W (fun e w' => e = .returned (.agg #[.bool true, .bool false, .bool false, .bool false, .bool false, .bool false, .bool true, .bool false, .bool false, .bool false, .bool false]) ∧ Below W.heap.size W w') := fun W => by
    have h := rfields_any ki W
    rw [hk] at h
    exact h
  have hun := fun W => runu_M ki hk ak ha la hi lo of mt co cm a1 a2 n c m d W
  have hcl := fun W (h : Below w.heap.size w W) => rcheckList_any ki ak ha la hi lo of mt co cm a1 a2 n c m d its W (hits.below h) hm hbn
  have hB := (Below.refl w.heap.size w).alloc (Nat.le_refl _) (.cells #[.int .i64 ki, .int .i64 ak, .int .u16 ha, .int .u16 la, .int .u64 hi, .int .u64 lo, .int .i64 of, .int .i64 mt, .int .i64 co, .bool cm, .slice a1 n c, .slice a2 m d] 29)
  have T0 := cells_new w [.int .i64 ki, .int .i64 ak, .int .u16 ha, .int .u16 la, .int .u64 hi, .int .u64 lo, .int .i64 of, .int .i64 mt, .int .i64 co, .bool cm, .slice a1 n c, .slice a2 m d] 29
  obtain ⟨q, hq⟩ : ∃ q, anyC [77] (zB ak ha la hi lo of mt co cm n m) 10 = q := ⟨_, rfl⟩
  have h1' : (ki != 1) = true := by rw [bne, h1]; rfl
  have hchk : chkP ki ak ha la hi lo of mt co cm n m its = if q then 1 else errC [77] (cI ki ak ha la of mt co n its) 10 := by
    unfold chkP
    rw [hk]
    simp only
    rw [hq]
  rw [hchk]
  have herr : errC [77] (cI ki ak ha la of mt co n its) 10 = (if 23 ≤ mt ∧ mt ≤ 517 then 0 else 5) := by
    simp only [errC, cI, le, leF, unlessI, h1]
    first
    | (simp; done)
    | (simp
       repeat' split
       all_goals first | rfl | omega | (simp_all; done) | (simp_all; omega))
  rw [herr]
  rw [hq] at hun
  obtain ⟨RES, hRES⟩ : ∃ R : Int, R = if q = true then 1 else (if 23 ≤ mt ∧ mt ≤ 517 then 0 else 5) := ⟨_, rfl⟩
  rw [← hRES]
  have HRES := Lib.hid hRES
  clear hRES
  have hn0 : q = false → n = 0 := fun h => by
    rw [h] at hq
    simp [anyC, zB, le, leF] at hq
    omega
  have HF := Lib.hid hf
  have HUN := Lib.hid hun
  have HCL := Lib.hid hcl
  clear hf hun hcl hk hq hchk herr hits hbn
  go_enter Try.func13, Try.ntmps13
  go_upto_region 1 with fail
  generalize World.alloc _ _ = X at T0 hB ⊢
  have HT0 := Lib.hid T0
  have hOpen := T0
  simp only [Cells, blk, List.cons_append, List.nil_append, and_true, Nat.reduceAdd, Nat.add_zero, Nat.zero_add] at hOpen
  obtain ⟨y0, y1, y2, y3, y4, y5, y6, y7, y8, y9, yA, yB⟩ := hOpen
  clear T0
  go_wp2_with fail
  refine (HF.out _).mono ?_
  rintro e w1 ⟨rfl, hB1⟩
  have T1 := HT0.out.keep hB1
  have hB2 := hB.trans (hB1.mono hB.size)
  have hB3 := hB2.alloc hB2.size (.cells #[.bool true, .bool false, .bool false, .bool false, .bool false, .bool false, .bool true, .bool false, .bool false, .bool false, .bool false] 58)
  have T2 := (cells_new w1 [.bool true, .bool false, .bool false, .bool false, .bool false, .bool false, .bool true, .bool false, .bool false, .bool false, .bool false] 58).app (T1.keep ((Below.refl w1.heap.size w1).alloc (Nat.le_refl _) _))
  clear y0 y1 y2 y3 y4 y5 y6 y7 y8 y9 yA yB hB hB1 T1 HT0 hB2
  go_upto_region 2 with fail
  generalize World.alloc _ _ = Y at T2 hB3 ⊢
  have HT2 := Lib.hid T2
  have hOpen := T2
  simp only [Cells, blk, List.cons_append, List.nil_append, and_true, Nat.reduceAdd, Nat.add_zero, Nat.zero_add] at hOpen
  obtain ⟨u0, u1, u2, u3, u4, u5, u6, u7, u8, u9, uA, y0, y1, y2, y3, y4, y5, y6, y7, y8, y9, yA, yB⟩ := hOpen
  clear T2
  go_wp2_with fail
  refine (HUN.out _).mono ?_
  rintro e w4 ⟨rfl, hB4⟩
  have hB5 := hB3.trans (hB4.mono hB3.size)
  have T4 := HT2.out.keep hB4
  clear u0 u1 u2 u3 u4 u5 u6 u7 u8 u9 uA y0 y1 y2 y3 y4 y5 y6 y7 y8 y9 yA yB hB3 hB4 HT2
  cases q
  · have hres := HRES.out
    rw [if_neg (by decide)] at hres
    have HR := Lib.hid hres
    clear hres HRES
    have g5 : decide (512 < n) = false := by simp; have := hn0 rfl; omega
    have g5' : decide ((512 : Int) < (n : Int)) = false := by simp; have := hn0 rfl; omega
    clear hn0
    have hOpen := T4
    simp only [Cells, blk, List.cons_append, List.nil_append, and_true, Nat.reduceAdd, Nat.add_zero, Nat.zero_add] at hOpen
    obtain ⟨u0, u1, u2, u3, u4, u5, u6, u7, u8, u9, uA, y0, y1, y2, y3, y4, y5, y6, y7, y8, y9, yA, yB⟩ := hOpen
    clear T4
    go_wp2
    all_goals
      go_ret
      refine ⟨ret_eq ?_, hB5⟩
      clear HF HUN HCL hB5 u0 u1 u2 u3 u4 u5 u6 u7 u8 u9 uA y0 y1 y2 y3 y4 y5 y6 y7 y8 y9 yA yB
      first
      | exact HR.out.symm
      | (rw [HR.out]
         repeat' split
         all_goals first | rfl | omega | (simp_all; done) | (simp_all; omega))
  · have hres := HRES.out
    rw [if_pos rfl] at hres
    have HR := Lib.hid hres
    clear hres HRES
    clear HCL HF HUN
    have hOpen := T4
    simp only [Cells, blk, List.cons_append, List.nil_append, and_true, Nat.reduceAdd, Nat.add_zero, Nat.zero_add] at hOpen
    obtain ⟨u0, u1, u2, u3, u4, u5, u6, u7, u8, u9, uA, y0, y1, y2, y3, y4, y5, y6, y7, y8, y9, yA, yB⟩ := hOpen
    clear T4
    go_wp2
    go_ret
    exact ⟨ret_eq HR.out.symm, hB5⟩
set_option linter.unusedSimpArgs false in
set_option linter.unusedVariables false in
set_option maxRecDepth 100000 in
set_option maxHeartbeats 4000000 in
theorem rchk_HL (ki : Int) (hk : fldC ki = some [72, 76]) (h1 : (ki == 1) = false) (ak : Int) (ha la hi lo : Nat) (of mt co : Int) (cm : Bool) (a1 a2 : Option Addr) (n c m d : Nat) (its : List It) (w : World) (hits : Items w (.slice a2 m d) m its) (hm : m ≤ 1000) (hbn : ∀ t ∈ its, t.n ≤ 1000000) : Calls Try.prog 13 #[.agg #[.int .i64 ki, .int .i64 ak, .int .u16 ha, .int .u16 la, .int .u64 hi, .int .u64 lo, .int .i64 of, .int .i64 mt, .int .i64 co, .bool cm, .slice a1 n c, .slice a2 m d]] w fun e w' => e = .returned (.int .i64 (chkP ki ak ha la hi lo of mt co cm n m its)) ∧ Below w.heap.size w w' := by
  have hf : ∀ W, Calls Try.prog 28 #[.int .i64 ki] W (fun e w' => e = .returned (.agg #[.bool true, .bool false, .bool true, .bool true, .bool false, .bool false, .bool false, .bool false, .bool false, .bool false, .bool false]) ∧ Below W.heap.size W w') := fun W => by
    have h := rfields_any ki W
    rw [hk] at h
    exact h
  have hun := fun W => runu_HL ki hk ak ha la hi lo of mt co cm a1 a2 n c m d W
  have hcl := fun W (h : Below w.heap.size w W) => rcheckList_any ki ak ha la hi lo of mt co cm a1 a2 n c m d its W (hits.below h) hm hbn
  have hB := (Below.refl w.heap.size w).alloc (Nat.le_refl _) (.cells #[.int .i64 ki, .int .i64 ak, .int .u16 ha, .int .u16 la, .int .u64 hi, .int .u64 lo, .int .i64 of, .int .i64 mt, .int .i64 co, .bool cm, .slice a1 n c, .slice a2 m d] 29)
  have T0 := cells_new w [.int .i64 ki, .int .i64 ak, .int .u16 ha, .int .u16 la, .int .u64 hi, .int .u64 lo, .int .i64 of, .int .i64 mt, .int .i64 co, .bool cm, .slice a1 n c, .slice a2 m d] 29
  obtain ⟨q, hq⟩ : ∃ q, anyC [72, 76] (zB ak ha la hi lo of mt co cm n m) 10 = q := ⟨_, rfl⟩
  have h1' : (ki != 1) = true := by rw [bne, h1]; rfl
  have hchk : chkP ki ak ha la hi lo of mt co cm n m its = if q then 1 else errC [72, 76] (cI ki ak ha la of mt co n its) 10 := by
    unfold chkP
    rw [hk]
    simp only
    rw [hq]
  rw [hchk]
  have herr : errC [72, 76] (cI ki ak ha la of mt co n its) 10 = (if ¬ (ha : Int) = 0 then if ha ≤ la then 0 else 13 else 5) := by
    simp only [errC, cI, le, leF, unlessI, h1]
    first
    | (simp; done)
    | (simp
       repeat' split
       all_goals first | rfl | omega | (simp_all; done) | (simp_all; omega))
  rw [herr]
  rw [hq] at hun
  obtain ⟨RES, hRES⟩ : ∃ R : Int, R = if q = true then 1 else (if ¬ (ha : Int) = 0 then if ha ≤ la then 0 else 13 else 5) := ⟨_, rfl⟩
  rw [← hRES]
  have HRES := Lib.hid hRES
  clear hRES
  have hn0 : q = false → n = 0 := fun h => by
    rw [h] at hq
    simp [anyC, zB, le, leF] at hq
    omega
  have HF := Lib.hid hf
  have HUN := Lib.hid hun
  have HCL := Lib.hid hcl
  clear hf hun hcl hk hq hchk herr hits hbn
  go_enter Try.func13, Try.ntmps13
  go_upto_region 1 with fail
  generalize World.alloc _ _ = X at T0 hB ⊢
  have HT0 := Lib.hid T0
  have hOpen := T0
  simp only [Cells, blk, List.cons_append, List.nil_append, and_true, Nat.reduceAdd, Nat.add_zero, Nat.zero_add] at hOpen
  obtain ⟨y0, y1, y2, y3, y4, y5, y6, y7, y8, y9, yA, yB⟩ := hOpen
  clear T0
  go_wp2_with fail
  refine (HF.out _).mono ?_
  rintro e w1 ⟨rfl, hB1⟩
  have T1 := HT0.out.keep hB1
  have hB2 := hB.trans (hB1.mono hB.size)
  have hB3 := hB2.alloc hB2.size (.cells #[.bool true, .bool false, .bool true, .bool true, .bool false, .bool false, .bool false, .bool false, .bool false, .bool false, .bool false] 58)
  have T2 := (cells_new w1 [.bool true, .bool false, .bool true, .bool true, .bool false, .bool false, .bool false, .bool false, .bool false, .bool false, .bool false] 58).app (T1.keep ((Below.refl w1.heap.size w1).alloc (Nat.le_refl _) _))
  clear y0 y1 y2 y3 y4 y5 y6 y7 y8 y9 yA yB hB hB1 T1 HT0 hB2
  go_upto_region 2 with fail
  generalize World.alloc _ _ = Y at T2 hB3 ⊢
  have HT2 := Lib.hid T2
  have hOpen := T2
  simp only [Cells, blk, List.cons_append, List.nil_append, and_true, Nat.reduceAdd, Nat.add_zero, Nat.zero_add] at hOpen
  obtain ⟨u0, u1, u2, u3, u4, u5, u6, u7, u8, u9, uA, y0, y1, y2, y3, y4, y5, y6, y7, y8, y9, yA, yB⟩ := hOpen
  clear T2
  go_wp2_with fail
  refine (HUN.out _).mono ?_
  rintro e w4 ⟨rfl, hB4⟩
  have hB5 := hB3.trans (hB4.mono hB3.size)
  have T4 := HT2.out.keep hB4
  clear u0 u1 u2 u3 u4 u5 u6 u7 u8 u9 uA y0 y1 y2 y3 y4 y5 y6 y7 y8 y9 yA yB hB3 hB4 HT2
  cases q
  · have hres := HRES.out
    rw [if_neg (by decide)] at hres
    have HR := Lib.hid hres
    clear hres HRES
    have g5 : decide (512 < n) = false := by simp; have := hn0 rfl; omega
    have g5' : decide ((512 : Int) < (n : Int)) = false := by simp; have := hn0 rfl; omega
    clear hn0
    have hOpen := T4
    simp only [Cells, blk, List.cons_append, List.nil_append, and_true, Nat.reduceAdd, Nat.add_zero, Nat.zero_add] at hOpen
    obtain ⟨u0, u1, u2, u3, u4, u5, u6, u7, u8, u9, uA, y0, y1, y2, y3, y4, y5, y6, y7, y8, y9, yA, yB⟩ := hOpen
    clear T4
    go_wp2
    all_goals
      go_ret
      refine ⟨ret_eq ?_, hB5⟩
      clear HF HUN HCL hB5 u0 u1 u2 u3 u4 u5 u6 u7 u8 u9 uA y0 y1 y2 y3 y4 y5 y6 y7 y8 y9 yA yB
      first
      | exact HR.out.symm
      | (rw [HR.out]
         repeat' split
         all_goals first | rfl | omega | (simp_all; done) | (simp_all; omega))
  · have hres := HRES.out
    rw [if_pos rfl] at hres
    have HR := Lib.hid hres
    clear hres HRES
    clear HCL HF HUN
    have hOpen := T4
    simp only [Cells, blk, List.cons_append, List.nil_append, and_true, Nat.reduceAdd, Nat.add_zero, Nat.zero_add] at hOpen
    obtain ⟨u0, u1, u2, u3, u4, u5, u6, u7, u8, u9, uA, y0, y1, y2, y3, y4, y5, y6, y7, y8, y9, yA, yB⟩ := hOpen
    clear T4
    go_wp2
    go_ret
    exact ⟨ret_eq HR.out.symm, hB5⟩
set_option linter.unusedSimpArgs false in
set_option linter.unusedVariables false in
set_option maxRecDepth 100000 in
set_option maxHeartbeats 4000000 in
theorem rchk_HLT (ki : Int) (hk : fldC ki = some [72, 76, 84]) (h1 : (ki == 1) = false) (ak : Int) (ha la hi lo : Nat) (of mt co : Int) (cm : Bool) (a1 a2 : Option Addr) (n c m d : Nat) (its : List It) (w : World) (hits : Items w (.slice a2 m d) m its) (hm : m ≤ 1000) (hbn : ∀ t ∈ its, t.n ≤ 1000000) : Calls Try.prog 13 #[.agg #[.int .i64 ki, .int .i64 ak, .int .u16 ha, .int .u16 la, .int .u64 hi, .int .u64 lo, .int .i64 of, .int .i64 mt, .int .i64 co, .bool cm, .slice a1 n c, .slice a2 m d]] w fun e w' => e = .returned (.int .i64 (chkP ki ak ha la hi lo of mt co cm n m its)) ∧ Below w.heap.size w w' := by
  have hf : ∀ W, Calls Try.prog 28 #[.int .i64 ki] W (fun e w' => e = .returned (.agg #[.bool true, .bool false, .bool true, .bool true, .bool true, .bool false, .bool false, .bool false, .bool false, .bool false, .bool false]) ∧ Below W.heap.size W w') := fun W => by
    have h := rfields_any ki W
    rw [hk] at h
    exact h
  have hun := fun W => runu_HLT ki hk ak ha la hi lo of mt co cm a1 a2 n c m d W
  have hcl := fun W (h : Below w.heap.size w W) => rcheckList_any ki ak ha la hi lo of mt co cm a1 a2 n c m d its W (hits.below h) hm hbn
  have hB := (Below.refl w.heap.size w).alloc (Nat.le_refl _) (.cells #[.int .i64 ki, .int .i64 ak, .int .u16 ha, .int .u16 la, .int .u64 hi, .int .u64 lo, .int .i64 of, .int .i64 mt, .int .i64 co, .bool cm, .slice a1 n c, .slice a2 m d] 29)
  have T0 := cells_new w [.int .i64 ki, .int .i64 ak, .int .u16 ha, .int .u16 la, .int .u64 hi, .int .u64 lo, .int .i64 of, .int .i64 mt, .int .i64 co, .bool cm, .slice a1 n c, .slice a2 m d] 29
  obtain ⟨q, hq⟩ : ∃ q, anyC [72, 76, 84] (zB ak ha la hi lo of mt co cm n m) 10 = q := ⟨_, rfl⟩
  have h1' : (ki != 1) = true := by rw [bne, h1]; rfl
  have hchk : chkP ki ak ha la hi lo of mt co cm n m its = if q then 1 else errC [72, 76, 84] (cI ki ak ha la of mt co n its) 10 := by
    unfold chkP
    rw [hk]
    simp only
    rw [hq]
  rw [hchk]
  have herr : errC [72, 76, 84] (cI ki ak ha la of mt co n its) 10 = (if ¬ (ha : Int) = 0 then if ha ≤ la then 0 else 13 else 5) := by
    simp only [errC, cI, le, leF, unlessI, h1]
    first
    | (simp; done)
    | (simp
       repeat' split
       all_goals first | rfl | omega | (simp_all; done) | (simp_all; omega))
  rw [herr]
  rw [hq] at hun
  obtain ⟨RES, hRES⟩ : ∃ R : Int, R = if q = true then 1 else (if ¬ (ha : Int) = 0 then if ha ≤ la then 0 else 13 else 5) := ⟨_, rfl⟩
  rw [← hRES]
  have HRES := Lib.hid hRES
  clear hRES
  have hn0 : q = false → n = 0 := fun h => by
    rw [h] at hq
    simp [anyC, zB, le, leF] at hq
    omega
  have HF := Lib.hid hf
  have HUN := Lib.hid hun
  have HCL := Lib.hid hcl
  clear hf hun hcl hk hq hchk herr hits hbn
  go_enter Try.func13, Try.ntmps13
  go_upto_region 1 with fail
  generalize World.alloc _ _ = X at T0 hB ⊢
  have HT0 := Lib.hid T0
  have hOpen := T0
  simp only [Cells, blk, List.cons_append, List.nil_append, and_true, Nat.reduceAdd, Nat.add_zero, Nat.zero_add] at hOpen
  obtain ⟨y0, y1, y2, y3, y4, y5, y6, y7, y8, y9, yA, yB⟩ := hOpen
  clear T0
  go_wp2_with fail
  refine (HF.out _).mono ?_
  rintro e w1 ⟨rfl, hB1⟩
  have T1 := HT0.out.keep hB1
  have hB2 := hB.trans (hB1.mono hB.size)
  have hB3 := hB2.alloc hB2.size (.cells #[.bool true, .bool false, .bool true, .bool true, .bool true, .bool false, .bool false, .bool false, .bool false, .bool false, .bool false] 58)
  have T2 := (cells_new w1 [.bool true, .bool false, .bool true, .bool true, .bool true, .bool false, .bool false, .bool false, .bool false, .bool false, .bool false] 58).app (T1.keep ((Below.refl w1.heap.size w1).alloc (Nat.le_refl _) _))
  clear y0 y1 y2 y3 y4 y5 y6 y7 y8 y9 yA yB hB hB1 T1 HT0 hB2
  go_upto_region 2 with fail
  generalize World.alloc _ _ = Y at T2 hB3 ⊢
  have HT2 := Lib.hid T2
  have hOpen := T2
  simp only [Cells, blk, List.cons_append, List.nil_append, and_true, Nat.reduceAdd, Nat.add_zero, Nat.zero_add] at hOpen
  obtain ⟨u0, u1, u2, u3, u4, u5, u6, u7, u8, u9, uA, y0, y1, y2, y3, y4, y5, y6, y7, y8, y9, yA, yB⟩ := hOpen
  clear T2
  go_wp2_with fail
  refine (HUN.out _).mono ?_
  rintro e w4 ⟨rfl, hB4⟩
  have hB5 := hB3.trans (hB4.mono hB3.size)
  have T4 := HT2.out.keep hB4
  clear u0 u1 u2 u3 u4 u5 u6 u7 u8 u9 uA y0 y1 y2 y3 y4 y5 y6 y7 y8 y9 yA yB hB3 hB4 HT2
  cases q
  · have hres := HRES.out
    rw [if_neg (by decide)] at hres
    have HR := Lib.hid hres
    clear hres HRES
    have g5 : decide (512 < n) = false := by simp; have := hn0 rfl; omega
    have g5' : decide ((512 : Int) < (n : Int)) = false := by simp; have := hn0 rfl; omega
    clear hn0
    have hOpen := T4
    simp only [Cells, blk, List.cons_append, List.nil_append, and_true, Nat.reduceAdd, Nat.add_zero, Nat.zero_add] at hOpen
    obtain ⟨u0, u1, u2, u3, u4, u5, u6, u7, u8, u9, uA, y0, y1, y2, y3, y4, y5, y6, y7, y8, y9, yA, yB⟩ := hOpen
    clear T4
    go_wp2
    all_goals
      go_ret
      refine ⟨ret_eq ?_, hB5⟩
      clear HF HUN HCL hB5 u0 u1 u2 u3 u4 u5 u6 u7 u8 u9 uA y0 y1 y2 y3 y4 y5 y6 y7 y8 y9 yA yB
      first
      | exact HR.out.symm
      | (rw [HR.out]
         repeat' split
         all_goals first | rfl | omega | (simp_all; done) | (simp_all; omega))
  · have hres := HRES.out
    rw [if_pos rfl] at hres
    have HR := Lib.hid hres
    clear hres HRES
    clear HCL HF HUN
    have hOpen := T4
    simp only [Cells, blk, List.cons_append, List.nil_append, and_true, Nat.reduceAdd, Nat.add_zero, Nat.zero_add] at hOpen
    obtain ⟨u0, u1, u2, u3, u4, u5, u6, u7, u8, u9, uA, y0, y1, y2, y3, y4, y5, y6, y7, y8, y9, yA, yB⟩ := hOpen
    clear T4
    go_wp2
    go_ret
    exact ⟨ret_eq HR.out.symm, hB5⟩
end Go.Proofs.Ythnffdlnhfhabaa
namespace Go.Proofs.Ythnffdlnhfhabaa
open Go.RowKit

set_option linter.unusedSimpArgs false in
set_option linter.unusedVariables false in
set_option maxRecDepth 100000 in
set_option maxHeartbeats 4000000 in
theorem rchk_H (ki : Int) (hk : fldC ki = some [72]) (h1 : (ki == 1) = false) (ak : Int) (ha la hi lo : Nat) (of mt co : Int) (cm : Bool) (a1 a2 : Option Addr) (n c m d : Nat) (its : List It) (w : World) (hits : Items w (.slice a2 m d) m its) (hm : m ≤ 1000) (hbn : ∀ t ∈ its, t.n ≤ 1000000) : Calls Try.prog 13 #[.agg #[.int .i64 ki, .int .i64 ak, .int .u16 ha, .int .u16 la, .int .u64 hi, .int .u64 lo, .int .i64 of, .int .i64 mt, .int .i64 co, .bool cm, .slice a1 n c, .slice a2 m d]] w fun e w' => e = .returned (.int .i64 (chkP ki ak ha la hi lo of mt co cm n m its)) ∧ Below w.heap.size w w' := by
  have hf : ∀ W, Calls Try.prog 28 #[.int .i64 ki] W (fun e w' => e = .returned (.agg #[.bool true, .bool false, .bool true, .bool false, .bool false, .bool false, .bool false, .bool false, .bool false, .bool false, .bool false]) ∧ Below W.heap.size W w') := fun W => by
    have h := rfields_any ki W
    rw [hk] at h
    exact h
  have hun := fun W => runu_H ki hk ak ha la hi lo of mt co cm a1 a2 n c m d W
  have hcl := fun W (h : Below w.heap.size w W) => rcheckList_any ki ak ha la hi lo of mt co cm a1 a2 n c m d its W (hits.below h) hm hbn
  have hB := (Below.refl w.heap.size w).alloc (Nat.le_refl _) (.cells #[.int .i64 ki, .int .i64 ak, .int .u16 ha, .int .u16 la, .int .u64 hi, .int .u64 lo, .int .i64 of, .int .i64 mt, .int .i64 co, .bool cm, .slice a1 n c, .slice a2 m d] 29)
  have T0 := cells_new w [.int .i64 ki, .int .i64 ak, .int .u16 ha, .int .u16 la, .int .u64 hi, .int .u64 lo, .int .i64 of, .int .i64 mt, .int .i64 co, .bool cm, .slice a1 n c, .slice a2 m d] 29
  obtain ⟨q, hq⟩ : ∃ q, anyC [72] (zB ak ha la hi lo of mt co cm n m) 10 = q := ⟨_, rfl⟩
  have h1' : (ki != 1) = true := by rw [bne, h1]; rfl
  have hchk : chkP ki ak ha la hi lo of mt co cm n m its = if q then 1 else errC [72] (cI ki ak ha la of mt co n its) 10 := by
    unfold chkP
    rw [hk]
    simp only
    rw [hq]
  rw [hchk]
  have herr : errC [72] (cI ki ak ha la of mt co n its) 10 = (if ¬ (ha : Int) = 0 then 0 else 5) := by
    simp only [errC, cI, le, leF, unlessI, h1]
    first
    | (simp; done)
    | (simp
       repeat' split
       all_goals first | rfl | omega | (simp_all; done) | (simp_all; omega))
  rw [herr]
  rw [hq] at hun
  obtain ⟨RES, hRES⟩ : ∃ R : Int, R = if q = true then 1 else (if ¬ (ha : Int) = 0 then 0 else 5) := ⟨_, rfl⟩
  rw [← hRES]
  have HRES := Lib.hid hRES
  clear hRES
  have hn0 : q = false → n = 0 := fun h => by
    rw [h] at hq
    simp [anyC, zB, le, leF] at hq
    omega
  have HF := Lib.hid hf
  have HUN := Lib.hid hun
  have HCL := Lib.hid hcl
  clear hf hun hcl hk hq hchk herr hits hbn
  go_enter Try.func13, Try.ntmps13
  go_upto_region 1 with fail
  generalize World.alloc _ _ = X at T0 hB ⊢
  have HT0 := Lib.hid T0
  have hOpen := T0
  simp only [Cells, blk, List.cons_append, List.nil_append, and_true, Nat.reduceAdd, Nat.add_zero, Nat.zero_add] at hOpen
  obtain ⟨y0, y1, y2, y3, y4, y5, y6, y7, y8, y9, yA, yB⟩ := hOpen
  clear T0
  go_wp2_with fail
  refine (HF.out _).mono ?_
  rintro e w1 ⟨rfl, hB1⟩
  have T1 := HT0.out.keep hB1
  have hB2 := hB.trans (hB1.mono hB.size)
  have hB3 := hB2.alloc hB2.size (.cells #[.bool true, .bool false, .bool true, .bool false, .bool false, .bool false, .bool false, .bool false, .bool false, .bool false, .bool false] 58)
  have T2 := (cells_new w1 [.bool true, .bool false, .bool true, .bool false, .bool false, .bool false, .bool false, .bool false, .bool false, .bool false, .bool false] 58).app (T1.keep ((Below.refl w1.heap.size w1).alloc (Nat.le_refl _) _))
  clear y0 y1 y2 y3 y4 y5 y6 y7 y8 y9 yA yB hB hB1 T1 HT0 hB2
  go_upto_region 2 with fail
  generalize World.alloc _ _ = Y at T2 hB3 ⊢
  have HT2 := Lib.hid T2
  have hOpen := T2
  simp only [Cells, blk, List.cons_append, List.nil_append, and_true, Nat.reduceAdd, Nat.add_zero, Nat.zero_add] at hOpen
  obtain ⟨u0, u1, u2, u3, u4, u5, u6, u7, u8, u9, uA, y0, y1, y2, y3, y4, y5, y6, y7, y8, y9, yA, yB⟩ := hOpen
  clear T2
  go_wp2_with fail
  refine (HUN.out _).mono ?_
  rintro e w4 ⟨rfl, hB4⟩
  have hB5 := hB3.trans (hB4.mono hB3.size)
  have T4 := HT2.out.keep hB4
  clear u0 u1 u2 u3 u4 u5 u6 u7 u8 u9 uA y0 y1 y2 y3 y4 y5 y6 y7 y8 y9 yA yB hB3 hB4 HT2
  cases q
  · have hres := HRES.out
    rw [if_neg (by decide)] at hres
    have HR := Lib.hid hres
    clear hres HRES
    have g5 : decide (512 < n) = false := by simp; have := hn0 rfl; omega
    have g5' : decide ((512 : Int) < (n : Int)) = false := by simp; have := hn0 rfl; omega
    clear hn0
    have hOpen := T4
    simp only [Cells, blk, List.cons_append, List.nil_append, and_true, Nat.reduceAdd, Nat.add_zero, Nat.zero_add] at hOpen
    obtain ⟨u0, u1, u2, u3, u4, u5, u6, u7, u8, u9, uA, y0, y1, y2, y3, y4, y5, y6, y7, y8, y9, yA, yB⟩ := hOpen
    clear T4
    go_wp2
    all_goals
      go_ret
      refine ⟨ret_eq ?_, hB5⟩
      clear HF HUN HCL hB5 u0 u1 u2 u3 u4 u5 u6 u7 u8 u9 uA y0 y1 y2 y3 y4 y5 y6 y7 y8 y9 yA yB
      first
      | exact HR.out.symm
      | (rw [HR.out]
         repeat' split
         all_goals first | rfl | omega | (simp_all; done) | (simp_all; omega))
  · have hres := HRES.out
    rw [if_pos rfl] at hres
    have HR := Lib.hid hres
    clear hres HRES
    clear HCL HF HUN
    have hOpen := T4
    simp only [Cells, blk, List.cons_append, List.nil_append, and_true, Nat.reduceAdd, Nat.add_zero, Nat.zero_add] at hOpen
    obtain ⟨u0, u1, u2, u3, u4, u5, u6, u7, u8, u9, uA, y0, y1, y2, y3, y4, y5, y6, y7, y8, y9, yA, yB⟩ := hOpen
    clear T4
    go_wp2
    go_ret
    exact ⟨ret_eq HR.out.symm, hB5⟩
set_option linter.unusedSimpArgs false in
set_option linter.unusedVariables false in
set_option maxRecDepth 100000 in
set_option maxHeartbeats 4000000 in
theorem rchk_HO (ki : Int) (hk : fldC ki = some [72, 79]) (h1 : (ki == 1) = false) (ak : Int) (ha la hi lo : Nat) (of mt co : Int) (cm : Bool) (a1 a2 : Option Addr) (n c m d : Nat) (its : List It) (w : World) (hits : Items w (.slice a2 m d) m its) (hm : m ≤ 1000) (hbn : ∀ t ∈ its, t.n ≤ 1000000) : Calls Try.prog 13 #[.agg #[.int .i64 ki, .int .i64 ak, .int .u16 ha, .int .u16 la, .int .u64 hi, .int .u64 lo, .int .i64 of, .int .i64 mt, .int .i64 co, .bool cm, .slice a1 n c, .slice a2 m d]] w fun e w' => e = .returned (.int .i64 (chkP ki ak ha la hi lo of mt co cm n m its)) ∧ Below w.heap.size w w' := by
  have hf : ∀ W, Calls Try.prog 28 #[.int .i64 ki] W (fun e w' => e = .returned (.agg #[.bool true, .bool false, .bool true, .bool false, .bool false, .bool true, .bool false, .bool false, .bool false, .bool false, .bool false]) ∧ Below W.heap.size W w') := fun W => by
    have h := rfields_any ki W
    rw [hk] at h
    exact h
  have hun := fun W => runu_HO ki hk ak ha la hi lo of mt co cm a1 a2 n c m d W
  have hcl := fun W (h : Below w.heap.size w W) => rcheckList_any ki ak ha la hi lo of mt co cm a1 a2 n c m d its W (hits.below h) hm hbn
  have hB := (Below.refl w.heap.size w).alloc (Nat.le_refl _) (.cells #[.int .i64 ki, .int .i64 ak, .int .u16 ha, .int .u16 la, .int .u64 hi, .int .u64 lo, .int .i64 of, .int .i64 mt, .int .i64 co, .bool cm, .slice a1 n c, .slice a2 m d] 29)
  have T0 := cells_new w [.int .i64 ki, .int .i64 ak, .int .u16 ha, .int .u16 la, .int .u64 hi, .int .u64 lo, .int .i64 of, .int .i64 mt, .int .i64 co, .bool cm, .slice a1 n c, .slice a2 m d] 29
  obtain ⟨q, hq⟩ : ∃ q, anyC [72, 79] (zB ak ha la hi lo of mt co cm n m) 10 = q := ⟨_, rfl⟩
  have h1' : (ki != 1) = true := by rw [bne, h1]; rfl
  have hchk : chkP ki ak ha la hi lo of mt co cm n m its = if q then 1 else errC [72, 79] (cI ki ak ha la of mt co n its) 10 := by
    unfold chkP
    rw [hk]
    simp only
    rw [hq]
  rw [hchk]
  have herr : errC [72, 79] (cI ki ak ha la of mt co n its) 10 = (if ¬ (ha : Int) = 0 then if 0 ≤ of ∧ of ≤ 65535 then 0 else 5 else 5) := by
    simp only [errC, cI, le, leF, unlessI, h1]
    first
    | (simp; done)
    | (simp
       repeat' split
       all_goals first | rfl | omega | (simp_all; done) | (simp_all; omega))
  rw [herr]
  rw [hq] at hun
  obtain ⟨RES, hRES⟩ : ∃ R : Int, R = if q = true then 1 else (if ¬ (ha : Int) = 0 then if 0 ≤ of ∧ of ≤ 65535 then 0 else 5 else 5) := ⟨_, rfl⟩
  rw [← hRES]
  have HRES := Lib.hid hRES
  clear hRES
  have hn0 : q = false → n = 0 := fun h => by
    rw [h] at hq
    simp [anyC, zB, le, leF] at hq
    omega
  have HF := Lib.hid hf
  have HUN := Lib.hid hun
  have HCL := Lib.hid hcl
  clear hf hun hcl hk hq hchk herr hits hbn
  go_enter Try.func13, Try.ntmps13
  go_upto_region 1 with fail
  generalize World.alloc _ _ = X at T0 hB ⊢
  have HT0 := Lib.hid T0
  have hOpen := T0
  simp only [Cells, blk, List.cons_append, List.nil_append, and_true, Nat.reduceAdd, Nat.add_zero, Nat.zero_add] at hOpen
  obtain ⟨y0, y1, y2, y3, y4, y5, y6, y7, y8, y9, yA, yB⟩ := hOpen
  clear T0
  go_wp2_with fail
  refine (HF.out _).mono ?_
  rintro e w1 ⟨rfl, hB1⟩
  have T1 := HT0.out.keep hB1
  have hB2 := hB.trans (hB1.mono hB.size)
  have hB3 := hB2.alloc hB2.size (.cells #[.bool true, .bool false, .bool true, .bool false, .bool false, .bool true, .bool false, .bool false, .bool false, .bool false, .bool false] 58)
  have T2 := (cells_new w1 [.bool true, .bool false, .bool true, .bool false, .bool false, .bool true, .bool false, .bool false, .bool false, .bool false, .bool false] 58).app (T1.keep ((Below.refl w1.heap.size w1).alloc (Nat.le_refl _) _))
  clear y0 y1 y2 y3 y4 y5 y6 y7 y8 y9 yA yB hB hB1 T1 HT0 hB2
  go_upto_region 2 with fail
  generalize World.alloc _ _ = Y at T2 hB3 ⊢
  have HT2 := Lib.hid T2
  have hOpen := T2
  simp only [Cells, blk, List.cons_append, List.nil_append, and_true, Nat.reduceAdd, Nat.add_zero, Nat.zero_add] at hOpen
  obtain ⟨u0, u1, u2, u3, u4, u5, u6, u7, u8, u9, uA, y0, y1, y2, y3, y4, y5, y6, y7, y8, y9, yA, yB⟩ := hOpen
  clear T2
  go_wp2_with fail
  refine (HUN.out _).mono ?_
  rintro e w4 ⟨rfl, hB4⟩
  have hB5 := hB3.trans (hB4.mono hB3.size)
  have T4 := HT2.out.keep hB4
  clear u0 u1 u2 u3 u4 u5 u6 u7 u8 u9 uA y0 y1 y2 y3 y4 y5 y6 y7 y8 y9 yA yB hB3 hB4 HT2
  cases q
  · have hres := HRES.out
    rw [if_neg (by decide)] at hres
    have HR := Lib.hid hres
    clear hres HRES
    have g5 : decide (512 < n) = false := by simp; have := hn0 rfl; omega
    have g5' : decide ((512 : Int) < (n : Int)) = false := by simp; have := hn0 rfl; omega
    clear hn0
    have hOpen := T4
    simp only [Cells, blk, List.cons_append, List.nil_append, and_true, Nat.reduceAdd, Nat.add_zero, Nat.zero_add] at hOpen
    obtain ⟨u0, u1, u2, u3, u4, u5, u6, u7, u8, u9, uA, y0, y1, y2, y3, y4, y5, y6, y7, y8, y9, yA, yB⟩ := hOpen
    clear T4
    go_wp2
    all_goals
      go_ret
      refine ⟨ret_eq ?_, hB5⟩
      clear HF HUN HCL hB5 u0 u1 u2 u3 u4 u5 u6 u7 u8 u9 uA y0 y1 y2 y3 y4 y5 y6 y7 y8 y9 yA yB
      first
      | exact HR.out.symm
      | (rw [HR.out]
         repeat' split
         all_goals first | rfl | omega | (simp_all; done) | (simp_all; omega))
  · have hres := HRES.out
    rw [if_pos rfl] at hres
    have HR := Lib.hid hres
    clear hres HRES
    clear HCL HF HUN
    have hOpen := T4
    simp only [Cells, blk, List.cons_append, List.nil_append, and_true, Nat.reduceAdd, Nat.add_zero, Nat.zero_add] at hOpen
    obtain ⟨u0, u1, u2, u3, u4, u5, u6, u7, u8, u9, uA, y0, y1, y2, y3, y4, y5, y6, y7, y8, y9, yA, yB⟩ := hOpen
    clear T4
    go_wp2
    go_ret
    exact ⟨ret_eq HR.out.symm, hB5⟩
set_option linter.unusedSimpArgs false in
set_option linter.unusedVariables false in
set_option maxRecDepth 100000 in
set_option maxHeartbeats 4000000 in
theorem rchk_V (ki : Int) (hk : fldC ki = some [86]) (h1 : (ki == 1) = false) (ak : Int) (ha la hi lo : Nat) (of mt co : Int) (cm : Bool) (a1 a2 : Option Addr) (n c m d : Nat) (its : List It) (w : World) (hits : Items w (.slice a2 m d) m its) (hm : m ≤ 1000) (hbn : ∀ t ∈ its, t.n ≤ 1000000) : Calls Try.prog 13 #[.agg #[.int .i64 ki, .int .i64 ak, .int .u16 ha, .int .u16 la, .int .u64 hi, .int .u64 lo, .int .i64 of, .int .i64 mt, .int .i64 co, .bool cm, .slice a1 n c, .slice a2 m d]] w fun e w' => e = .returned (.int .i64 (chkP ki ak ha la hi lo of mt co cm n m its)) ∧ Below w.heap.size w w' := by
  have hf : ∀ W, Calls Try.prog 28 #[.int .i64 ki] W (fun e w' => e = .returned (.agg #[.bool true, .bool false, .bool false, .bool false, .bool false, .bool false, .bool false, .bool false, .bool false, .bool true, .bool false]) ∧ Below W.heap.size W w') := fun W => by
    have h := rfields_any ki W
    rw [hk] at h
    exact h
  have hun := fun W => runu_V ki hk ak ha la hi lo of mt co cm a1 a2 n c m d W
  have hcl := fun W (h : Below w.heap.size w W) => rcheckList_any ki ak ha la hi lo of mt co cm a1 a2 n c m d its W (hits.below h) hm hbn
  have hB := (Below.refl w.heap.size w).alloc (Nat.le_refl _) (.cells #[.int .i64 ki, .int .i64 ak, .int .u16 ha, .int .u16 la, .int .u64 hi, .int .u64 lo, .int .i64 of, .int .i64 mt, .int .i64 co, .bool cm, .slice a1 n c, .slice a2 m d] 29)
  have T0 := cells_new w [.int .i64 ki, .int .i64 ak, .int .u16 ha, .int .u16 la, .int .u64 hi, .int .u64 lo, .int .i64 of, .int .i64 mt, .int .i64 co, .bool cm, .slice a1 n c, .slice a2 m d] 29
  obtain ⟨q, hq⟩ : ∃ q, anyC [86] (zB ak ha la hi lo of mt co cm n m) 10 = q := ⟨_, rfl⟩
  have h1' : (ki != 1) = true := by rw [bne, h1]; rfl
  have hchk : chkP ki ak ha la hi lo of mt co cm n m its = if q then 1 else errC [86] (cI ki ak ha la of mt co n its) 10 := by
    unfold chkP
    rw [hk]
    simp only
    rw [hq]
  rw [hchk]
  have herr : errC [86] (cI ki ak ha la of mt co n its) 10 = (if n ≤ 512 then 0 else 4) := by
    simp only [errC, cI, le, leF, unlessI, h1]
    first
    | (simp; done)
    | (simp
       repeat' split
       all_goals first | rfl | omega | (simp_all; done) | (simp_all; omega))
  rw [herr]
  rw [hq] at hun
  obtain ⟨RES, hRES⟩ : ∃ R : Int, R = if q = true then 1 else (if n ≤ 512 then 0 else 4) := ⟨_, rfl⟩
  rw [← hRES]
  have HRES := Lib.hid hRES
  clear hRES
  have HF := Lib.hid hf
  have HUN := Lib.hid hun
  have HCL := Lib.hid hcl
  clear hf hun hcl hk hq hchk herr hits hbn
  go_enter Try.func13, Try.ntmps13
  go_upto_region 1 with fail
  generalize World.alloc _ _ = X at T0 hB ⊢
  have HT0 := Lib.hid T0
  have hOpen := T0
  simp only [Cells, blk, List.cons_append, List.nil_append, and_true, Nat.reduceAdd, Nat.add_zero, Nat.zero_add] at hOpen
  obtain ⟨y0, y1, y2, y3, y4, y5, y6, y7, y8, y9, yA, yB⟩ := hOpen
  clear T0
  go_wp2_with fail
  refine (HF.out _).mono ?_
  rintro e w1 ⟨rfl, hB1⟩
  have T1 := HT0.out.keep hB1
  have hB2 := hB.trans (hB1.mono hB.size)
  have hB3 := hB2.alloc hB2.size (.cells #[.bool true, .bool false, .bool false, .bool false, .bool false, .bool false, .bool false, .bool false, .bool false, .bool true, .bool false] 58)
  have T2 := (cells_new w1 [.bool true, .bool false, .bool false, .bool false, .bool false, .bool false, .bool false, .bool false, .bool false, .bool true, .bool false] 58).app (T1.keep ((Below.refl w1.heap.size w1).alloc (Nat.le_refl _) _))
  clear y0 y1 y2 y3 y4 y5 y6 y7 y8 y9 yA yB hB hB1 T1 HT0 hB2
  go_upto_region 2 with fail
  generalize World.alloc _ _ = Y at T2 hB3 ⊢
  have HT2 := Lib.hid T2
  have hOpen := T2
  simp only [Cells, blk, List.cons_append, List.nil_append, and_true, Nat.reduceAdd, Nat.add_zero, Nat.zero_add] at hOpen
  obtain ⟨u0, u1, u2, u3, u4, u5, u6, u7, u8, u9, uA, y0, y1, y2, y3, y4, y5, y6, y7, y8, y9, yA, yB⟩ := hOpen
  clear T2
  go_wp2_with fail
  refine (HUN.out _).mono ?_
  rintro e w4 ⟨rfl, hB4⟩
  have hB5 := hB3.trans (hB4.mono hB3.size)
  have T4 := HT2.out.keep hB4
  clear u0 u1 u2 u3 u4 u5 u6 u7 u8 u9 uA y0 y1 y2 y3 y4 y5 y6 y7 y8 y9 yA yB hB3 hB4 HT2
  cases q
  · have hres := HRES.out
    rw [if_neg (by decide)] at hres
    have HR := Lib.hid hres
    clear hres HRES
    have hOpen := T4
    simp only [Cells, blk, List.cons_append, List.nil_append, and_true, Nat.reduceAdd, Nat.add_zero, Nat.zero_add] at hOpen
    obtain ⟨u0, u1, u2, u3, u4, u5, u6, u7, u8, u9, uA, y0, y1, y2, y3, y4, y5, y6, y7, y8, y9, yA, yB⟩ := hOpen
    clear T4
    go_wp2
    all_goals
      go_ret
      refine ⟨ret_eq ?_, hB5⟩
      clear HF HUN HCL hB5 u0 u1 u2 u3 u4 u5 u6 u7 u8 u9 uA y0 y1 y2 y3 y4 y5 y6 y7 y8 y9 yA yB
      first
      | exact HR.out.symm
      | (rw [HR.out]
         repeat' split
         all_goals first | rfl | omega | (simp_all; done) | (simp_all; omega))
  · have hres := HRES.out
    rw [if_pos rfl] at hres
    have HR := Lib.hid hres
    clear hres HRES
    clear HCL HF HUN
    have hOpen := T4
    simp only [Cells, blk, List.cons_append, List.nil_append, and_true, Nat.reduceAdd, Nat.add_zero, Nat.zero_add] at hOpen
    obtain ⟨u0, u1, u2, u3, u4, u5, u6, u7, u8, u9, uA, y0, y1, y2, y3, y4, y5, y6, y7, y8, y9, yA, yB⟩ := hOpen
    clear T4
    go_wp2
    go_ret
    exact ⟨ret_eq HR.out.symm, hB5⟩
set_option linter.unusedSimpArgs false in
set_option linter.unusedVariables false in
set_option maxRecDepth 100000 in
set_option maxHeartbeats 4000000 in
theorem rchk_HV (ki : Int) (hk : fldC ki = some [72, 86]) (h1 : (ki == 1) = false) (ak : Int) (ha la hi lo : Nat) (of mt co : Int) (cm : Bool) (a1 a2 : Option Addr) (n c m d : Nat) (its : List It) (w : World) (hits : Items w (.slice a2 m d) m its) (hm : m ≤ 1000) (hbn : ∀ t ∈ its, t.n ≤ 1000000) : Calls Try.prog 13 #[.agg #[.int .i64 ki, .int .i64 ak, .int .u16 ha, .int .u16 la, .int .u64 hi, .int .u64 lo, .int .i64 of, .int .i64 mt, .int .i64 co, .bool cm, .slice a1 n c, .slice a2 m d]] w fun e w' => e = .returned (.int .i64 (chkP ki ak ha la hi lo of mt co cm n m its)) ∧ Below w.heap.size w w' := by
  have hf : ∀ W, Calls Try.prog 28 #[.int .i64 ki] W (fun e w' => e = .returned (.agg #[.bool true, .bool false, .bool true, .bool false, .bool false, .bool false, .bool false, .bool false, .bool false, .bool true, .bool false]) ∧ Below W.heap.size W w') := fun W => by
    have h := rfields_any ki W
    rw [hk] at h
    exact h
  have hun := fun W => runu_HV ki hk ak ha la hi lo of mt co cm a1 a2 n c m d W
  have hcl := fun W (h : Below w.heap.size w W) => rcheckList_any ki ak ha la hi lo of mt co cm a1 a2 n c m d its W (hits.below h) hm hbn
  have hB := (Below.refl w.heap.size w).alloc (Nat.le_refl _) (.cells #[.int .i64 ki, .int .i64 ak, .int .u16 ha, .int .u16 la, .int .u64 hi, .int .u64 lo, .int .i64 of, .int .i64 mt, .int .i64 co, .bool cm, .slice a1 n c, .slice a2 m d] 29)
  have T0 := cells_new w [.int .i64 ki, .int .i64 ak, .int .u16 ha, .int .u16 la, .int .u64 hi, .int .u64 lo, .int .i64 of, .int .i64 mt, .int .i64 co, .bool cm, .slice a1 n c, .slice a2 m d] 29
  obtain ⟨q, hq⟩ : ∃ q, anyC [72, 86] (zB ak ha la hi lo of mt co cm n m) 10 = q := ⟨_, rfl⟩
  have h1' : (ki != 1) = true := by rw [bne, h1]; rfl
  have hchk : chkP ki ak ha la hi lo of mt co cm n m its = if q then 1 else errC [72, 86] (cI ki ak ha la of mt co n its) 10 := by
    unfold chkP
    rw [hk]
    simp only
    rw [hq]
  rw [hchk]
  have herr : errC [72, 86] (cI ki ak ha la of mt co n its) 10 = (if ¬ (ha : Int) = 0 then if n ≤ 512 then 0 else 4 else 5) := by
    simp only [errC, cI, le, leF, unlessI, h1]
    first
    | (simp; done)
    | (simp
       repeat' split
       all_goals first | rfl | omega | (simp_all; done) | (simp_all; omega))
  rw [herr]
  rw [hq] at hun
  obtain ⟨RES, hRES⟩ : ∃ R : Int, R = if q = true then 1 else (if ¬ (ha : Int) = 0 then if n ≤ 512 then 0 else 4 else 5) := ⟨_, rfl⟩
  rw [← hRES]
  have HRES := Lib.hid hRES
  clear hRES
  have HF := Lib.hid hf
  have HUN := Lib.hid hun
  have HCL := Lib.hid hcl
  clear hf hun hcl hk hq hchk herr hits hbn
  go_enter Try.func13, Try.ntmps13
  go_upto_region 1 with fail
  generalize World.alloc _ _ = X at T0 hB ⊢
  have HT0 := Lib.hid T0
  have hOpen := T0
  simp only [Cells, blk, List.cons_append, List.nil_append, and_true, Nat.reduceAdd, Nat.add_zero, Nat.zero_add] at hOpen
  obtain ⟨y0, y1, y2, y3, y4, y5, y6, y7, y8, y9, yA, yB⟩ := hOpen
  clear T0
  go_wp2_with fail
  refine (HF.out _).mono ?_
  rintro e w1 ⟨rfl, hB1⟩
  have T1 := HT0.out.keep hB1
  have hB2 := hB.trans (hB1.mono hB.size)
  have hB3 := hB2.alloc hB2.size (.cells #[.bool true, .bool false, .bool true, .bool false, .bool false, .bool false, .bool false, .bool false, .bool false, .bool true, .bool false] 58)
  have T2 := (cells_new w1 [.bool true, .bool false, .bool true, .bool false, .bool false, .bool false, .bool false, .bool false, .bool false, .bool true, .bool false] 58).app (T1.keep ((Below.refl w1.heap.size w1).alloc (Nat.le_refl _) _))
  clear y0 y1 y2 y3 y4 y5 y6 y7 y8 y9 yA yB hB hB1 T1 HT0 hB2
  go_upto_region 2 with fail
  generalize World.alloc _ _ = Y at T2 hB3 ⊢
  have HT2 := Lib.hid T2
  have hOpen := T2
  simp only [Cells, blk, List.cons_append, List.nil_append, and_true, Nat.reduceAdd, Nat.add_zero, Nat.zero_add] at hOpen
  obtain ⟨u0, u1, u2, u3, u4, u5, u6, u7, u8, u9, uA, y0, y1, y2, y3, y4, y5, y6, y7, y8, y9, yA, yB⟩ := hOpen
  clear T2
  go_wp2_with fail
  refine (HUN.out _).mono ?_
  rintro e w4 ⟨rfl, hB4⟩
  have hB5 := hB3.trans (hB4.mono hB3.size)
  have T4 := HT2.out.keep hB4
  clear u0 u1 u2 u3 u4 u5 u6 u7 u8 u9 uA y0 y1 y2 y3 y4 y5 y6 y7 y8 y9 yA yB hB3 hB4 HT2
  cases q
  · have hres := HRES.out
    rw [if_neg (by decide)] at hres
    have HR := Lib.hid hres
    clear hres HRES
    have hOpen := T4
    simp only [Cells, blk, List.cons_append, List.nil_append, and_true, Nat.reduceAdd, Nat.add_zero, Nat.zero_add] at hOpen
    obtain ⟨u0, u1, u2, u3, u4, u5, u6, u7, u8, u9, uA, y0, y1, y2, y3, y4, y5, y6, y7, y8, y9, yA, yB⟩ := hOpen
    clear T4
    go_wp2
    all_goals
      go_ret
      refine ⟨ret_eq ?_, hB5⟩
      clear HF HUN HCL hB5 u0 u1 u2 u3 u4 u5 u6 u7 u8 u9 uA y0 y1 y2 y3 y4 y5 y6 y7 y8 y9 yA yB
      first
      | exact HR.out.symm
      | (rw [HR.out]
         repeat' split
         all_goals first | rfl | omega | (simp_all; done) | (simp_all; omega))
  · have hres := HRES.out
    rw [if_pos rfl] at hres
    have HR := Lib.hid hres
    clear hres HRES
    clear HCL HF HUN
    have hOpen := T4
    simp only [Cells, blk, List.cons_append, List.nil_append, and_true, Nat.reduceAdd, Nat.add_zero, Nat.zero_add] at hOpen
    obtain ⟨u0, u1, u2, u3, u4, u5, u6, u7, u8, u9, uA, y0, y1, y2, y3, y4, y5, y6, y7, y8, y9, yA, yB⟩ := hOpen
    clear T4
    go_wp2
    go_ret
    exact ⟨ret_eq HR.out.symm, hB5⟩
end Go.Proofs.Ythnffdlnhfhabaa
namespace Go.Proofs.Ythnffdlnhfhabaa
open Go.RowKit

set_option linter.unusedSimpArgs false in
set_option linter.unusedVariables false in
set_option maxRecDepth 100000 in
set_option maxHeartbeats 4000000 in
theorem rchk_HOV (ki : Int) (hk : fldC ki = some [72, 79, 86]) (h1 : (ki == 1) = false) (ak : Int) (ha la hi lo : Nat) (of mt co : Int) (cm : Bool) (a1 a2 : Option Addr) (n c m d : Nat) (its : List It) (w : World) (hits : Items w (.slice a2 m d) m its) (hm : m ≤ 1000) (hbn : ∀ t ∈ its, t.n ≤ 1000000) : Calls Try.prog 13 #[.agg #[.int .i64 ki, .int .i64 ak, .int .u16 ha, .int .u16 la, .int .u64 hi, .int .u64 lo, .int .i64 of, .int .i64 mt, .int .i64 co, .bool cm, .slice a1 n c, .slice a2 m d]] w fun e w' => e = .returned (.int .i64 (chkP ki ak ha la hi lo of mt co cm n m its)) ∧ Below w.heap.size w w' := by
  have hf : ∀ W, Calls Try.prog 28 #[.int .i64 ki] W (fun e w' => e = .returned (.agg #[.bool true, .bool false, .bool true, .bool false, .bool false, .bool true, .bool false, .bool false, .bool false, .bool true, .bool false]) ∧ Below W.heap.size W w') := fun W => by
    have h := rfields_any ki W
    rw [hk] at h
    exact h
  have hun := fun W => runu_HOV ki hk ak ha la hi lo of mt co cm a1 a2 n c m d W
  have hcl := fun W (h : Below w.heap.size w W) => rcheckList_any ki ak ha la hi lo of mt co cm a1 a2 n c m d its W (hits.below h) hm hbn
  have hB := (Below.refl w.heap.size w).alloc (Nat.le_refl _) (.cells #[.int .i64 ki, .int .i64 ak, .int .u16 ha, .int .u16 la, .int .u64 hi, .int .u64 lo, .int .i64 of, .int .i64 mt, .int .i64 co, .bool cm, .slice a1 n c, .slice a2 m d] 29)
  have T0 := cells_new w [.int .i64 ki, .int .i64 ak, .int .u16 ha, .int .u16 la, .int .u64 hi, .int .u64 lo, .int .i64 of, .int .i64 mt, .int .i64 co, .bool cm, .slice a1 n c, .slice a2 m d] 29
  obtain ⟨q, hq⟩ : ∃ q, anyC [72, 79, 86] (zB ak ha la hi lo of mt co cm n m) 10 = q := ⟨_, rfl⟩
  have h1' : (ki != 1) = true := by rw [bne, h1]; rfl
  have hchk : chkP ki ak ha la hi lo of mt co cm n m its = if q then 1 else errC [72, 79, 86] (cI ki ak ha la of mt co n its) 10 := by
    unfold chkP
    rw [hk]
    simp only
    rw [hq]
  rw [hchk]
  have herr : errC [72, 79, 86] (cI ki ak ha la of mt co n its) 10 = (if ¬ (ha : Int) = 0 then if 0 ≤ of ∧ of ≤ 65535 then if n ≤ 512 then 0 else 4 else 5 else 5) := by
    simp only [errC, cI, le, leF, unlessI, h1]
    first
    | (simp; done)
    | (simp
       repeat' split
       all_goals first | rfl | omega | (simp_all; done) | (simp_all; omega))
  rw [herr]
  rw [hq] at hun
  obtain ⟨RES, hRES⟩ : ∃ R : Int, R = if q = true then 1 else (if ¬ (ha : Int) = 0 then if 0 ≤ of ∧ of ≤ 65535 then if n ≤ 512 then 0 else 4 else 5 else 5) := ⟨_, rfl⟩
  rw [← hRES]
  have HRES := Lib.hid hRES
  clear hRES
  have HF := Lib.hid hf
  have HUN := Lib.hid hun
  have HCL := Lib.hid hcl
  clear hf hun hcl hk hq hchk herr hits hbn
  go_enter Try.func13, Try.ntmps13
  go_upto_region 1 with fail
  generalize World.alloc _ _ = X at T0 hB ⊢
  have HT0 := Lib.hid T0
  have hOpen := T0
  simp only [Cells, blk, List.cons_append, List.nil_append, and_true, Nat.reduceAdd, Nat.add_zero, Nat.zero_add] at hOpen
  obtain ⟨y0, y1, y2, y3, y4, y5, y6, y7, y8, y9, yA, yB⟩ := hOpen
  clear T0
  go_wp2_with fail
  refine (HF.out _).mono ?_
  rintro e w1 ⟨rfl, hB1⟩
  have T1 := HT0.out.keep hB1
  have hB2 := hB.trans (hB1.mono hB.size)
  have hB3 := hB2.alloc hB2.size (.cells #[.bool true, .bool false, .bool true, .bool false, .bool false, .bool true, .bool false, .bool false, .bool false, .bool true, .bool false] 58)
  have T2 := (cells_new w1 [.bool true, .bool false, .bool true, .bool false, .bool false, .bool true, .bool false, .bool false, .bool false, .bool true, .bool false] 58).app (T1.keep ((Below.refl w1.heap.size w1).alloc (Nat.le_refl _) _))
  clear y0 y1 y2 y3 y4 y5 y6 y7 y8 y9 yA yB hB hB1 T1 HT0 hB2
  go_upto_region 2 with fail
  generalize World.alloc _ _ = Y at T2 hB3 ⊢
  have HT2 := Lib.hid T2
  have hOpen := T2
  simp only [Cells, blk, List.cons_append, List.nil_append, and_true, Nat.reduceAdd, Nat.add_zero, Nat.zero_add] at hOpen
  obtain ⟨u0, u1, u2, u3, u4, u5, u6, u7, u8, u9, uA, y0, y1, y2, y3, y4, y5, y6, y7, y8, y9, yA, yB⟩ := hOpen
  clear T2
  go_wp2_with fail
  refine (HUN.out _).mono ?_
  rintro e w4 ⟨rfl, hB4⟩
  have hB5 := hB3.trans (hB4.mono hB3.size)
  have T4 := HT2.out.keep hB4
  clear u0 u1 u2 u3 u4 u5 u6 u7 u8 u9 uA y0 y1 y2 y3 y4 y5 y6 y7 y8 y9 yA yB hB3 hB4 HT2
  cases q
  · have hres := HRES.out
    rw [if_neg (by decide)] at hres
    have HR := Lib.hid hres
    clear hres HRES
    have hOpen := T4
    simp only [Cells, blk, List.cons_append, List.nil_append, and_true, Nat.reduceAdd, Nat.add_zero, Nat.zero_add] at hOpen
    obtain ⟨u0, u1, u2, u3, u4, u5, u6, u7, u8, u9, uA, y0, y1, y2, y3, y4, y5, y6, y7, y8, y9, yA, yB⟩ := hOpen
    clear T4
    go_wp2
    all_goals
      go_ret
      refine ⟨ret_eq ?_, hB5⟩
      clear HF HUN HCL hB5 u0 u1 u2 u3 u4 u5 u6 u7 u8 u9 uA y0 y1 y2 y3 y4 y5 y6 y7 y8 y9 yA yB
      first
      | exact HR.out.symm
      | (rw [HR.out]
         repeat' split
         all_goals first | rfl | omega | (simp_all; done) | (simp_all; omega))
  · have hres := HRES.out
    rw [if_pos rfl] at hres
    have HR := Lib.hid hres
    clear hres HRES
    clear HCL HF HUN
    have hOpen := T4
    simp only [Cells, blk, List.cons_append, List.nil_append, and_true, Nat.reduceAdd, Nat.add_zero, Nat.zero_add] at hOpen
    obtain ⟨u0, u1, u2, u3, u4, u5, u6, u7, u8, u9, uA, y0, y1, y2, y3, y4, y5, y6, y7, y8, y9, yA, yB⟩ := hOpen
    clear T4
    go_wp2
    go_ret
    exact ⟨ret_eq HR.out.symm, hB5⟩
set_option linter.unusedSimpArgs false in
set_option linter.unusedVariables false in
set_option maxRecDepth 100000 in
set_option maxHeartbeats 4000000 in
theorem rchk_X (ki : Int) (hk : fldC ki = some [88]) (h1 : (ki == 1) = false) (ak : Int) (ha la hi lo : Nat) (of mt co : Int) (cm : Bool) (a1 a2 : Option Addr) (n c m d : Nat) (its : List It) (w : World) (hits : Items w (.slice a2 m d) m its) (hm : m ≤ 1000) (hbn : ∀ t ∈ its, t.n ≤ 1000000) : Calls Try.prog 13 #[.agg #[.int .i64 ki, .int .i64 ak, .int .u16 ha, .int .u16 la, .int .u64 hi, .int .u64 lo, .int .i64 of, .int .i64 mt, .int .i64 co, .bool cm, .slice a1 n c, .slice a2 m d]] w fun e w' => e = .returned (.int .i64 (chkP ki ak ha la hi lo of mt co cm n m its)) ∧ Below w.heap.size w w' := by
  have hf : ∀ W, Calls Try.prog 28 #[.int .i64 ki] W (fun e w' => e = .returned (.agg #[.bool true, .bool false, .bool false, .bool false, .bool false, .bool false, .bool false, .bool false, .bool true, .bool false, .bool false]) ∧ Below W.heap.size W w') := fun W => by
    have h := rfields_any ki W
    rw [hk] at h
    exact h
  have hun := fun W => runu_X ki hk ak ha la hi lo of mt co cm a1 a2 n c m d W
  have hcl := fun W (h : Below w.heap.size w W) => rcheckList_any ki ak ha la hi lo of mt co cm a1 a2 n c m d its W (hits.below h) hm hbn
  have hB := (Below.refl w.heap.size w).alloc (Nat.le_refl _) (.cells #[.int .i64 ki, .int .i64 ak, .int .u16 ha, .int .u16 la, .int .u64 hi, .int .u64 lo, .int .i64 of, .int .i64 mt, .int .i64 co, .bool cm, .slice a1 n c, .slice a2 m d] 29)
  have T0 := cells_new w [.int .i64 ki, .int .i64 ak, .int .u16 ha, .int .u16 la, .int .u64 hi, .int .u64 lo, .int .i64 of, .int .i64 mt, .int .i64 co, .bool cm, .slice a1 n c, .slice a2 m d] 29
  obtain ⟨q, hq⟩ : ∃ q, anyC [88] (zB ak ha la hi lo of mt co cm n m) 10 = q := ⟨_, rfl⟩
  have h1' : (ki != 1) = true := by rw [bne, h1]; rfl
  have hchk : chkP ki ak ha la hi lo of mt co cm n m its = if q then 1 else errC [88] (cI ki ak ha la of mt co n its) 10 := by
    unfold chkP
    rw [hk]
    simp only
    rw [hq]
  rw [hchk]
  have herr : errC [88] (cI ki ak ha la of mt co n its) 10 = (0) := by
    simp only [errC, cI, le, leF, unlessI, h1]
    first
    | (simp; done)
    | (simp
       repeat' split
       all_goals first | rfl | omega | (simp_all; done) | (simp_all; omega))
  rw [herr]
  rw [hq] at hun
  obtain ⟨RES, hRES⟩ : ∃ R : Int, R = if q = true then 1 else (0) := ⟨_, rfl⟩
  rw [← hRES]
  have HRES := Lib.hid hRES
  clear hRES
  have hn0 : q = false → n = 0 := fun h => by
    rw [h] at hq
    simp [anyC, zB, le, leF] at hq
    omega
  have HF := Lib.hid hf
  have HUN := Lib.hid hun
  have HCL := Lib.hid hcl
  clear hf hun hcl hk hq hchk herr hits hbn
  go_enter Try.func13, Try.ntmps13
  go_upto_region 1 with fail
  generalize World.alloc _ _ = X at T0 hB ⊢
  have HT0 := Lib.hid T0
  have hOpen := T0
  simp only [Cells, blk, List.cons_append, List.nil_append, and_true, Nat.reduceAdd, Nat.add_zero, Nat.zero_add] at hOpen
  obtain ⟨y0, y1, y2, y3, y4, y5, y6, y7, y8, y9, yA, yB⟩ := hOpen
  clear T0
  go_wp2_with fail
  refine (HF.out _).mono ?_
  rintro e w1 ⟨rfl, hB1⟩
  have T1 := HT0.out.keep hB1
  have hB2 := hB.trans (hB1.mono hB.size)
  have hB3 := hB2.alloc hB2.size (.cells #[.bool true, .bool false, .bool false, .bool false, .bool false, .bool false, .bool false, .bool false, .bool true, .bool false, .bool false] 58)
  have T2 := (cells_new w1 [.bool true, .bool false, .bool false, .bool false, .bool false, .bool false, .bool false, .bool false, .bool true, .bool false, .bool false] 58).app (T1.keep ((Below.refl w1.heap.size w1).alloc (Nat.le_refl _) _))
  clear y0 y1 y2 y3 y4 y5 y6 y7 y8 y9 yA yB hB hB1 T1 HT0 hB2
  go_upto_region 2 with fail
  generalize World.alloc _ _ = Y at T2 hB3 ⊢
  have HT2 := Lib.hid T2
  have hOpen := T2
  simp only [Cells, blk, List.cons_append, List.nil_append, and_true, Nat.reduceAdd, Nat.add_zero, Nat.zero_add] at hOpen
  obtain ⟨u0, u1, u2, u3, u4, u5, u6, u7, u8, u9, uA, y0, y1, y2, y3, y4, y5, y6, y7, y8, y9, yA, yB⟩ := hOpen
  clear T2
  go_wp2_with fail
  refine (HUN.out _).mono ?_
  rintro e w4 ⟨rfl, hB4⟩
  have hB5 := hB3.trans (hB4.mono hB3.size)
  have T4 := HT2.out.keep hB4
  clear u0 u1 u2 u3 u4 u5 u6 u7 u8 u9 uA y0 y1 y2 y3 y4 y5 y6 y7 y8 y9 yA yB hB3 hB4 HT2
  cases q
  · have hres := HRES.out
    rw [if_neg (by decide)] at hres
    have HR := Lib.hid hres
    clear hres HRES
    have g5 : decide (512 < n) = false := by simp; have := hn0 rfl; omega
    have g5' : decide ((512 : Int) < (n : Int)) = false := by simp; have := hn0 rfl; omega
    clear hn0
    have hOpen := T4
    simp only [Cells, blk, List.cons_append, List.nil_append, and_true, Nat.reduceAdd, Nat.add_zero, Nat.zero_add] at hOpen
    obtain ⟨u0, u1, u2, u3, u4, u5, u6, u7, u8, u9, uA, y0, y1, y2, y3, y4, y5, y6, y7, y8, y9, yA, yB⟩ := hOpen
    clear T4
    go_wp2
    all_goals
      go_ret
      refine ⟨ret_eq ?_, hB5⟩
      clear HF HUN HCL hB5 u0 u1 u2 u3 u4 u5 u6 u7 u8 u9 uA y0 y1 y2 y3 y4 y5 y6 y7 y8 y9 yA yB
      first
      | exact HR.out.symm
      | (rw [HR.out]
         repeat' split
         all_goals first | rfl | omega | (simp_all; done) | (simp_all; omega))
  · have hres := HRES.out
    rw [if_pos rfl] at hres
    have HR := Lib.hid hres
    clear hres HRES
    clear HCL HF HUN
    have hOpen := T4
    simp only [Cells, blk, List.cons_append, List.nil_append, and_true, Nat.reduceAdd, Nat.add_zero, Nat.zero_add] at hOpen
    obtain ⟨u0, u1, u2, u3, u4, u5, u6, u7, u8, u9, uA, y0, y1, y2, y3, y4, y5, y6, y7, y8, y9, yA, yB⟩ := hOpen
    clear T4
    go_wp2
    go_ret
    exact ⟨ret_eq HR.out.symm, hB5⟩
set_option linter.unusedSimpArgs false in
set_option linter.unusedVariables false in
set_option maxRecDepth 100000 in
set_option maxHeartbeats 4000000 in
theorem rchk_n (ki : Int) (hk : fldC ki = some []) (h1 : (ki == 1) = false) (ak : Int) (ha la hi lo : Nat) (of mt co : Int) (cm : Bool) (a1 a2 : Option Addr) (n c m d : Nat) (its : List It) (w : World) (hits : Items w (.slice a2 m d) m its) (hm : m ≤ 1000) (hbn : ∀ t ∈ its, t.n ≤ 1000000) : Calls Try.prog 13 #[.agg #[.int .i64 ki, .int .i64 ak, .int .u16 ha, .int .u16 la, .int .u64 hi, .int .u64 lo, .int .i64 of, .int .i64 mt, .int .i64 co, .bool cm, .slice a1 n c, .slice a2 m d]] w fun e w' => e = .returned (.int .i64 (chkP ki ak ha la hi lo of mt co cm n m its)) ∧ Below w.heap.size w w' := by
  have hf : ∀ W, Calls Try.prog 28 #[.int .i64 ki] W (fun e w' => e = .returned (.agg #[.bool true, .bool false, .bool false, .bool false, .bool false, .bool false, .bool false, .bool false, .bool false, .bool false, .bool false]) ∧ Below W.heap.size W w') := fun W => by
    have h := rfields_any ki W
    rw [hk] at h
    exact h
  have hun := fun W => runu_n ki hk ak ha la hi lo of mt co cm a1 a2 n c m d W
  have hcl := fun W (h : Below w.heap.size w W) => rcheckList_any ki ak ha la hi lo of mt co cm a1 a2 n c m d its W (hits.below h) hm hbn
  have hB := (Below.refl w.heap.size w).alloc (Nat.le_refl _) (.cells #[.int .i64 ki, .int .i64 ak, .int .u16 ha, .int .u16 la, .int .u64 hi, .int .u64 lo, .int .i64 of, .int .i64 mt, .int .i64 co, .bool cm, .slice a1 n c, .slice a2 m d] 29)
  have T0 := cells_new w [.int .i64 ki, .int .i64 ak, .int .u16 ha, .int .u16 la, .int .u64 hi, .int .u64 lo, .int .i64 of, .int .i64 mt, .int .i64 co, .bool cm, .slice a1 n c, .slice a2 m d] 29
  obtain ⟨q, hq⟩ : ∃ q, anyC [] (zB ak ha la hi lo of mt co cm n m) 10 = q := ⟨_, rfl⟩
  have h1' : (ki != 1) = true := by rw [bne, h1]; rfl
  have hchk : chkP ki ak ha la hi lo of mt co cm n m its = if q then 1 else errC [] (cI ki ak ha la of mt co n its) 10 := by
    unfold chkP
    rw [hk]
    simp only
    rw [hq]
  rw [hchk]
  have herr : errC [] (cI ki ak ha la of mt co n its) 10 = (0) := by
    simp only [errC, cI, le, leF, unlessI, h1]
    first
    | (simp; done)
    | (simp
       repeat' split
       all_goals first | rfl | omega | (simp_all; done) | (simp_all; omega))
  rw [herr]
  rw [hq] at hun
  obtain ⟨RES, hRES⟩ : ∃ R : Int, R = if q = true then 1 else (0) := ⟨_, rfl⟩
  rw [← hRES]
  have HRES := Lib.hid hRES
  clear hRES
  have hn0 : q = false → n = 0 := fun h => by
    rw [h] at hq
    simp [anyC, zB, le, leF] at hq
    omega
  have HF := Lib.hid hf
  have HUN := Lib.hid hun
  have HCL := Lib.hid hcl
  clear hf hun hcl hk hq hchk herr hits hbn
  go_enter Try.func13, Try.ntmps13
  go_upto_region 1 with fail
  generalize World.alloc _ _ = X at T0 hB ⊢
  have HT0 := Lib.hid T0
  have hOpen := T0
  simp only [Cells, blk, List.cons_append, List.nil_append, and_true, Nat.reduceAdd, Nat.add_zero, Nat.zero_add] at hOpen
  obtain ⟨y0, y1, y2, y3, y4, y5, y6, y7, y8, y9, yA, yB⟩ := hOpen
  clear T0
  go_wp2_with fail
  refine (HF.out _).mono ?_
  rintro e w1 ⟨rfl, hB1⟩
  have T1 := HT0.out.keep hB1
  have hB2 := hB.trans (hB1.mono hB.size)
  have hB3 := hB2.alloc hB2.size (.cells #[.bool true, .bool false, .bool false, .bool false, .bool false, .bool false, .bool false, .bool false, .bool false, .bool false, .bool false] 58)
  have T2 := (cells_new w1 [.bool true, .bool false, .bool false, .bool false, .bool false, .bool false, .bool false, .bool false, .bool false, .bool false, .bool false] 58).app (T1.keep ((Below.refl w1.heap.size w1).alloc (Nat.le_refl _) _))
  clear y0 y1 y2 y3 y4 y5 y6 y7 y8 y9 yA yB hB hB1 T1 HT0 hB2
  go_upto_region 2 with fail
  generalize World.alloc _ _ = Y at T2 hB3 ⊢
  have HT2 := Lib.hid T2
  have hOpen := T2
  simp only [Cells, blk, List.cons_append, List.nil_append, and_true, Nat.reduceAdd, Nat.add_zero, Nat.zero_add] at hOpen
  obtain ⟨u0, u1, u2, u3, u4, u5, u6, u7, u8, u9, uA, y0, y1, y2, y3, y4, y5, y6, y7, y8, y9, yA, yB⟩ := hOpen
  clear T2
  go_wp2_with fail
  refine (HUN.out _).mono ?_
  rintro e w4 ⟨rfl, hB4⟩
  have hB5 := hB3.trans (hB4.mono hB3.size)
  have T4 := HT2.out.keep hB4
  clear u0 u1 u2 u3 u4 u5 u6 u7 u8 u9 uA y0 y1 y2 y3 y4 y5 y6 y7 y8 y9 yA yB hB3 hB4 HT2
  cases q
  · have hres := HRES.out
    rw [if_neg (by decide)] at hres
    have HR := Lib.hid hres
    clear hres HRES
    have g5 : decide (512 < n) = false := by simp; have := hn0 rfl; omega
    have g5' : decide ((512 : Int) < (n : Int)) = false := by simp; have := hn0 rfl; omega
    clear hn0
    have hOpen := T4
    simp only [Cells, blk, List.cons_append, List.nil_append, and_true, Nat.reduceAdd, Nat.add_zero, Nat.zero_add] at hOpen
    obtain ⟨u0, u1, u2, u3, u4, u5, u6, u7, u8, u9, uA, y0, y1, y2, y3, y4, y5, y6, y7, y8, y9, yA, yB⟩ := hOpen
    clear T4
    go_wp2
    all_goals
      go_ret
      refine ⟨ret_eq ?_, hB5⟩
      clear HF HUN HCL hB5 u0 u1 u2 u3 u4 u5 u6 u7 u8 u9 uA y0 y1 y2 y3 y4 y5 y6 y7 y8 y9 yA yB
      first
      | exact HR.out.symm
      | (rw [HR.out]
         repeat' split
         all_goals first | rfl | omega | (simp_all; done) | (simp_all; omega))
  · have hres := HRES.out
    rw [if_pos rfl] at hres
    have HR := Lib.hid hres
    clear hres HRES
    clear HCL HF HUN
    have hOpen := T4
    simp only [Cells, blk, List.cons_append, List.nil_append, and_true, Nat.reduceAdd, Nat.add_zero, Nat.zero_add] at hOpen
    obtain ⟨u0, u1, u2, u3, u4, u5, u6, u7, u8, u9, uA, y0, y1, y2, y3, y4, y5, y6, y7, y8, y9, yA, yB⟩ := hOpen
    clear T4
    go_wp2
    go_ret
    exact ⟨ret_eq HR.out.symm, hB5⟩
set_option linter.unusedSimpArgs false in
set_option linter.unusedVariables false in
set_option maxRecDepth 100000 in
set_option maxHeartbeats 4000000 in
theorem rchk_I (ki : Int) (hk : fldC ki = some [73]) (h1 : (ki == 1) = false) (ak : Int) (ha la hi lo : Nat) (of mt co : Int) (cm : Bool) (a1 a2 : Option Addr) (n c m d : Nat) (its : List It) (w : World) (hits : Items w (.slice a2 m d) m its) (hm : m ≤ 1000) (hbn : ∀ t ∈ its, t.n ≤ 1000000) : Calls Try.prog 13 #[.agg #[.int .i64 ki, .int .i64 ak, .int .u16 ha, .int .u16 la, .int .u64 hi, .int .u64 lo, .int .i64 of, .int .i64 mt, .int .i64 co, .bool cm, .slice a1 n c, .slice a2 m d]] w fun e w' => e = .returned (.int .i64 (chkP ki ak ha la hi lo of mt co cm n m its)) ∧ Below w.heap.size w w' := by
  have hf : ∀ W, Calls Try.prog 28 #[.int .i64 ki] W (fun e w' => e = .returned (.agg #[.bool true, .bool false, .bool false, .bool false, .bool false, .bool false, .bool false, .bool false, .bool false, .bool false, .bool true]) ∧ Below W.heap.size W w') := fun W => by
    have h := rfields_any ki W
    rw [hk] at h
    exact h
  have hun := fun W => runu_I ki hk ak ha la hi lo of mt co cm a1 a2 n c m d W
  have hcl := fun W (h : Below w.heap.size w W) => rcheckList_any ki ak ha la hi lo of mt co cm a1 a2 n c m d its W (hits.below h) hm hbn
  have hB := (Below.refl w.heap.size w).alloc (Nat.le_refl _) (.cells #[.int .i64 ki, .int .i64 ak, .int .u16 ha, .int .u16 la, .int .u64 hi, .int .u64 lo, .int .i64 of, .int .i64 mt, .int .i64 co, .bool cm, .slice a1 n c, .slice a2 m d] 29)
  have T0 := cells_new w [.int .i64 ki, .int .i64 ak, .int .u16 ha, .int .u16 la, .int .u64 hi, .int .u64 lo, .int .i64 of, .int .i64 mt, .int .i64 co, .bool cm, .slice a1 n c, .slice a2 m d] 29
  obtain ⟨q, hq⟩ : ∃ q, anyC [73] (zB ak ha la hi lo of mt co cm n m) 10 = q := ⟨_, rfl⟩
  have h1' : (ki != 1) = true := by rw [bne, h1]; rfl
  have hchk : chkP ki ak ha la hi lo of mt co cm n m its = if q then 1 else errC [73] (cI ki ak ha la of mt co n its) 10 := by
    unfold chkP
    rw [hk]
    simp only
    rw [hq]
  rw [hchk]
  have herr : errC [73] (cI ki ak ha la of mt co n its) 10 = (chkL ki its) := by
    simp only [errC, cI, le, leF, unlessI, h1]
    first
    | (simp; done)
    | (simp
       repeat' split
       all_goals first | rfl | omega | (simp_all; done) | (simp_all; omega))
  rw [herr]
  rw [hq] at hun
  obtain ⟨RES, hRES⟩ : ∃ R : Int, R = if q = true then 1 else (chkL ki its) := ⟨_, rfl⟩
  rw [← hRES]
  have HRES := Lib.hid hRES
  clear hRES
  have hn0 : q = false → n = 0 := fun h => by
    rw [h] at hq
    simp [anyC, zB, le, leF] at hq
    omega
  have HF := Lib.hid hf
  have HUN := Lib.hid hun
  have HCL := Lib.hid hcl
  clear hf hun hcl hk hq hchk herr hits hbn
  go_enter Try.func13, Try.ntmps13
  go_upto_region 1 with fail
  generalize World.alloc _ _ = X at T0 hB ⊢
  have HT0 := Lib.hid T0
  have hOpen := T0
  simp only [Cells, blk, List.cons_append, List.nil_append, and_true, Nat.reduceAdd, Nat.add_zero, Nat.zero_add] at hOpen
  obtain ⟨y0, y1, y2, y3, y4, y5, y6, y7, y8, y9, yA, yB⟩ := hOpen
  clear T0
  go_wp2_with fail
  refine (HF.out _).mono ?_
  rintro e w1 ⟨rfl, hB1⟩
  have T1 := HT0.out.keep hB1
  have hB2 := hB.trans (hB1.mono hB.size)
  have hB3 := hB2.alloc hB2.size (.cells #[.bool true, .bool false, .bool false, .bool false, .bool false, .bool false, .bool false, .bool false, .bool false, .bool false, .bool true] 58)
  have T2 := (cells_new w1 [.bool true, .bool false, .bool false, .bool false, .bool false, .bool false, .bool false, .bool false, .bool false, .bool false, .bool true] 58).app (T1.keep ((Below.refl w1.heap.size w1).alloc (Nat.le_refl _) _))
  clear y0 y1 y2 y3 y4 y5 y6 y7 y8 y9 yA yB hB hB1 T1 HT0 hB2
  go_upto_region 2 with fail
  generalize World.alloc _ _ = Y at T2 hB3 ⊢
  have HT2 := Lib.hid T2
  have hOpen := T2
  simp only [Cells, blk, List.cons_append, List.nil_append, and_true, Nat.reduceAdd, Nat.add_zero, Nat.zero_add] at hOpen
  obtain ⟨u0, u1, u2, u3, u4, u5, u6, u7, u8, u9, uA, y0, y1, y2, y3, y4, y5, y6, y7, y8, y9, yA, yB⟩ := hOpen
  clear T2
  go_wp2_with fail
  refine (HUN.out _).mono ?_
  rintro e w4 ⟨rfl, hB4⟩
  have hB5 := hB3.trans (hB4.mono hB3.size)
  have T4 := HT2.out.keep hB4
  clear u0 u1 u2 u3 u4 u5 u6 u7 u8 u9 uA y0 y1 y2 y3 y4 y5 y6 y7 y8 y9 yA yB hB3 hB4 HT2
  cases q
  · have hres := HRES.out
    rw [if_neg (by decide)] at hres
    have HR := Lib.hid hres
    clear hres HRES
    have g5 : decide (512 < n) = false := by simp; have := hn0 rfl; omega
    have g5' : decide ((512 : Int) < (n : Int)) = false := by simp; have := hn0 rfl; omega
    clear hn0
    have HT4 := Lib.hid T4
    have hOpen := T4
    simp only [Cells, blk, List.cons_append, List.nil_append, and_true, Nat.reduceAdd, Nat.add_zero, Nat.zero_add] at hOpen
    obtain ⟨u0, u1, u2, u3, u4, u5, u6, u7, u8, u9, uA, y0, y1, y2, y3, y4, y5, y6, y7, y8, y9, yA, yB⟩ := hOpen
    clear T4
    go_wp2_with fail
    refine (HCL.out _ hB5).mono ?_
    rintro e w6 ⟨rfl, hB6⟩
    have hB7 := hB5.trans (hB6.mono hB5.size)
    clear hB6 u0 u1 u2 u3 u4 u5 u6 u7 u8 u9 uA y0 y1 y2 y3 y4 y5 y6 y7 y8 y9 yA yB HCL HF HUN
    go_wp2
    go_ret
    exact ⟨ret_eq HR.out.symm, hB7⟩
  · have hres := HRES.out
    rw [if_pos rfl] at hres
    have HR := Lib.hid hres
    clear hres HRES
    clear HCL HF HUN
    have hOpen := T4
    simp only [Cells, blk, List.cons_append, List.nil_append, and_true, Nat.reduceAdd, Nat.add_zero, Nat.zero_add] at hOpen
    obtain ⟨u0, u1, u2, u3, u4, u5, u6, u7, u8, u9, uA, y0, y1, y2, y3, y4, y5, y6, y7, y8, y9, yA, yB⟩ := hOpen
    clear T4
    go_wp2
    go_ret
    exact ⟨ret_eq HR.out.symm, hB5⟩
set_option linter.unusedSimpArgs false in
set_option linter.unusedVariables false in
set_option maxRecDepth 100000 in
set_option maxHeartbeats 4000000 in
theorem rchk_none (ki : Int) (hne : ki ≠ 1 ∧ ki ≠ 2 ∧ ki ≠ 3 ∧ ki ≠ 4 ∧ ki ≠ 5 ∧ ki ≠ 8 ∧ ki ≠ 9 ∧ ki ≠ 10 ∧ ki ≠ 11 ∧ ki ≠ 12 ∧ ki ≠ 13 ∧ ki ≠ 16 ∧ ki ≠ 17 ∧ ki ≠ 18 ∧ ki ≠ 19 ∧ ki ≠ 22 ∧ ki ≠ 23 ∧ ki ≠ 24 ∧ ki ≠ 25 ∧ ki ≠ 27 ∧ ki ≠ 29 ∧ ki ≠ 30 ∧ ki ≠ 82) (ak : Int) (ha la hi lo : Nat) (of mt co : Int) (cm : Bool) (a1 a2 : Option Addr) (n c m d : Nat) (its : List It) (w : World) : Calls Try.prog 13 #[.agg #[.int .i64 ki, .int .i64 ak, .int .u16 ha, .int .u16 la, .int .u64 hi, .int .u64 lo, .int .i64 of, .int .i64 mt, .int .i64 co, .bool cm, .slice a1 n c, .slice a2 m d]] w fun e w' => e = .returned (.int .i64 (chkP ki ak ha la hi lo of mt co cm n m its)) ∧ Below w.heap.size w w' := by
  have hk := fldC_none ki hne
  have hf : ∀ W, Calls Try.prog 28 #[.int .i64 ki] W (fun e w' => e = .returned (.agg #[.bool false, .bool false, .bool false, .bool false, .bool false, .bool false, .bool false, .bool false, .bool false, .bool false, .bool false]) ∧ Below W.heap.size W w') := fun W => by
    have h := rfields_any ki W
    rw [hk] at h
    exact h
  have hchk : chkP ki ak ha la hi lo of mt co cm n m its = 12 := by unfold chkP; rw [hk]
  rw [hchk]
  have hB := (Below.refl w.heap.size w).alloc (Nat.le_refl _) (.cells #[.int .i64 ki, .int .i64 ak, .int .u16 ha, .int .u16 la, .int .u64 hi, .int .u64 lo, .int .i64 of, .int .i64 mt, .int .i64 co, .bool cm, .slice a1 n c, .slice a2 m d] 29)
  have T0 := cells_new w [.int .i64 ki, .int .i64 ak, .int .u16 ha, .int .u16 la, .int .u64 hi, .int .u64 lo, .int .i64 of, .int .i64 mt, .int .i64 co, .bool cm, .slice a1 n c, .slice a2 m d] 29
  have HF := Lib.hid hf
  clear hf hk hchk hne
  go_enter Try.func13, Try.ntmps13
  go_upto_region 1 with fail
  generalize World.alloc _ _ = X at T0 hB ⊢
  have hOpen := T0
  simp only [Cells, blk, List.cons_append, List.nil_append, and_true, Nat.reduceAdd, Nat.add_zero, Nat.zero_add] at hOpen
  obtain ⟨y0, y1, y2, y3, y4, y5, y6, y7, y8, y9, yA, yB⟩ := hOpen
  clear T0
  go_wp2_with fail
  refine (HF.out _).mono ?_
  rintro e w1 ⟨rfl, hB1⟩
  have hB2 := hB.trans (hB1.mono hB.size)
  have hB3 := hB2.alloc hB2.size (.cells #[.bool false, .bool false, .bool false, .bool false, .bool false, .bool false, .bool false, .bool false, .bool false, .bool false, .bool false] 58)
  have T2 := cells_new w1 [.bool false, .bool false, .bool false, .bool false, .bool false, .bool false, .bool false, .bool false, .bool false, .bool false, .bool false] 58
  clear y0 y1 y2 y3 y4 y5 y6 y7 y8 y9 yA yB hB hB1 hB2
  go_upto_region 2 with fail
  generalize World.alloc _ _ = Y at T2 hB3 ⊢
  have hOpen := T2
  simp only [Cells, blk, List.cons_append, List.nil_append, and_true, Nat.reduceAdd, Nat.add_zero, Nat.zero_add] at hOpen
  obtain ⟨u0, u1, u2, u3, u4, u5, u6, u7, u8, u9, uA⟩ := hOpen
  clear T2
  go_wp2
  go_ret
  exact ⟨rfl, hB3⟩
end Go.Proofs.Ythnffdlnhfhabaa
