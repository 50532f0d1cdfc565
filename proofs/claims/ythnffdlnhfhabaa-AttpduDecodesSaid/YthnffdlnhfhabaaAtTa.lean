/- attpdu: the reference: unused. attpdu: the reference: unused. -/
import Derived.Test.YthnffdlnhfhabaaAtS
import Derived.Test.YthnffdlnhfhabaaAtB
namespace Go.Proofs.Ythnffdlnhfhabaa
open Go.RowKit

set_option linter.unusedSimpArgs false in
set_option linter.unusedVariables false in
set_option maxRecDepth 100000 in
set_option maxHeartbeats 4000000 in
theorem runu_AHC (ki : Int) (hk : fldC ki = some [65, 72, 67]) (ak : Int) (ha la hi lo : Nat) (of mt co : Int) (cm : Bool) (a1 a2 : Option Addr) (n c m d : Nat) (w : World) : Calls Try.prog 29 #[.agg #[.int .i64 ki, .int .i64 ak, .int .u16 ha, .int .u16 la, .int .u64 hi, .int .u64 lo, .int .i64 of, .int .i64 mt, .int .i64 co, .bool cm, .slice a1 n c, .slice a2 m d]] w fun e w' => e = .returned (.bool (!anyC [65, 72, 67] (zB ak ha la hi lo of mt co cm n m) 10)) ∧ Below w.heap.size w w' := by
  have hz := fun W => run_build0 W
  have hf : ∀ W, Calls Try.prog 28 #[.int .i64 ki] W (fun e w' => e = .returned (.agg #[.bool true, .bool true, .bool true, .bool false, .bool false, .bool false, .bool false, .bool true, .bool false, .bool false, .bool false]) ∧ Below W.heap.size W w') := fun W => by
    have h := rfields_any ki W
    rw [hk] at h
    exact h
  have hB := (Below.refl w.heap.size w).alloc (Nat.le_refl _) (.cells #[.int .i64 ki, .int .i64 ak, .int .u16 ha, .int .u16 la, .int .u64 hi, .int .u64 lo, .int .i64 of, .int .i64 mt, .int .i64 co, .bool cm, .slice a1 n c, .slice a2 m d] 29)
  have T0 := cells_new w [.int .i64 ki, .int .i64 ak, .int .u16 ha, .int .u16 la, .int .u64 hi, .int .u64 lo, .int .i64 of, .int .i64 mt, .int .i64 co, .bool cm, .slice a1 n c, .slice a2 m d] 29
  have HF := Lib.hid hf
  have hsp : (!anyC [65, 72, 67] (zB ak ha la hi lo of mt co cm n m) 10) = (((la : Int) == 0) && (of == 0) && (mt == 0) && (!cm) && (decide (hi = 0) && decide (lo = 0)) && ((n : Int) == 0) && ((m : Int) == 0)) := by
    simp [anyC, zB, le, leF, Bool.and_assoc]
  rw [hsp]
  clear hsp hf hk
  go_enter Try.func29, Try.ntmps29
  go_upto_region 1 with fail
  generalize World.alloc _ _ = X at T0 hB ⊢
  have HT0 := Lib.hid T0
  have hOpen := T0
  simp only [Cells, blk, List.cons_append, List.nil_append, and_true, Nat.reduceAdd, Nat.add_zero, Nat.zero_add] at hOpen
  obtain ⟨y0, y1, y2, y3, y4, y5, y6, y7, y8, y9, yA, yB⟩ := hOpen
  clear T0
  go_wp2_with fail
  refine (HF.out _).mono ?_
  rintro e w1 ⟨rfl, hB1⟩
  have T1 := HT0.out.keep hB1
  have hB2 := hB.trans (hB1.mono hB.size)
  have hB3 := hB2.alloc hB2.size (.cells #[.bool true, .bool true, .bool true, .bool false, .bool false, .bool false, .bool false, .bool true, .bool false, .bool false, .bool false] 58)
  have T2 := (cells_new w1 [.bool true, .bool true, .bool true, .bool false, .bool false, .bool false, .bool false, .bool true, .bool false, .bool false, .bool false] 58).app (T1.keep ((Below.refl w1.heap.size w1).alloc (Nat.le_refl _) _))
  clear y0 y1 y2 y3 y4 y5 y6 y7 y8 y9 yA yB hB hB1 T1 HT0 hB2
  go_upto_region 2 with fail
  generalize World.alloc _ _ = Y at T2 hB3 ⊢
  have hOpen := T2
  simp only [Cells, blk, List.cons_append, List.nil_append, and_true, Nat.reduceAdd, Nat.add_zero, Nat.zero_add] at hOpen
  obtain ⟨u0, u1, u2, u3, u4, u5, u6, u7, u8, u9, uA, y0, y1, y2, y3, y4, y5, y6, y7, y8, y9, yA, yB⟩ := hOpen
  clear T2
  go_wp2
  all_goals
    go_ret
    refine ⟨ret_bool ?_, hB3⟩
    clear HF hz hB3
    first
    | (simp_all; done)
    | (simp_all; omega)
set_option linter.unusedSimpArgs false in
set_option linter.unusedVariables false in
set_option maxRecDepth 100000 in
set_option maxHeartbeats 4000000 in
theorem runu_M (ki : Int) (hk : fldC ki = some [77]) (ak : Int) (ha la hi lo : Nat) (of mt co : Int) (cm : Bool) (a1 a2 : Option Addr) (n c m d : Nat) (w : World) : Calls Try.prog 29 #[.agg #[.int .i64 ki, .int .i64 ak, .int .u16 ha, .int .u16 la, .int .u64 hi, .int .u64 lo, .int .i64 of, .int .i64 mt, .int .i64 co, .bool cm, .slice a1 n c, .slice a2 m d]] w fun e w' => e = .returned (.bool (!anyC [77] (zB ak ha la hi lo of mt co cm n m) 10)) ∧ Below w.heap.size w w' := by
  have hz := fun W => run_build0 W
  have hf : ∀ W, Calls Try.prog 28 #[.int .i64 ki] W (fun e w' => e = .returned (.agg #[.bool true, .bool false, .bool false, .bool false, .bool false, .bool false, .bool true, .bool false, .bool false, .bool false, .bool false]) ∧ Below W.heap.size W w') := fun W => by
    have h := rfields_any ki W
    rw [hk] at h
    exact h
  have hB := (Below.refl w.heap.size w).alloc (Nat.le_refl _) (.cells #[.int .i64 ki, .int .i64 ak, .int .u16 ha, .int .u16 la, .int .u64 hi, .int .u64 lo, .int .i64 of, .int .i64 mt, .int .i64 co, .bool cm, .slice a1 n c, .slice a2 m d] 29)
  have T0 := cells_new w [.int .i64 ki, .int .i64 ak, .int .u16 ha, .int .u16 la, .int .u64 hi, .int .u64 lo, .int .i64 of, .int .i64 mt, .int .i64 co, .bool cm, .slice a1 n c, .slice a2 m d] 29
  have HF := Lib.hid hf
  have hsp : (!anyC [77] (zB ak ha la hi lo of mt co cm n m) 10) = ((ak == 0) && ((ha : Int) == 0) && ((la : Int) == 0) && (of == 0) && (co == 0) && (!cm) && (decide (hi = 0) && decide (lo = 0)) && ((n : Int) == 0) && ((m : Int) == 0)) := by
    simp [anyC, zB, le, leF, Bool.and_assoc]
  rw [hsp]
  clear hsp hf hk
  go_enter Try.func29, Try.ntmps29
  go_upto_region 1 with fail
  generalize World.alloc _ _ = X at T0 hB ⊢
  have HT0 := Lib.hid T0
  have hOpen := T0
  simp only [Cells, blk, List.cons_append, List.nil_append, and_true, Nat.reduceAdd, Nat.add_zero, Nat.zero_add] at hOpen
  obtain ⟨y0, y1, y2, y3, y4, y5, y6, y7, y8, y9, yA, yB⟩ := hOpen
  clear T0
  go_wp2_with fail
  refine (HF.out _).mono ?_
  rintro e w1 ⟨rfl, hB1⟩
  have T1 := HT0.out.keep hB1
  have hB2 := hB.trans (hB1.mono hB.size)
  have hB3 := hB2.alloc hB2.size (.cells #[.bool true, .bool false, .bool false, .bool false, .bool false, .bool false, .bool true, .bool false, .bool false, .bool false, .bool false] 58)
  have T2 := (cells_new w1 [.bool true, .bool false, .bool false, .bool false, .bool false, .bool false, .bool true, .bool false, .bool false, .bool false, .bool false] 58).app (T1.keep ((Below.refl w1.heap.size w1).alloc (Nat.le_refl _) _))
  clear y0 y1 y2 y3 y4 y5 y6 y7 y8 y9 yA yB hB hB1 T1 HT0 hB2
  go_upto_region 2 with fail
  generalize World.alloc _ _ = Y at T2 hB3 ⊢
  have hOpen := T2
  simp only [Cells, blk, List.cons_append, List.nil_append, and_true, Nat.reduceAdd, Nat.add_zero, Nat.zero_add] at hOpen
  obtain ⟨u0, u1, u2, u3, u4, u5, u6, u7, u8, u9, uA, y0, y1, y2, y3, y4, y5, y6, y7, y8, y9, yA, yB⟩ := hOpen
  clear T2
  go_wp2
  all_goals
    go_ret
    refine ⟨ret_bool ?_, hB3⟩
    clear HF hz hB3
    first
    | (simp_all; done)
    | (simp_all; omega)
set_option linter.unusedSimpArgs false in
set_option linter.unusedVariables false in
set_option maxRecDepth 100000 in
set_option maxHeartbeats 4000000 in
theorem runu_HL (ki : Int) (hk : fldC ki = some [72, 76]) (ak : Int) (ha la hi lo : Nat) (of mt co : Int) (cm : Bool) (a1 a2 : Option Addr) (n c m d : Nat) (w : World) : Calls Try.prog 29 #[.agg #[.int .i64 ki, .int .i64 ak, .int .u16 ha, .int .u16 la, .int .u64 hi, .int .u64 lo, .int .i64 of, .int .i64 mt, .int .i64 co, .bool cm, .slice a1 n c, .slice a2 m d]] w fun e w' => e = .returned (.bool (!anyC [72, 76] (zB ak ha la hi lo of mt co cm n m) 10)) ∧ Below w.heap.size w w' := by
  have hz := fun W => run_build0 W
  have hf : ∀ W, Calls Try.prog 28 #[.int .i64 ki] W (fun e w' => e = .returned (.agg #[.bool true, .bool false, .bool true, .bool true, .bool false, .bool false, .bool false, .bool false, .bool false, .bool false, .bool false]) ∧ Below W.heap.size W w') := fun W => by
    have h := rfields_any ki W
    rw [hk] at h
    exact h
  have hB := (Below.refl w.heap.size w).alloc (Nat.le_refl _) (.cells #[.int .i64 ki, .int .i64 ak, .int .u16 ha, .int .u16 la, .int .u64 hi, .int .u64 lo, .int .i64 of, .int .i64 mt, .int .i64 co, .bool cm, .slice a1 n c, .slice a2 m d] 29)
  have T0 := cells_new w [.int .i64 ki, .int .i64 ak, .int .u16 ha, .int .u16 la, .int .u64 hi, .int .u64 lo, .int .i64 of, .int .i64 mt, .int .i64 co, .bool cm, .slice a1 n c, .slice a2 m d] 29
  have HF := Lib.hid hf
  have hsp : (!anyC [72, 76] (zB ak ha la hi lo of mt co cm n m) 10) = ((ak == 0) && (of == 0) && (mt == 0) && (co == 0) && (!cm) && (decide (hi = 0) && decide (lo = 0)) && ((n : Int) == 0) && ((m : Int) == 0)) := by
    simp [anyC, zB, le, leF, Bool.and_assoc]
  rw [hsp]
  clear hsp hf hk
  go_enter Try.func29, Try.ntmps29
  go_upto_region 1 with fail
  generalize World.alloc _ _ = X at T0 hB ⊢
  have HT0 := Lib.hid T0
  have hOpen := T0
  simp only [Cells, blk, List.cons_append, List.nil_append, and_true, Nat.reduceAdd, Nat.add_zero, Nat.zero_add] at hOpen
  obtain ⟨y0, y1, y2, y3, y4, y5, y6, y7, y8, y9, yA, yB⟩ := hOpen
  clear T0
  go_wp2_with fail
  refine (HF.out _).mono ?_
  rintro e w1 ⟨rfl, hB1⟩
  have T1 := HT0.out.keep hB1
  have hB2 := hB.trans (hB1.mono hB.size)
  have hB3 := hB2.alloc hB2.size (.cells #[.bool true, .bool false, .bool true, .bool true, .bool false, .bool false, .bool false, .bool false, .bool false, .bool false, .bool false] 58)
  have T2 := (cells_new w1 [.bool true, .bool false, .bool true, .bool true, .bool false, .bool false, .bool false, .bool false, .bool false, .bool false, .bool false] 58).app (T1.keep ((Below.refl w1.heap.size w1).alloc (Nat.le_refl _) _))
  clear y0 y1 y2 y3 y4 y5 y6 y7 y8 y9 yA yB hB hB1 T1 HT0 hB2
  go_upto_region 2 with fail
  generalize World.alloc _ _ = Y at T2 hB3 ⊢
  have hOpen := T2
  simp only [Cells, blk, List.cons_append, List.nil_append, and_true, Nat.reduceAdd, Nat.add_zero, Nat.zero_add] at hOpen
  obtain ⟨u0, u1, u2, u3, u4, u5, u6, u7, u8, u9, uA, y0, y1, y2, y3, y4, y5, y6, y7, y8, y9, yA, yB⟩ := hOpen
  clear T2
  go_wp2
  all_goals
    go_ret
    refine ⟨ret_bool ?_, hB3⟩
    clear HF hz hB3
    first
    | (simp_all; done)
    | (simp_all; omega)
set_option linter.unusedSimpArgs false in
set_option linter.unusedVariables false in
set_option maxRecDepth 100000 in
set_option maxHeartbeats 4000000 in
theorem runu_HLT (ki : Int) (hk : fldC ki = some [72, 76, 84]) (ak : Int) (ha la hi lo : Nat) (of mt co : Int) (cm : Bool) (a1 a2 : Option Addr) (n c m d : Nat) (w : World) : Calls Try.prog 29 #[.agg #[.int .i64 ki, .int .i64 ak, .int .u16 ha, .int .u16 la, .int .u64 hi, .int .u64 lo, .int .i64 of, .int .i64 mt, .int .i64 co, .bool cm, .slice a1 n c, .slice a2 m d]] w fun e w' => e = .returned (.bool (!anyC [72, 76, 84] (zB ak ha la hi lo of mt co cm n m) 10)) ∧ Below w.heap.size w w' := by
  have hz := fun W => run_build0 W
  have hf : ∀ W, Calls Try.prog 28 #[.int .i64 ki] W (fun e w' => e = .returned (.agg #[.bool true, .bool false, .bool true, .bool true, .bool true, .bool false, .bool false, .bool false, .bool false, .bool false, .bool false]) ∧ Below W.heap.size W w') := fun W => by
    have h := rfields_any ki W
    rw [hk] at h
    exact h
  have hB := (Below.refl w.heap.size w).alloc (Nat.le_refl _) (.cells #[.int .i64 ki, .int .i64 ak, .int .u16 ha, .int .u16 la, .int .u64 hi, .int .u64 lo, .int .i64 of, .int .i64 mt, .int .i64 co, .bool cm, .slice a1 n c, .slice a2 m d] 29)
  have T0 := cells_new w [.int .i64 ki, .int .i64 ak, .int .u16 ha, .int .u16 la, .int .u64 hi, .int .u64 lo, .int .i64 of, .int .i64 mt, .int .i64 co, .bool cm, .slice a1 n c, .slice a2 m d] 29
  have HF := Lib.hid hf
  have hsp : (!anyC [72, 76, 84] (zB ak ha la hi lo of mt co cm n m) 10) = ((ak == 0) && (of == 0) && (mt == 0) && (co == 0) && (!cm) && ((n : Int) == 0) && ((m : Int) == 0)) := by
    simp [anyC, zB, le, leF, Bool.and_assoc]
  rw [hsp]
  clear hsp hf hk
  go_enter Try.func29, Try.ntmps29
  go_upto_region 1 with fail
  generalize World.alloc _ _ = X at T0 hB ⊢
  have HT0 := Lib.hid T0
  have hOpen := T0
  simp only [Cells, blk, List.cons_append, List.nil_append, and_true, Nat.reduceAdd, Nat.add_zero, Nat.zero_add] at hOpen
  obtain ⟨y0, y1, y2, y3, y4, y5, y6, y7, y8, y9, yA, yB⟩ := hOpen
  clear T0
  go_wp2_with fail
  refine (HF.out _).mono ?_
  rintro e w1 ⟨rfl, hB1⟩
  have T1 := HT0.out.keep hB1
  have hB2 := hB.trans (hB1.mono hB.size)
  have hB3 := hB2.alloc hB2.size (.cells #[.bool true, .bool false, .bool true, .bool true, .bool true, .bool false, .bool false, .bool false, .bool false, .bool false, .bool false] 58)
  have T2 := (cells_new w1 [.bool true, .bool false, .bool true, .bool true, .bool true, .bool false, .bool false, .bool false, .bool false, .bool false, .bool false] 58).app (T1.keep ((Below.refl w1.heap.size w1).alloc (Nat.le_refl _) _))
  clear y0 y1 y2 y3 y4 y5 y6 y7 y8 y9 yA yB hB hB1 T1 HT0 hB2
  go_upto_region 2 with fail
  generalize World.alloc _ _ = Y at T2 hB3 ⊢
  have hOpen := T2
  simp only [Cells, blk, List.cons_append, List.nil_append, and_true, Nat.reduceAdd, Nat.add_zero, Nat.zero_add] at hOpen
  obtain ⟨u0, u1, u2, u3, u4, u5, u6, u7, u8, u9, uA, y0, y1, y2, y3, y4, y5, y6, y7, y8, y9, yA, yB⟩ := hOpen
  clear T2
  go_wp2
  all_goals
    go_ret
    refine ⟨ret_bool ?_, hB3⟩
    clear HF hz hB3
    first
    | (simp_all; done)
    | (simp_all; omega)
set_option linter.unusedSimpArgs false in
set_option linter.unusedVariables false in
set_option maxRecDepth 100000 in
set_option maxHeartbeats 4000000 in
theorem runu_H (ki : Int) (hk : fldC ki = some [72]) (ak : Int) (ha la hi lo : Nat) (of mt co : Int) (cm : Bool) (a1 a2 : Option Addr) (n c m d : Nat) (w : World) : Calls Try.prog 29 #[.agg #[.int .i64 ki, .int .i64 ak, .int .u16 ha, .int .u16 la, .int .u64 hi, .int .u64 lo, .int .i64 of, .int .i64 mt, .int .i64 co, .bool cm, .slice a1 n c, .slice a2 m d]] w fun e w' => e = .returned (.bool (!anyC [72] (zB ak ha la hi lo of mt co cm n m) 10)) ∧ Below w.heap.size w w' := by
  have hz := fun W => run_build0 W
  have hf : ∀ W, Calls Try.prog 28 #[.int .i64 ki] W (fun e w' => e = .returned (.agg #[.bool true, .bool false, .bool true, .bool false, .bool false, .bool false, .bool false, .bool false, .bool false, .bool false, .bool false]) ∧ Below W.heap.size W w') := fun W => by
    have h := rfields_any ki W
    rw [hk] at h
    exact h
  have hB := (Below.refl w.heap.size w).alloc (Nat.le_refl _) (.cells #[.int .i64 ki, .int .i64 ak, .int .u16 ha, .int .u16 la, .int .u64 hi, .int .u64 lo, .int .i64 of, .int .i64 mt, .int .i64 co, .bool cm, .slice a1 n c, .slice a2 m d] 29)
  have T0 := cells_new w [.int .i64 ki, .int .i64 ak, .int .u16 ha, .int .u16 la, .int .u64 hi, .int .u64 lo, .int .i64 of, .int .i64 mt, .int .i64 co, .bool cm, .slice a1 n c, .slice a2 m d] 29
  have HF := Lib.hid hf
  have hsp : (!anyC [72] (zB ak ha la hi lo of mt co cm n m) 10) = ((ak == 0) && ((la : Int) == 0) && (of == 0) && (mt == 0) && (co == 0) && (!cm) && (decide (hi = 0) && decide (lo = 0)) && ((n : Int) == 0) && ((m : Int) == 0)) := by
    simp [anyC, zB, le, leF, Bool.and_assoc]
  rw [hsp]
  clear hsp hf hk
  go_enter Try.func29, Try.ntmps29
  go_upto_region 1 with fail
  generalize World.alloc _ _ = X at T0 hB ⊢
  have HT0 := Lib.hid T0
  have hOpen := T0
  simp only [Cells, blk, List.cons_append, List.nil_append, and_true, Nat.reduceAdd, Nat.add_zero, Nat.zero_add] at hOpen
  obtain ⟨y0, y1, y2, y3, y4, y5, y6, y7, y8, y9, yA, yB⟩ := hOpen
  clear T0
  go_wp2_with fail
  refine (HF.out _).mono ?_
  rintro e w1 ⟨rfl, hB1⟩
  have T1 := HT0.out.keep hB1
  have hB2 := hB.trans (hB1.mono hB.size)
  have hB3 := hB2.alloc hB2.size (.cells #[.bool true, .bool false, .bool true, .bool false, .bool false, .bool false, .bool false, .bool false, .bool false, .bool false, .bool false] 58)
  have T2 := (cells_new w1 [.bool true, .bool false, .bool true, .bool false, .bool false, .bool false, .bool false, .bool false, .bool false, .bool false, .bool false] 58).app (T1.keep ((Below.refl w1.heap.size w1).alloc (Nat.le_refl _) _))
  clear y0 y1 y2 y3 y4 y5 y6 y7 y8 y9 yA yB hB hB1 T1 HT0 hB2
  go_upto_region 2 with fail
  generalize World.alloc _ _ = Y at T2 hB3 ⊢
  have hOpen := T2
  simp only [Cells, blk, List.cons_append, List.nil_append, and_true, Nat.reduceAdd, Nat.add_zero, Nat.zero_add] at hOpen
  obtain ⟨u0, u1, u2, u3, u4, u5, u6, u7, u8, u9, uA, y0, y1, y2, y3, y4, y5, y6, y7, y8, y9, yA, yB⟩ := hOpen
  clear T2
  go_wp2
  all_goals
    go_ret
    refine ⟨ret_bool ?_, hB3⟩
    clear HF hz hB3
    first
    | (simp_all; done)
    | (simp_all; omega)
set_option linter.unusedSimpArgs false in
set_option linter.unusedVariables false in
set_option maxRecDepth 100000 in
set_option maxHeartbeats 4000000 in
theorem runu_HO (ki : Int) (hk : fldC ki = some [72, 79]) (ak : Int) (ha la hi lo : Nat) (of mt co : Int) (cm : Bool) (a1 a2 : Option Addr) (n c m d : Nat) (w : World) : Calls Try.prog 29 #[.agg #[.int .i64 ki, .int .i64 ak, .int .u16 ha, .int .u16 la, .int .u64 hi, .int .u64 lo, .int .i64 of, .int .i64 mt, .int .i64 co, .bool cm, .slice a1 n c, .slice a2 m d]] w fun e w' => e = .returned (.bool (!anyC [72, 79] (zB ak ha la hi lo of mt co cm n m) 10)) ∧ Below w.heap.size w w' := by
  have hz := fun W => run_build0 W
  have hf : ∀ W, Calls Try.prog 28 #[.int .i64 ki] W (fun e w' => e = .returned (.agg #[.bool true, .bool false, .bool true, .bool false, .bool false, .bool true, .bool false, .bool false, .bool false, .bool false, .bool false]) ∧ Below W.heap.size W w') := fun W => by
    have h := rfields_any ki W
    rw [hk] at h
    exact h
  have hB := (Below.refl w.heap.size w).alloc (Nat.le_refl _) (.cells #[.int .i64 ki, .int .i64 ak, .int .u16 ha, .int .u16 la, .int .u64 hi, .int .u64 lo, .int .i64 of, .int .i64 mt, .int .i64 co, .bool cm, .slice a1 n c, .slice a2 m d] 29)
  have T0 := cells_new w [.int .i64 ki, .int .i64 ak, .int .u16 ha, .int .u16 la, .int .u64 hi, .int .u64 lo, .int .i64 of, .int .i64 mt, .int .i64 co, .bool cm, .slice a1 n c, .slice a2 m d] 29
  have HF := Lib.hid hf
  have hsp : (!anyC [72, 79] (zB ak ha la hi lo of mt co cm n m) 10) = ((ak == 0) && ((la : Int) == 0) && (mt == 0) && (co == 0) && (!cm) && (decide (hi = 0) && decide (lo = 0)) && ((n : Int) == 0) && ((m : Int) == 0)) := by
    simp [anyC, zB, le, leF, Bool.and_assoc]
  rw [hsp]
  clear hsp hf hk
  go_enter Try.func29, Try.ntmps29
  go_upto_region 1 with fail
  generalize World.alloc _ _ = X at T0 hB ⊢
  have HT0 := Lib.hid T0
  have hOpen := T0
  simp only [Cells, blk, List.cons_append, List.nil_append, and_true, Nat.reduceAdd, Nat.add_zero, Nat.zero_add] at hOpen
  obtain ⟨y0, y1, y2, y3, y4, y5, y6, y7, y8, y9, yA, yB⟩ := hOpen
  clear T0
  go_wp2_with fail
  refine (HF.out _).mono ?_
  rintro e w1 ⟨rfl, hB1⟩
  have T1 := HT0.out.keep hB1
  have hB2 := hB.trans (hB1.mono hB.size)
  have hB3 := hB2.alloc hB2.size (.cells #[.bool true, .bool false, .bool true, .bool false, .bool false, .bool true, .bool false, .bool false, .bool false, .bool false, .bool false] 58)
  have T2 := (cells_new w1 [.bool true, .bool false, .bool true, .bool false, .bool false, .bool true, .bool false, .bool false, .bool false, .bool false, .bool false] 58).app (T1.keep ((Below.refl w1.heap.size w1).alloc (Nat.le_refl _) _))
  clear y0 y1 y2 y3 y4 y5 y6 y7 y8 y9 yA yB hB hB1 T1 HT0 hB2
  go_upto_region 2 with fail
  generalize World.alloc _ _ = Y at T2 hB3 ⊢
  have hOpen := T2
  simp only [Cells, blk, List.cons_append, List.nil_append, and_true, Nat.reduceAdd, Nat.add_zero, Nat.zero_add] at hOpen
  obtain ⟨u0, u1, u2, u3, u4, u5, u6, u7, u8, u9, uA, y0, y1, y2, y3, y4, y5, y6, y7, y8, y9, yA, yB⟩ := hOpen
  clear T2
  go_wp2
  all_goals
    go_ret
    refine ⟨ret_bool ?_, hB3⟩
    clear HF hz hB3
    first
    | (simp_all; done)
    | (simp_all; omega)
end Go.Proofs.Ythnffdlnhfhabaa
namespace Go.Proofs.Ythnffdlnhfhabaa
open Go.RowKit

set_option linter.unusedSimpArgs false in
set_option linter.unusedVariables false in
set_option maxRecDepth 100000 in
set_option maxHeartbeats 4000000 in
theorem runu_V (ki : Int) (hk : fldC ki = some [86]) (ak : Int) (ha la hi lo : Nat) (of mt co : Int) (cm : Bool) (a1 a2 : Option Addr) (n c m d : Nat) (w : World) : Calls Try.prog 29 #[.agg #[.int .i64 ki, .int .i64 ak, .int .u16 ha, .int .u16 la, .int .u64 hi, .int .u64 lo, .int .i64 of, .int .i64 mt, .int .i64 co, .bool cm, .slice a1 n c, .slice a2 m d]] w fun e w' => e = .returned (.bool (!anyC [86] (zB ak ha la hi lo of mt co cm n m) 10)) ∧ Below w.heap.size w w' := by
  have hz := fun W => run_build0 W
  have hf : ∀ W, Calls Try.prog 28 #[.int .i64 ki] W (fun e w' => e = .returned (.agg #[.bool true, .bool false, .bool false, .bool false, .bool false, .bool false, .bool false, .bool false, .bool false, .bool true, .bool false]) ∧ Below W.heap.size W w') := fun W => by
    have h := rfields_any ki W
    rw [hk] at h
    exact h
  have hB := (Below.refl w.heap.size w).alloc (Nat.le_refl _) (.cells #[.int .i64 ki, .int .i64 ak, .int .u16 ha, .int .u16 la, .int .u64 hi, .int .u64 lo, .int .i64 of, .int .i64 mt, .int .i64 co, .bool cm, .slice a1 n c, .slice a2 m d] 29)
  have T0 := cells_new w [.int .i64 ki, .int .i64 ak, .int .u16 ha, .int .u16 la, .int .u64 hi, .int .u64 lo, .int .i64 of, .int .i64 mt, .int .i64 co, .bool cm, .slice a1 n c, .slice a2 m d] 29
  have HF := Lib.hid hf
  have hsp : (!anyC [86] (zB ak ha la hi lo of mt co cm n m) 10) = ((ak == 0) && ((ha : Int) == 0) && ((la : Int) == 0) && (of == 0) && (mt == 0) && (co == 0) && (!cm) && (decide (hi = 0) && decide (lo = 0)) && ((m : Int) == 0)) := by
    simp [anyC, zB, le, leF, Bool.and_assoc]
  rw [hsp]
  clear hsp hf hk
  go_enter Try.func29, Try.ntmps29
  go_upto_region 1 with fail
  generalize World.alloc _ _ = X at T0 hB ⊢
  have HT0 := Lib.hid T0
  have hOpen := T0
  simp only [Cells, blk, List.cons_append, List.nil_append, and_true, Nat.reduceAdd, Nat.add_zero, Nat.zero_add] at hOpen
  obtain ⟨y0, y1, y2, y3, y4, y5, y6, y7, y8, y9, yA, yB⟩ := hOpen
  clear T0
  go_wp2_with fail
  refine (HF.out _).mono ?_
  rintro e w1 ⟨rfl, hB1⟩
  have T1 := HT0.out.keep hB1
  have hB2 := hB.trans (hB1.mono hB.size)
  have hB3 := hB2.alloc hB2.size (.cells #[.bool true, .bool false, .bool false, .bool false, .bool false, .bool false, .bool false, .bool false, .bool false, .bool true, .bool false] 58)
  have T2 := (cells_new w1 [.bool true, .bool false, .bool false, .bool false, .bool false, .bool false, .bool false, .bool false, .bool false, .bool true, .bool false] 58).app (T1.keep ((Below.refl w1.heap.size w1).alloc (Nat.le_refl _) _))
  clear y0 y1 y2 y3 y4 y5 y6 y7 y8 y9 yA yB hB hB1 T1 HT0 hB2
  go_upto_region 2 with fail
  generalize World.alloc _ _ = Y at T2 hB3 ⊢
  have hOpen := T2
  simp only [Cells, blk, List.cons_append, List.nil_append, and_true, Nat.reduceAdd, Nat.add_zero, Nat.zero_add] at hOpen
  obtain ⟨u0, u1, u2, u3, u4, u5, u6, u7, u8, u9, uA, y0, y1, y2, y3, y4, y5, y6, y7, y8, y9, yA, yB⟩ := hOpen
  clear T2
  go_wp2
  all_goals
    go_ret
    refine ⟨ret_bool ?_, hB3⟩
    clear HF hz hB3
    first
    | (simp_all; done)
    | (simp_all; omega)
set_option linter.unusedSimpArgs false in
set_option linter.unusedVariables false in
set_option maxRecDepth 100000 in
set_option maxHeartbeats 4000000 in
theorem runu_HV (ki : Int) (hk : fldC ki = some [72, 86]) (ak : Int) (ha la hi lo : Nat) (of mt co : Int) (cm : Bool) (a1 a2 : Option Addr) (n c m d : Nat) (w : World) : Calls Try.prog 29 #[.agg #[.int .i64 ki, .int .i64 ak, .int .u16 ha, .int .u16 la, .int .u64 hi, .int .u64 lo, .int .i64 of, .int .i64 mt, .int .i64 co, .bool cm, .slice a1 n c, .slice a2 m d]] w fun e w' => e = .returned (.bool (!anyC [72, 86] (zB ak ha la hi lo of mt co cm n m) 10)) ∧ Below w.heap.size w w' := by
  have hz := fun W => run_build0 W
  have hf : ∀ W, Calls Try.prog 28 #[.int .i64 ki] W (fun e w' => e = .returned (.agg #[.bool true, .bool false, .bool true, .bool false, .bool false, .bool false, .bool false, .bool false, .bool false, .bool true, .bool false]) ∧ Below W.heap.size W w') := fun W => by
    have h := rfields_any ki W
    rw [hk] at h
    exact h
  have hB := (Below.refl w.heap.size w).alloc (Nat.le_refl _) (.cells #[.int .i64 ki, .int .i64 ak, .int .u16 ha, .int .u16 la, .int .u64 hi, .int .u64 lo, .int .i64 of, .int .i64 mt, .int .i64 co, .bool cm, .slice a1 n c, .slice a2 m d] 29)
  have T0 := cells_new w [.int .i64 ki, .int .i64 ak, .int .u16 ha, .int .u16 la, .int .u64 hi, .int .u64 lo, .int .i64 of, .int .i64 mt, .int .i64 co, .bool cm, .slice a1 n c, .slice a2 m d] 29
  have HF := Lib.hid hf
  have hsp : (!anyC [72, 86] (zB ak ha la hi lo of mt co cm n m) 10) = ((ak == 0) && ((la : Int) == 0) && (of == 0) && (mt == 0) && (co == 0) && (!cm) && (decide (hi = 0) && decide (lo = 0)) && ((m : Int) == 0)) := by
    simp [anyC, zB, le, leF, Bool.and_assoc]
  rw [hsp]
  clear hsp hf hk
  go_enter Try.func29, Try.ntmps29
  go_upto_region 1 with fail
  generalize World.alloc _ _ = X at T0 hB ⊢
  have HT0 := Lib.hid T0
  have hOpen := T0
  simp only [Cells, blk, List.cons_append, List.nil_append, and_true, Nat.reduceAdd, Nat.add_zero, Nat.zero_add] at hOpen
  obtain ⟨y0, y1, y2, y3, y4, y5, y6, y7, y8, y9, yA, yB⟩ := hOpen
  clear T0
  go_wp2_with fail
  refine (HF.out _).mono ?_
  rintro e w1 ⟨rfl, hB1⟩
  have T1 := HT0.out.keep hB1
  have hB2 := hB.trans (hB1.mono hB.size)
  have hB3 := hB2.alloc hB2.size (.cells #[.bool true, .bool false, .bool true, .bool false, .bool false, .bool false, .bool false, .bool false, .bool false, .bool true, .bool false] 58)
  have T2 := (cells_new w1 [.bool true, .bool false, .bool true, .bool false, .bool false, .bool false, .bool false, .bool false, .bool false, .bool true, .bool false] 58).app (T1.keep ((Below.refl w1.heap.size w1).alloc (Nat.le_refl _) _))
  clear y0 y1 y2 y3 y4 y5 y6 y7 y8 y9 yA yB hB hB1 T1 HT0 hB2
  go_upto_region 2 with fail
  generalize World.alloc _ _ = Y at T2 hB3 ⊢
  have hOpen := T2
  simp only [Cells, blk, List.cons_append, List.nil_append, and_true, Nat.reduceAdd, Nat.add_zero, Nat.zero_add] at hOpen
  obtain ⟨u0, u1, u2, u3, u4, u5, u6, u7, u8, u9, uA, y0, y1, y2, y3, y4, y5, y6, y7, y8, y9, yA, yB⟩ := hOpen
  clear T2
  go_wp2
  all_goals
    go_ret
    refine ⟨ret_bool ?_, hB3⟩
    clear HF hz hB3
    first
    | (simp_all; done)
    | (simp_all; omega)
set_option linter.unusedSimpArgs false in
set_option linter.unusedVariables false in
set_option maxRecDepth 100000 in
set_option maxHeartbeats 4000000 in
theorem runu_HOV (ki : Int) (hk : fldC ki = some [72, 79, 86]) (ak : Int) (ha la hi lo : Nat) (of mt co : Int) (cm : Bool) (a1 a2 : Option Addr) (n c m d : Nat) (w : World) : Calls Try.prog 29 #[.agg #[.int .i64 ki, .int .i64 ak, .int .u16 ha, .int .u16 la, .int .u64 hi, .int .u64 lo, .int .i64 of, .int .i64 mt, .int .i64 co, .bool cm, .slice a1 n c, .slice a2 m d]] w fun e w' => e = .returned (.bool (!anyC [72, 79, 86] (zB ak ha la hi lo of mt co cm n m) 10)) ∧ Below w.heap.size w w' := by
  have hz := fun W => run_build0 W
  have hf : ∀ W, Calls Try.prog 28 #[.int .i64 ki] W (fun e w' => e = .returned (.agg #[.bool true, .bool false, .bool true, .bool false, .bool false, .bool true, .bool false, .bool false, .bool false, .bool true, .bool false]) ∧ Below W.heap.size W w') := fun W => by
    have h := rfields_any ki W
    rw [hk] at h
    exact h
  have hB := (Below.refl w.heap.size w).alloc (Nat.le_refl _) (.cells #[.int .i64 ki, .int .i64 ak, .int .u16 ha, .int .u16 la, .int .u64 hi, .int .u64 lo, .int .i64 of, .int .i64 mt, .int .i64 co, .bool cm, .slice a1 n c, .slice a2 m d] 29)
  have T0 := cells_new w [.int .i64 ki, .int .i64 ak, .int .u16 ha, .int .u16 la, .int .u64 hi, .int .u64 lo, .int .i64 of, .int .i64 mt, .int .i64 co, .bool cm, .slice a1 n c, .slice a2 m d] 29
  have HF := Lib.hid hf
  have hsp : (!anyC [72, 79, 86] (zB ak ha la hi lo of mt co cm n m) 10) = ((ak == 0) && ((la : Int) == 0) && (mt == 0) && (co == 0) && (!cm) && (decide (hi = 0) && decide (lo = 0)) && ((m : Int) == 0)) := by
    simp [anyC, zB, le, leF, Bool.and_assoc]
  rw [hsp]
  clear hsp hf hk
  go_enter Try.func29, Try.ntmps29
  go_upto_region 1 with fail
  generalize World.alloc _ _ = X at T0 hB ⊢
  have HT0 := Lib.hid T0
  have hOpen := T0
  simp only [Cells, blk, List.cons_append, List.nil_append, and_true, Nat.reduceAdd, Nat.add_zero, Nat.zero_add] at hOpen
  obtain ⟨y0, y1, y2, y3, y4, y5, y6, y7, y8, y9, yA, yB⟩ := hOpen
  clear T0
  go_wp2_with fail
  refine (HF.out _).mono ?_
  rintro e w1 ⟨rfl, hB1⟩
  have T1 := HT0.out.keep hB1
  have hB2 := hB.trans (hB1.mono hB.size)
  have hB3 := hB2.alloc hB2.size (.cells #[.bool true, .bool false, .bool true, .bool false, .bool false, .bool true, .bool false, .bool false, .bool false, .bool true, .bool false] 58)
  have T2 := (cells_new w1 [.bool true, .bool false, .bool true, .bool false, .bool false, .bool true, .bool false, .bool false, .bool false, .bool true, .bool false] 58).app (T1.keep ((Below.refl w1.heap.size w1).alloc (Nat.le_refl _) _))
  clear y0 y1 y2 y3 y4 y5 y6 y7 y8 y9 yA yB hB hB1 T1 HT0 hB2
  go_upto_region 2 with fail
  generalize World.alloc _ _ = Y at T2 hB3 ⊢
  have hOpen := T2
  simp only [Cells, blk, List.cons_append, List.nil_append, and_true, Nat.reduceAdd, Nat.add_zero, Nat.zero_add] at hOpen
  obtain ⟨u0, u1, u2, u3, u4, u5, u6, u7, u8, u9, uA, y0, y1, y2, y3, y4, y5, y6, y7, y8, y9, yA, yB⟩ := hOpen
  clear T2
  go_wp2
  all_goals
    go_ret
    refine ⟨ret_bool ?_, hB3⟩
    clear HF hz hB3
    first
    | (simp_all; done)
    | (simp_all; omega)
set_option linter.unusedSimpArgs false in
set_option linter.unusedVariables false in
set_option maxRecDepth 100000 in
set_option maxHeartbeats 4000000 in
theorem runu_X (ki : Int) (hk : fldC ki = some [88]) (ak : Int) (ha la hi lo : Nat) (of mt co : Int) (cm : Bool) (a1 a2 : Option Addr) (n c m d : Nat) (w : World) : Calls Try.prog 29 #[.agg #[.int .i64 ki, .int .i64 ak, .int .u16 ha, .int .u16 la, .int .u64 hi, .int .u64 lo, .int .i64 of, .int .i64 mt, .int .i64 co, .bool cm, .slice a1 n c, .slice a2 m d]] w fun e w' => e = .returned (.bool (!anyC [88] (zB ak ha la hi lo of mt co cm n m) 10)) ∧ Below w.heap.size w w' := by
  have hz := fun W => run_build0 W
  have hf : ∀ W, Calls Try.prog 28 #[.int .i64 ki] W (fun e w' => e = .returned (.agg #[.bool true, .bool false, .bool false, .bool false, .bool false, .bool false, .bool false, .bool false, .bool true, .bool false, .bool false]) ∧ Below W.heap.size W w') := fun W => by
    have h := rfields_any ki W
    rw [hk] at h
    exact h
  have hB := (Below.refl w.heap.size w).alloc (Nat.le_refl _) (.cells #[.int .i64 ki, .int .i64 ak, .int .u16 ha, .int .u16 la, .int .u64 hi, .int .u64 lo, .int .i64 of, .int .i64 mt, .int .i64 co, .bool cm, .slice a1 n c, .slice a2 m d] 29)
  have T0 := cells_new w [.int .i64 ki, .int .i64 ak, .int .u16 ha, .int .u16 la, .int .u64 hi, .int .u64 lo, .int .i64 of, .int .i64 mt, .int .i64 co, .bool cm, .slice a1 n c, .slice a2 m d] 29
  have HF := Lib.hid hf
  have hsp : (!anyC [88] (zB ak ha la hi lo of mt co cm n m) 10) = ((ak == 0) && ((ha : Int) == 0) && ((la : Int) == 0) && (of == 0) && (mt == 0) && (co == 0) && (decide (hi = 0) && decide (lo = 0)) && ((n : Int) == 0) && ((m : Int) == 0)) := by
    simp [anyC, zB, le, leF, Bool.and_assoc]
  rw [hsp]
  clear hsp hf hk
  go_enter Try.func29, Try.ntmps29
  go_upto_region 1 with fail
  generalize World.alloc _ _ = X at T0 hB ⊢
  have HT0 := Lib.hid T0
  have hOpen := T0
  simp only [Cells, blk, List.cons_append, List.nil_append, and_true, Nat.reduceAdd, Nat.add_zero, Nat.zero_add] at hOpen
  obtain ⟨y0, y1, y2, y3, y4, y5, y6, y7, y8, y9, yA, yB⟩ := hOpen
  clear T0
  go_wp2_with fail
  refine (HF.out _).mono ?_
  rintro e w1 ⟨rfl, hB1⟩
  have T1 := HT0.out.keep hB1
  have hB2 := hB.trans (hB1.mono hB.size)
  have hB3 := hB2.alloc hB2.size (.cells #[.bool true, .bool false, .bool false, .bool false, .bool false, .bool false, .bool false, .bool false, .bool true, .bool false, .bool false] 58)
  have T2 := (cells_new w1 [.bool true, .bool false, .bool false, .bool false, .bool false, .bool false, .bool false, .bool false, .bool true, .bool false, .bool false] 58).app (T1.keep ((Below.refl w1.heap.size w1).alloc (Nat.le_refl _) _))
  clear y0 y1 y2 y3 y4 y5 y6 y7 y8 y9 yA yB hB hB1 T1 HT0 hB2
  go_upto_region 2 with fail
  generalize World.alloc _ _ = Y at T2 hB3 ⊢
  have hOpen := T2
  simp only [Cells, blk, List.cons_append, List.nil_append, and_true, Nat.reduceAdd, Nat.add_zero, Nat.zero_add] at hOpen
  obtain ⟨u0, u1, u2, u3, u4, u5, u6, u7, u8, u9, uA, y0, y1, y2, y3, y4, y5, y6, y7, y8, y9, yA, yB⟩ := hOpen
  clear T2
  go_wp2
  all_goals
    go_ret
    refine ⟨ret_bool ?_, hB3⟩
    clear HF hz hB3
    first
    | (simp_all; done)
    | (simp_all; omega)
set_option linter.unusedSimpArgs false in
set_option linter.unusedVariables false in
set_option maxRecDepth 100000 in
set_option maxHeartbeats 4000000 in
theorem runu_n (ki : Int) (hk : fldC ki = some []) (ak : Int) (ha la hi lo : Nat) (of mt co : Int) (cm : Bool) (a1 a2 : Option Addr) (n c m d : Nat) (w : World) : Calls Try.prog 29 #[.agg #[.int .i64 ki, .int .i64 ak, .int .u16 ha, .int .u16 la, .int .u64 hi, .int .u64 lo, .int .i64 of, .int .i64 mt, .int .i64 co, .bool cm, .slice a1 n c, .slice a2 m d]] w fun e w' => e = .returned (.bool (!anyC [] (zB ak ha la hi lo of mt co cm n m) 10)) ∧ Below w.heap.size w w' := by
  have hz := fun W => run_build0 W
  have hf : ∀ W, Calls Try.prog 28 #[.int .i64 ki] W (fun e w' => e = .returned (.agg #[.bool true, .bool false, .bool false, .bool false, .bool false, .bool false, .bool false, .bool false, .bool false, .bool false, .bool false]) ∧ Below W.heap.size W w') := fun W => by
    have h := rfields_any ki W
    rw [hk] at h
    exact h
  have hB := (Below.refl w.heap.size w).alloc (Nat.le_refl _) (.cells #[.int .i64 ki, .int .i64 ak, .int .u16 ha, .int .u16 la, .int .u64 hi, .int .u64 lo, .int .i64 of, .int .i64 mt, .int .i64 co, .bool cm, .slice a1 n c, .slice a2 m d] 29)
  have T0 := cells_new w [.int .i64 ki, .int .i64 ak, .int .u16 ha, .int .u16 la, .int .u64 hi, .int .u64 lo, .int .i64 of, .int .i64 mt, .int .i64 co, .bool cm, .slice a1 n c, .slice a2 m d] 29
  have HF := Lib.hid hf
  have hsp : (!anyC [] (zB ak ha la hi lo of mt co cm n m) 10) = ((ak == 0) && ((ha : Int) == 0) && ((la : Int) == 0) && (of == 0) && (mt == 0) && (co == 0) && (!cm) && (decide (hi = 0) && decide (lo = 0)) && ((n : Int) == 0) && ((m : Int) == 0)) := by
    simp [anyC, zB, le, leF, Bool.and_assoc]
  rw [hsp]
  clear hsp hf hk
  go_enter Try.func29, Try.ntmps29
  go_upto_region 1 with fail
  generalize World.alloc _ _ = X at T0 hB ⊢
  have HT0 := Lib.hid T0
  have hOpen := T0
  simp only [Cells, blk, List.cons_append, List.nil_append, and_true, Nat.reduceAdd, Nat.add_zero, Nat.zero_add] at hOpen
  obtain ⟨y0, y1, y2, y3, y4, y5, y6, y7, y8, y9, yA, yB⟩ := hOpen
  clear T0
  go_wp2_with fail
  refine (HF.out _).mono ?_
  rintro e w1 ⟨rfl, hB1⟩
  have T1 := HT0.out.keep hB1
  have hB2 := hB.trans (hB1.mono hB.size)
  have hB3 := hB2.alloc hB2.size (.cells #[.bool true, .bool false, .bool false, .bool false, .bool false, .bool false, .bool false, .bool false, .bool false, .bool false, .bool false] 58)
  have T2 := (cells_new w1 [.bool true, .bool false, .bool false, .bool false, .bool false, .bool false, .bool false, .bool false, .bool false, .bool false, .bool false] 58).app (T1.keep ((Below.refl w1.heap.size w1).alloc (Nat.le_refl _) _))
  clear y0 y1 y2 y3 y4 y5 y6 y7 y8 y9 yA yB hB hB1 T1 HT0 hB2
  go_upto_region 2 with fail
  generalize World.alloc _ _ = Y at T2 hB3 ⊢
  have hOpen := T2
  simp only [Cells, blk, List.cons_append, List.nil_append, and_true, Nat.reduceAdd, Nat.add_zero, Nat.zero_add] at hOpen
  obtain ⟨u0, u1, u2, u3, u4, u5, u6, u7, u8, u9, uA, y0, y1, y2, y3, y4, y5, y6, y7, y8, y9, yA, yB⟩ := hOpen
  clear T2
  go_wp2
  all_goals
    go_ret
    refine ⟨ret_bool ?_, hB3⟩
    clear HF hz hB3
    first
    | (simp_all; done)
    | (simp_all; omega)
set_option linter.unusedSimpArgs false in
set_option linter.unusedVariables false in
set_option maxRecDepth 100000 in
set_option maxHeartbeats 4000000 in
theorem runu_I (ki : Int) (hk : fldC ki = some [73]) (ak : Int) (ha la hi lo : Nat) (of mt co : Int) (cm : Bool) (a1 a2 : Option Addr) (n c m d : Nat) (w : World) : Calls Try.prog 29 #[.agg #[.int .i64 ki, .int .i64 ak, .int .u16 ha, .int .u16 la, .int .u64 hi, .int .u64 lo, .int .i64 of, .int .i64 mt, .int .i64 co, .bool cm, .slice a1 n c, .slice a2 m d]] w fun e w' => e = .returned (.bool (!anyC [73] (zB ak ha la hi lo of mt co cm n m) 10)) ∧ Below w.heap.size w w' := by
  have hz := fun W => run_build0 W
  have hf : ∀ W, Calls Try.prog 28 #[.int .i64 ki] W (fun e w' => e = .returned (.agg #[.bool true, .bool false, .bool false, .bool false, .bool false, .bool false, .bool false, .bool false, .bool false, .bool false, .bool true]) ∧ Below W.heap.size W w') := fun W => by
    have h := rfields_any ki W
    rw [hk] at h
    exact h
  have hB := (Below.refl w.heap.size w).alloc (Nat.le_refl _) (.cells #[.int .i64 ki, .int .i64 ak, .int .u16 ha, .int .u16 la, .int .u64 hi, .int .u64 lo, .int .i64 of, .int .i64 mt, .int .i64 co, .bool cm, .slice a1 n c, .slice a2 m d] 29)
  have T0 := cells_new w [.int .i64 ki, .int .i64 ak, .int .u16 ha, .int .u16 la, .int .u64 hi, .int .u64 lo, .int .i64 of, .int .i64 mt, .int .i64 co, .bool cm, .slice a1 n c, .slice a2 m d] 29
  have HF := Lib.hid hf
  have hsp : (!anyC [73] (zB ak ha la hi lo of mt co cm n m) 10) = ((ak == 0) && ((ha : Int) == 0) && ((la : Int) == 0) && (of == 0) && (mt == 0) && (co == 0) && (!cm) && (decide (hi = 0) && decide (lo = 0)) && ((n : Int) == 0)) := by
    simp [anyC, zB, le, leF, Bool.and_assoc]
  rw [hsp]
  clear hsp hf hk
  go_enter Try.func29, Try.ntmps29
  go_upto_region 1 with fail
  generalize World.alloc _ _ = X at T0 hB ⊢
  have HT0 := Lib.hid T0
  have hOpen := T0
  simp only [Cells, blk, List.cons_append, List.nil_append, and_true, Nat.reduceAdd, Nat.add_zero, Nat.zero_add] at hOpen
  obtain ⟨y0, y1, y2, y3, y4, y5, y6, y7, y8, y9, yA, yB⟩ := hOpen
  clear T0
  go_wp2_with fail
  refine (HF.out _).mono ?_
  rintro e w1 ⟨rfl, hB1⟩
  have T1 := HT0.out.keep hB1
  have hB2 := hB.trans (hB1.mono hB.size)
  have hB3 := hB2.alloc hB2.size (.cells #[.bool true, .bool false, .bool false, .bool false, .bool false, .bool false, .bool false, .bool false, .bool false, .bool false, .bool true] 58)
  have T2 := (cells_new w1 [.bool true, .bool false, .bool false, .bool false, .bool false, .bool false, .bool false, .bool false, .bool false, .bool false, .bool true] 58).app (T1.keep ((Below.refl w1.heap.size w1).alloc (Nat.le_refl _) _))
  clear y0 y1 y2 y3 y4 y5 y6 y7 y8 y9 yA yB hB hB1 T1 HT0 hB2
  go_upto_region 2 with fail
  generalize World.alloc _ _ = Y at T2 hB3 ⊢
  have hOpen := T2
  simp only [Cells, blk, List.cons_append, List.nil_append, and_true, Nat.reduceAdd, Nat.add_zero, Nat.zero_add] at hOpen
  obtain ⟨u0, u1, u2, u3, u4, u5, u6, u7, u8, u9, uA, y0, y1, y2, y3, y4, y5, y6, y7, y8, y9, yA, yB⟩ := hOpen
  clear T2
  go_wp2
  all_goals
    go_ret
    refine ⟨ret_bool ?_, hB3⟩
    clear HF hz hB3
    first
    | (simp_all; done)
    | (simp_all; omega)
end Go.Proofs.Ythnffdlnhfhabaa
