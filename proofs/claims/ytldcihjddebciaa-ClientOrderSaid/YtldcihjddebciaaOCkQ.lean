/- client: the reference's Check, for all sets of fields. And what follows it. -/
import Derived.Test.YtldcihjddebciaaOCkT
import Derived.Test.YtldcihjddebciaaOCnQ
import Derived.Test.YtldcihjddebciaaOClY
set_option linter.unusedSimpArgs false
set_option linter.unusedVariables false
set_option maxRecDepth 100000
set_option maxHeartbeats 40000000
namespace Go.Proofs.Ytldcihjddebciaa
open Go.RowKit
theorem rchk_g1 (ki : Int) {us : List Nat} (hk : fldC ki = some us) {F : List Value} (hF : useV (some us) = .agg F.toArray) (hs : SetsG1 ki us F) (ak : Int) (ha la hi lo : Nat) (of mt co : Int) (cm : Bool) (a1 a2 : Option Addr) (n c m d : Nat) (its : List It) (w : World) (hits : Items w (.slice a2 m d) m its) (hm : m ≤ 1000) (hbn : ∀ t ∈ its, t.n ≤ BIGN) : Calls Try.prog 12 #[.agg #[.int .i64 ki, .int .i64 ak, .int .u16 ha, .int .u16 la, .int .u64 hi, .int .u64 lo, .int .i64 of, .int .i64 mt, .int .i64 co, .bool cm, .slice a1 n c, .slice a2 m d]] w fun e w' => e = .returned (.int .i64 (chkA ki ak ha la hi lo of mt co cm n m its)) ∧ Below w.heap.size w w' := by
  have hf : ∀ W, Calls Try.prog 28 #[.int .i64 ki] W (fun e w' => e = .returned (.agg F.toArray) ∧ Below W.heap.size W w') := fun W => by
    have h := rfields_any ki W
    rw [hk, hF] at h
    exact h
  have hun := fun W => runu_any ki hk ak ha la hi lo of mt co cm a1 a2 n c m d W
  have hcl := fun W (h : Below w.heap.size w W) => rcheckList_any ki ak ha la hi lo of mt co cm a1 a2 n c m d its W (hits.below h) hm hbn
  have hB := (Below.refl w.heap.size w).alloc (Nat.le_refl _) (.cells #[.int .i64 ki, .int .i64 ak, .int .u16 ha, .int .u16 la, .int .u64 hi, .int .u64 lo, .int .i64 of, .int .i64 mt, .int .i64 co, .bool cm, .slice a1 n c, .slice a2 m d] 32)
  have T0 := cells_new w [.int .i64 ki, .int .i64 ak, .int .u16 ha, .int .u16 la, .int .u64 hi, .int .u64 lo, .int .i64 of, .int .i64 mt, .int .i64 co, .bool cm, .slice a1 n c, .slice a2 m d] 32
  unfold chkA
  rw [hk]
  simp only
  obtain ⟨q, hq⟩ : ∃ q, anyC us (zB ak ha la hi lo of mt co cm n m) 10 = q := ⟨_, rfl⟩
  rw [hq] at hun ⊢
  obtain ⟨RES, hRES⟩ : ∃ R : Int, R = if q = true then 1 else errC us (cI ki ak ha la of mt co n its) 10 := ⟨_, rfl⟩
  rw [← hRES]
  have HRES := Lib.hid hRES
  have HF := Lib.hid hf
  have HS := Lib.hid hs
  have HUN := Lib.hid hun
  have HCL := Lib.hid hcl
  have HQ := Lib.hid hq
  clear hRES hf hs hF hun hcl hk hq hits hbn
  go_enter Try.func12, Try.ntmps12
  go_upto_region 1 with fail
  generalize World.alloc _ _ = X at T0 hB ⊢
  have HT0 := Lib.hid T0
  have hOpen := T0
  simp only [Cells, blk, List.cons_append, List.nil_append, and_true, Nat.reduceAdd, Nat.add_zero, Nat.zero_add] at hOpen
  obtain ⟨y0, y1, y2, y3, y4, y5, y6, y7, y8, y9, yA, yB⟩ := hOpen
  clear T0
  go_wp2_with fail
  refine (HF.out _).mono ?_
  rintro e w1 ⟨rfl, hB1⟩
  have T1 := HT0.out.keep hB1
  have hB2 := hB.trans (hB1.mono hB.size)
  have hB3 := hB2.alloc hB2.size (.cells F.toArray 80)
  have T2 := (cells_new w1 F 80).app (T1.keep ((Below.refl w1.heap.size w1).alloc (Nat.le_refl _) _))
  clear y0 y1 y2 y3 y4 y5 y6 y7 y8 y9 yA yB hB hB1 T1 HT0 hB2
  rcases HS.out with ⟨rfl, rfl, h1⟩ | ⟨rfl, rfl, h1⟩ | ⟨rfl, rfl, h1⟩ | ⟨rfl, rfl, h1⟩
  all_goals
    have h1' : (ki != 1) = !(ki == 1) := rfl
    rw [h1] at h1'
    clear HS HF
    go_upto_region 2 with fail
    generalize World.alloc _ _ = Y at T2 hB3 ⊢
    have HT2 := Lib.hid T2
    have hOpen := T2
    simp only [Cells, blk, List.cons_append, List.nil_append, and_true, Nat.reduceAdd, Nat.add_zero, Nat.zero_add] at hOpen
    obtain ⟨u0, u1, u2, u3, u4, u5, u6, u7, u8, u9, uA, y0, y1, y2, y3, y4, y5, y6, y7, y8, y9, yA, yB⟩ := hOpen
    clear T2
    go_wp2_with fail
    refine (HUN.out _).mono ?_
    rintro e w4 ⟨rfl, hB4⟩
    have hB5 := hB3.trans (hB4.mono hB3.size)
    have T4 := HT2.out.keep hB4
    clear u0 u1 u2 u3 u4 u5 u6 u7 u8 u9 uA y0 y1 y2 y3 y4 y5 y6 y7 y8 y9 yA yB hB3 hB4 HT2 HUN
    cases q
    · have hres := HRES.out
      rw [if_neg (by decide)] at hres
      have HR := Lib.hid hres
      have hq := HQ.out
      clear hres HRES HQ
      try
        have g5 : decide (512 < n) = false := by simp [anyC, zB, le, leF] at hq; simp; omega
        have g5' : decide ((512 : Int) < (n : Int)) = false := by simp [anyC, zB, le, leF] at hq; simp; omega
      clear hq
      have hOpen := T4
      simp only [Cells, blk, List.cons_append, List.nil_append, and_true, Nat.reduceAdd, Nat.add_zero, Nat.zero_add] at hOpen
      obtain ⟨u0, u1, u2, u3, u4, u5, u6, u7, u8, u9, uA, y0, y1, y2, y3, y4, y5, y6, y7, y8, y9, yA, yB⟩ := hOpen
      clear T4
      go_wp2
      all_goals
        go_ret
        refine ⟨ret_eq ?_, hB5⟩
        clear HCL hB5 u0 u1 u2 u3 u4 u5 u6 u7 u8 u9 uA y0 y1 y2 y3 y4 y5 y6 y7 y8 y9 yA yB
        rw [HR.out]
        clear HR
        simp only [errC, cI, le, leF, unlessI, h1]
        first
        | (simp; done)
        | (simp_all; done)
        | (simp
           repeat' split
           all_goals first | rfl | omega | (simp_all; done) | (simp_all; omega))
        | (repeat' split
           all_goals first | rfl | omega | (simp_all; done) | (simp_all; omega))
    · have hres := HRES.out
      rw [if_pos rfl] at hres
      have HR := Lib.hid hres
      clear hres HRES HCL
      have hOpen := T4
      simp only [Cells, blk, List.cons_append, List.nil_append, and_true, Nat.reduceAdd, Nat.add_zero, Nat.zero_add] at hOpen
      obtain ⟨u0, u1, u2, u3, u4, u5, u6, u7, u8, u9, uA, y0, y1, y2, y3, y4, y5, y6, y7, y8, y9, yA, yB⟩ := hOpen
      clear T4
      go_wp2
      go_ret
      exact ⟨ret_eq HR.out.symm, hB5⟩
theorem rchk_g2 (ki : Int) {us : List Nat} (hk : fldC ki = some us) {F : List Value} (hF : useV (some us) = .agg F.toArray) (hs : SetsG2 ki us F) (ak : Int) (ha la hi lo : Nat) (of mt co : Int) (cm : Bool) (a1 a2 : Option Addr) (n c m d : Nat) (its : List It) (w : World) (hits : Items w (.slice a2 m d) m its) (hm : m ≤ 1000) (hbn : ∀ t ∈ its, t.n ≤ BIGN) : Calls Try.prog 12 #[.agg #[.int .i64 ki, .int .i64 ak, .int .u16 ha, .int .u16 la, .int .u64 hi, .int .u64 lo, .int .i64 of, .int .i64 mt, .int .i64 co, .bool cm, .slice a1 n c, .slice a2 m d]] w fun e w' => e = .returned (.int .i64 (chkA ki ak ha la hi lo of mt co cm n m its)) ∧ Below w.heap.size w w' := by
  have hf : ∀ W, Calls Try.prog 28 #[.int .i64 ki] W (fun e w' => e = .returned (.agg F.toArray) ∧ Below W.heap.size W w') := fun W => by
    have h := rfields_any ki W
    rw [hk, hF] at h
    exact h
  have hun := fun W => runu_any ki hk ak ha la hi lo of mt co cm a1 a2 n c m d W
  have hcl := fun W (h : Below w.heap.size w W) => rcheckList_any ki ak ha la hi lo of mt co cm a1 a2 n c m d its W (hits.below h) hm hbn
  have hB := (Below.refl w.heap.size w).alloc (Nat.le_refl _) (.cells #[.int .i64 ki, .int .i64 ak, .int .u16 ha, .int .u16 la, .int .u64 hi, .int .u64 lo, .int .i64 of, .int .i64 mt, .int .i64 co, .bool cm, .slice a1 n c, .slice a2 m d] 32)
  have T0 := cells_new w [.int .i64 ki, .int .i64 ak, .int .u16 ha, .int .u16 la, .int .u64 hi, .int .u64 lo, .int .i64 of, .int .i64 mt, .int .i64 co, .bool cm, .slice a1 n c, .slice a2 m d] 32
  unfold chkA
  rw [hk]
  simp only
  obtain ⟨q, hq⟩ : ∃ q, anyC us (zB ak ha la hi lo of mt co cm n m) 10 = q := ⟨_, rfl⟩
  rw [hq] at hun ⊢
  obtain ⟨RES, hRES⟩ : ∃ R : Int, R = if q = true then 1 else errC us (cI ki ak ha la of mt co n its) 10 := ⟨_, rfl⟩
  rw [← hRES]
  have HRES := Lib.hid hRES
  have HF := Lib.hid hf
  have HS := Lib.hid hs
  have HUN := Lib.hid hun
  have HCL := Lib.hid hcl
  have HQ := Lib.hid hq
  clear hRES hf hs hF hun hcl hk hq hits hbn
  go_enter Try.func12, Try.ntmps12
  go_upto_region 1 with fail
  generalize World.alloc _ _ = X at T0 hB ⊢
  have HT0 := Lib.hid T0
  have hOpen := T0
  simp only [Cells, blk, List.cons_append, List.nil_append, and_true, Nat.reduceAdd, Nat.add_zero, Nat.zero_add] at hOpen
  obtain ⟨y0, y1, y2, y3, y4, y5, y6, y7, y8, y9, yA, yB⟩ := hOpen
  clear T0
  go_wp2_with fail
  refine (HF.out _).mono ?_
  rintro e w1 ⟨rfl, hB1⟩
  have T1 := HT0.out.keep hB1
  have hB2 := hB.trans (hB1.mono hB.size)
  have hB3 := hB2.alloc hB2.size (.cells F.toArray 80)
  have T2 := (cells_new w1 F 80).app (T1.keep ((Below.refl w1.heap.size w1).alloc (Nat.le_refl _) _))
  clear y0 y1 y2 y3 y4 y5 y6 y7 y8 y9 yA yB hB hB1 T1 HT0 hB2
  rcases HS.out with ⟨rfl, rfl, h1⟩ | ⟨rfl, rfl, h1⟩ | ⟨rfl, rfl, h1⟩ | ⟨rfl, rfl, h1⟩
  all_goals
    have h1' : (ki != 1) = !(ki == 1) := rfl
    rw [h1] at h1'
    clear HS HF
    go_upto_region 2 with fail
    generalize World.alloc _ _ = Y at T2 hB3 ⊢
    have HT2 := Lib.hid T2
    have hOpen := T2
    simp only [Cells, blk, List.cons_append, List.nil_append, and_true, Nat.reduceAdd, Nat.add_zero, Nat.zero_add] at hOpen
    obtain ⟨u0, u1, u2, u3, u4, u5, u6, u7, u8, u9, uA, y0, y1, y2, y3, y4, y5, y6, y7, y8, y9, yA, yB⟩ := hOpen
    clear T2
    go_wp2_with fail
    refine (HUN.out _).mono ?_
    rintro e w4 ⟨rfl, hB4⟩
    have hB5 := hB3.trans (hB4.mono hB3.size)
    have T4 := HT2.out.keep hB4
    clear u0 u1 u2 u3 u4 u5 u6 u7 u8 u9 uA y0 y1 y2 y3 y4 y5 y6 y7 y8 y9 yA yB hB3 hB4 HT2 HUN
    cases q
    · have hres := HRES.out
      rw [if_neg (by decide)] at hres
      have HR := Lib.hid hres
      have hq := HQ.out
      clear hres HRES HQ
      try
        have g5 : decide (512 < n) = false := by simp [anyC, zB, le, leF] at hq; simp; omega
        have g5' : decide ((512 : Int) < (n : Int)) = false := by simp [anyC, zB, le, leF] at hq; simp; omega
      clear hq
      have hOpen := T4
      simp only [Cells, blk, List.cons_append, List.nil_append, and_true, Nat.reduceAdd, Nat.add_zero, Nat.zero_add] at hOpen
      obtain ⟨u0, u1, u2, u3, u4, u5, u6, u7, u8, u9, uA, y0, y1, y2, y3, y4, y5, y6, y7, y8, y9, yA, yB⟩ := hOpen
      clear T4
      go_wp2
      all_goals
        go_ret
        refine ⟨ret_eq ?_, hB5⟩
        clear HCL hB5 u0 u1 u2 u3 u4 u5 u6 u7 u8 u9 uA y0 y1 y2 y3 y4 y5 y6 y7 y8 y9 yA yB
        rw [HR.out]
        clear HR
        simp only [errC, cI, le, leF, unlessI, h1]
        first
        | (simp; done)
        | (simp_all; done)
        | (simp
           repeat' split
           all_goals first | rfl | omega | (simp_all; done) | (simp_all; omega))
        | (repeat' split
           all_goals first | rfl | omega | (simp_all; done) | (simp_all; omega))
    · have hres := HRES.out
      rw [if_pos rfl] at hres
      have HR := Lib.hid hres
      clear hres HRES HCL
      have hOpen := T4
      simp only [Cells, blk, List.cons_append, List.nil_append, and_true, Nat.reduceAdd, Nat.add_zero, Nat.zero_add] at hOpen
      obtain ⟨u0, u1, u2, u3, u4, u5, u6, u7, u8, u9, uA, y0, y1, y2, y3, y4, y5, y6, y7, y8, y9, yA, yB⟩ := hOpen
      clear T4
      go_wp2
      go_ret
      exact ⟨ret_eq HR.out.symm, hB5⟩
theorem rchk_g3 (ki : Int) {us : List Nat} (hk : fldC ki = some us) {F : List Value} (hF : useV (some us) = .agg F.toArray) (hs : SetsG3 ki us F) (ak : Int) (ha la hi lo : Nat) (of mt co : Int) (cm : Bool) (a1 a2 : Option Addr) (n c m d : Nat) (its : List It) (w : World) (hits : Items w (.slice a2 m d) m its) (hm : m ≤ 1000) (hbn : ∀ t ∈ its, t.n ≤ BIGN) : Calls Try.prog 12 #[.agg #[.int .i64 ki, .int .i64 ak, .int .u16 ha, .int .u16 la, .int .u64 hi, .int .u64 lo, .int .i64 of, .int .i64 mt, .int .i64 co, .bool cm, .slice a1 n c, .slice a2 m d]] w fun e w' => e = .returned (.int .i64 (chkA ki ak ha la hi lo of mt co cm n m its)) ∧ Below w.heap.size w w' := by
  have hf : ∀ W, Calls Try.prog 28 #[.int .i64 ki] W (fun e w' => e = .returned (.agg F.toArray) ∧ Below W.heap.size W w') := fun W => by
    have h := rfields_any ki W
    rw [hk, hF] at h
    exact h
  have hun := fun W => runu_any ki hk ak ha la hi lo of mt co cm a1 a2 n c m d W
  have hcl := fun W (h : Below w.heap.size w W) => rcheckList_any ki ak ha la hi lo of mt co cm a1 a2 n c m d its W (hits.below h) hm hbn
  have hB := (Below.refl w.heap.size w).alloc (Nat.le_refl _) (.cells #[.int .i64 ki, .int .i64 ak, .int .u16 ha, .int .u16 la, .int .u64 hi, .int .u64 lo, .int .i64 of, .int .i64 mt, .int .i64 co, .bool cm, .slice a1 n c, .slice a2 m d] 32)
  have T0 := cells_new w [.int .i64 ki, .int .i64 ak, .int .u16 ha, .int .u16 la, .int .u64 hi, .int .u64 lo, .int .i64 of, .int .i64 mt, .int .i64 co, .bool cm, .slice a1 n c, .slice a2 m d] 32
  unfold chkA
  rw [hk]
  simp only
  obtain ⟨q, hq⟩ : ∃ q, anyC us (zB ak ha la hi lo of mt co cm n m) 10 = q := ⟨_, rfl⟩
  rw [hq] at hun ⊢
  obtain ⟨RES, hRES⟩ : ∃ R : Int, R = if q = true then 1 else errC us (cI ki ak ha la of mt co n its) 10 := ⟨_, rfl⟩
  rw [← hRES]
  have HRES := Lib.hid hRES
  have HF := Lib.hid hf
  have HS := Lib.hid hs
  have HUN := Lib.hid hun
  have HCL := Lib.hid hcl
  have HQ := Lib.hid hq
  clear hRES hf hs hF hun hcl hk hq hits hbn
  go_enter Try.func12, Try.ntmps12
  go_upto_region 1 with fail
  generalize World.alloc _ _ = X at T0 hB ⊢
  have HT0 := Lib.hid T0
  have hOpen := T0
  simp only [Cells, blk, List.cons_append, List.nil_append, and_true, Nat.reduceAdd, Nat.add_zero, Nat.zero_add] at hOpen
  obtain ⟨y0, y1, y2, y3, y4, y5, y6, y7, y8, y9, yA, yB⟩ := hOpen
  clear T0
  go_wp2_with fail
  refine (HF.out _).mono ?_
  rintro e w1 ⟨rfl, hB1⟩
  have T1 := HT0.out.keep hB1
  have hB2 := hB.trans (hB1.mono hB.size)
  have hB3 := hB2.alloc hB2.size (.cells F.toArray 80)
  have T2 := (cells_new w1 F 80).app (T1.keep ((Below.refl w1.heap.size w1).alloc (Nat.le_refl _) _))
  clear y0 y1 y2 y3 y4 y5 y6 y7 y8 y9 yA yB hB hB1 T1 HT0 hB2
  rcases HS.out with ⟨rfl, rfl, h1⟩ | ⟨rfl, rfl, h1⟩ | ⟨rfl, rfl, h1⟩
  all_goals
    have h1' : (ki != 1) = !(ki == 1) := rfl
    rw [h1] at h1'
    clear HS HF
    go_upto_region 2 with fail
    generalize World.alloc _ _ = Y at T2 hB3 ⊢
    have HT2 := Lib.hid T2
    have hOpen := T2
    simp only [Cells, blk, List.cons_append, List.nil_append, and_true, Nat.reduceAdd, Nat.add_zero, Nat.zero_add] at hOpen
    obtain ⟨u0, u1, u2, u3, u4, u5, u6, u7, u8, u9, uA, y0, y1, y2, y3, y4, y5, y6, y7, y8, y9, yA, yB⟩ := hOpen
    clear T2
    go_wp2_with fail
    refine (HUN.out _).mono ?_
    rintro e w4 ⟨rfl, hB4⟩
    have hB5 := hB3.trans (hB4.mono hB3.size)
    have T4 := HT2.out.keep hB4
    clear u0 u1 u2 u3 u4 u5 u6 u7 u8 u9 uA y0 y1 y2 y3 y4 y5 y6 y7 y8 y9 yA yB hB3 hB4 HT2 HUN
    cases q
    · have hres := HRES.out
      rw [if_neg (by decide)] at hres
      have HR := Lib.hid hres
      have hq := HQ.out
      clear hres HRES HQ
      try
        have g5 : decide (512 < n) = false := by simp [anyC, zB, le, leF] at hq; simp; omega
        have g5' : decide ((512 : Int) < (n : Int)) = false := by simp [anyC, zB, le, leF] at hq; simp; omega
      clear hq
      have hOpen := T4
      simp only [Cells, blk, List.cons_append, List.nil_append, and_true, Nat.reduceAdd, Nat.add_zero, Nat.zero_add] at hOpen
      obtain ⟨u0, u1, u2, u3, u4, u5, u6, u7, u8, u9, uA, y0, y1, y2, y3, y4, y5, y6, y7, y8, y9, yA, yB⟩ := hOpen
      clear T4
      go_wp2
      all_goals
        go_ret
        refine ⟨ret_eq ?_, hB5⟩
        clear HCL hB5 u0 u1 u2 u3 u4 u5 u6 u7 u8 u9 uA y0 y1 y2 y3 y4 y5 y6 y7 y8 y9 yA yB
        rw [HR.out]
        clear HR
        simp only [errC, cI, le, leF, unlessI, h1]
        first
        | (simp; done)
        | (simp_all; done)
        | (simp
           repeat' split
           all_goals first | rfl | omega | (simp_all; done) | (simp_all; omega))
        | (repeat' split
           all_goals first | rfl | omega | (simp_all; done) | (simp_all; omega))
    · have hres := HRES.out
      rw [if_pos rfl] at hres
      have HR := Lib.hid hres
      clear hres HRES HCL
      have hOpen := T4
      simp only [Cells, blk, List.cons_append, List.nil_append, and_true, Nat.reduceAdd, Nat.add_zero, Nat.zero_add] at hOpen
      obtain ⟨u0, u1, u2, u3, u4, u5, u6, u7, u8, u9, uA, y0, y1, y2, y3, y4, y5, y6, y7, y8, y9, yA, yB⟩ := hOpen
      clear T4
      go_wp2
      go_ret
      exact ⟨ret_eq HR.out.symm, hB5⟩
theorem rchk_g4 (ki : Int) {us : List Nat} (hk : fldC ki = some us) {F : List Value} (hF : useV (some us) = .agg F.toArray) (hs : SetsG4 ki us F) (ak : Int) (ha la hi lo : Nat) (of mt co : Int) (cm : Bool) (a1 a2 : Option Addr) (n c m d : Nat) (its : List It) (w : World) (hits : Items w (.slice a2 m d) m its) (hm : m ≤ 1000) (hbn : ∀ t ∈ its, t.n ≤ BIGN) : Calls Try.prog 12 #[.agg #[.int .i64 ki, .int .i64 ak, .int .u16 ha, .int .u16 la, .int .u64 hi, .int .u64 lo, .int .i64 of, .int .i64 mt, .int .i64 co, .bool cm, .slice a1 n c, .slice a2 m d]] w fun e w' => e = .returned (.int .i64 (chkA ki ak ha la hi lo of mt co cm n m its)) ∧ Below w.heap.size w w' := by
  have hf : ∀ W, Calls Try.prog 28 #[.int .i64 ki] W (fun e w' => e = .returned (.agg F.toArray) ∧ Below W.heap.size W w') := fun W => by
    have h := rfields_any ki W
    rw [hk, hF] at h
    exact h
  have hun := fun W => runu_any ki hk ak ha la hi lo of mt co cm a1 a2 n c m d W
  have hcl := fun W (h : Below w.heap.size w W) => rcheckList_any ki ak ha la hi lo of mt co cm a1 a2 n c m d its W (hits.below h) hm hbn
  have hB := (Below.refl w.heap.size w).alloc (Nat.le_refl _) (.cells #[.int .i64 ki, .int .i64 ak, .int .u16 ha, .int .u16 la, .int .u64 hi, .int .u64 lo, .int .i64 of, .int .i64 mt, .int .i64 co, .bool cm, .slice a1 n c, .slice a2 m d] 32)
  have T0 := cells_new w [.int .i64 ki, .int .i64 ak, .int .u16 ha, .int .u16 la, .int .u64 hi, .int .u64 lo, .int .i64 of, .int .i64 mt, .int .i64 co, .bool cm, .slice a1 n c, .slice a2 m d] 32
  unfold chkA
  rw [hk]
  simp only
  obtain ⟨q, hq⟩ : ∃ q, anyC us (zB ak ha la hi lo of mt co cm n m) 10 = q := ⟨_, rfl⟩
  rw [hq] at hun ⊢
  obtain ⟨RES, hRES⟩ : ∃ R : Int, R = if q = true then 1 else errC us (cI ki ak ha la of mt co n its) 10 := ⟨_, rfl⟩
  rw [← hRES]
  have HRES := Lib.hid hRES
  have HF := Lib.hid hf
  have HS := Lib.hid hs
  have HUN := Lib.hid hun
  have HCL := Lib.hid hcl
  have HQ := Lib.hid hq
  clear hRES hf hs hF hun hcl hk hq hits hbn
  go_enter Try.func12, Try.ntmps12
  go_upto_region 1 with fail
  generalize World.alloc _ _ = X at T0 hB ⊢
  have HT0 := Lib.hid T0
  have hOpen := T0
  simp only [Cells, blk, List.cons_append, List.nil_append, and_true, Nat.reduceAdd, Nat.add_zero, Nat.zero_add] at hOpen
  obtain ⟨y0, y1, y2, y3, y4, y5, y6, y7, y8, y9, yA, yB⟩ := hOpen
  clear T0
  go_wp2_with fail
  refine (HF.out _).mono ?_
  rintro e w1 ⟨rfl, hB1⟩
  have T1 := HT0.out.keep hB1
  have hB2 := hB.trans (hB1.mono hB.size)
  have hB3 := hB2.alloc hB2.size (.cells F.toArray 80)
  have T2 := (cells_new w1 F 80).app (T1.keep ((Below.refl w1.heap.size w1).alloc (Nat.le_refl _) _))
  clear y0 y1 y2 y3 y4 y5 y6 y7 y8 y9 yA yB hB hB1 T1 HT0 hB2
  rcases HS.out with ⟨rfl, rfl, h1⟩
  all_goals
    have h1' : (ki != 1) = !(ki == 1) := rfl
    rw [h1] at h1'
    clear HS HF
    go_upto_region 2 with fail
    generalize World.alloc _ _ = Y at T2 hB3 ⊢
    have HT2 := Lib.hid T2
    have hOpen := T2
    simp only [Cells, blk, List.cons_append, List.nil_append, and_true, Nat.reduceAdd, Nat.add_zero, Nat.zero_add] at hOpen
    obtain ⟨u0, u1, u2, u3, u4, u5, u6, u7, u8, u9, uA, y0, y1, y2, y3, y4, y5, y6, y7, y8, y9, yA, yB⟩ := hOpen
    clear T2
    go_wp2_with fail
    refine (HUN.out _).mono ?_
    rintro e w4 ⟨rfl, hB4⟩
    have hB5 := hB3.trans (hB4.mono hB3.size)
    have T4 := HT2.out.keep hB4
    clear u0 u1 u2 u3 u4 u5 u6 u7 u8 u9 uA y0 y1 y2 y3 y4 y5 y6 y7 y8 y9 yA yB hB3 hB4 HT2 HUN
    cases q
    · have hres := HRES.out
      rw [if_neg (by decide)] at hres
      have HR := Lib.hid hres
      have hq := HQ.out
      clear hres HRES HQ
      try
        have g5 : decide (512 < n) = false := by simp [anyC, zB, le, leF] at hq; simp; omega
        have g5' : decide ((512 : Int) < (n : Int)) = false := by simp [anyC, zB, le, leF] at hq; simp; omega
      clear hq
      have hOpen := T4
      simp only [Cells, blk, List.cons_append, List.nil_append, and_true, Nat.reduceAdd, Nat.add_zero, Nat.zero_add] at hOpen
      obtain ⟨u0, u1, u2, u3, u4, u5, u6, u7, u8, u9, uA, y0, y1, y2, y3, y4, y5, y6, y7, y8, y9, yA, yB⟩ := hOpen
      clear T4
      go_wp2_with fail
      refine (HCL.out _ hB5).mono ?_
      rintro e w6 ⟨rfl, hB6⟩
      have hB7 := hB5.trans (hB6.mono hB5.size)
      clear hB6 u0 u1 u2 u3 u4 u5 u6 u7 u8 u9 uA y0 y1 y2 y3 y4 y5 y6 y7 y8 y9 yA yB HCL
      go_wp2
      go_ret
      exact ⟨ret_eq (by rw [HR.out]; simp [errC, cI, le, leF, unlessI, h1]), hB7⟩
    · have hres := HRES.out
      rw [if_pos rfl] at hres
      have HR := Lib.hid hres
      clear hres HRES HCL
      have hOpen := T4
      simp only [Cells, blk, List.cons_append, List.nil_append, and_true, Nat.reduceAdd, Nat.add_zero, Nat.zero_add] at hOpen
      obtain ⟨u0, u1, u2, u3, u4, u5, u6, u7, u8, u9, uA, y0, y1, y2, y3, y4, y5, y6, y7, y8, y9, yA, yB⟩ := hOpen
      clear T4
      go_wp2
      go_ret
      exact ⟨ret_eq HR.out.symm, hB5⟩
theorem rchkA_none (ki : Int) (hne : ki ≠ 1 ∧ ki ≠ 2 ∧ ki ≠ 3 ∧ ki ≠ 4 ∧ ki ≠ 5 ∧ ki ≠ 8 ∧ ki ≠ 9 ∧ ki ≠ 10 ∧ ki ≠ 11 ∧ ki ≠ 12 ∧ ki ≠ 13 ∧ ki ≠ 16 ∧ ki ≠ 17 ∧ ki ≠ 18 ∧ ki ≠ 19 ∧ ki ≠ 22 ∧ ki ≠ 23 ∧ ki ≠ 24 ∧ ki ≠ 25 ∧ ki ≠ 27 ∧ ki ≠ 29 ∧ ki ≠ 30 ∧ ki ≠ 82) (ak : Int) (ha la hi lo : Nat) (of mt co : Int) (cm : Bool) (a1 a2 : Option Addr) (n c m d : Nat) (its : List It) (w : World) : Calls Try.prog 12 #[.agg #[.int .i64 ki, .int .i64 ak, .int .u16 ha, .int .u16 la, .int .u64 hi, .int .u64 lo, .int .i64 of, .int .i64 mt, .int .i64 co, .bool cm, .slice a1 n c, .slice a2 m d]] w fun e w' => e = .returned (.int .i64 (chkA ki ak ha la hi lo of mt co cm n m its)) ∧ Below w.heap.size w w' := by
  have hk := fldC_none ki hne
  have hf : ∀ W, Calls Try.prog 28 #[.int .i64 ki] W (fun e w' => e = .returned (.agg #[.bool false, .bool false, .bool false, .bool false, .bool false, .bool false, .bool false, .bool false, .bool false, .bool false, .bool false]) ∧ Below W.heap.size W w') := fun W => by
    have h := rfields_any ki W
    rw [hk] at h
    exact h
  have hchk : chkA ki ak ha la hi lo of mt co cm n m its = 12 := by unfold chkA; rw [hk]
  rw [hchk]
  have hB := (Below.refl w.heap.size w).alloc (Nat.le_refl _) (.cells #[.int .i64 ki, .int .i64 ak, .int .u16 ha, .int .u16 la, .int .u64 hi, .int .u64 lo, .int .i64 of, .int .i64 mt, .int .i64 co, .bool cm, .slice a1 n c, .slice a2 m d] 32)
  have T0 := cells_new w [.int .i64 ki, .int .i64 ak, .int .u16 ha, .int .u16 la, .int .u64 hi, .int .u64 lo, .int .i64 of, .int .i64 mt, .int .i64 co, .bool cm, .slice a1 n c, .slice a2 m d] 32
  have HF := Lib.hid hf
  clear hf hk hchk hne
  go_enter Try.func12, Try.ntmps12
  go_upto_region 1 with fail
  generalize World.alloc _ _ = X at T0 hB ⊢
  have hOpen := T0
  simp only [Cells, blk, List.cons_append, List.nil_append, and_true, Nat.reduceAdd, Nat.add_zero, Nat.zero_add] at hOpen
  obtain ⟨y0, y1, y2, y3, y4, y5, y6, y7, y8, y9, yA, yB⟩ := hOpen
  clear T0
  go_wp2_with fail
  refine (HF.out _).mono ?_
  rintro e w1 ⟨rfl, hB1⟩
  have hB2 := hB.trans (hB1.mono hB.size)
  have hB3 := hB2.alloc hB2.size (.cells #[.bool false, .bool false, .bool false, .bool false, .bool false, .bool false, .bool false, .bool false, .bool false, .bool false, .bool false] 80)
  have T2 := cells_new w1 [.bool false, .bool false, .bool false, .bool false, .bool false, .bool false, .bool false, .bool false, .bool false, .bool false, .bool false] 80
  clear y0 y1 y2 y3 y4 y5 y6 y7 y8 y9 yA yB hB hB1 hB2
  go_upto_region 2 with fail
  generalize World.alloc _ _ = Y at T2 hB3 ⊢
  have hOpen := T2
  simp only [Cells, blk, List.cons_append, List.nil_append, and_true, Nat.reduceAdd, Nat.add_zero, Nat.zero_add] at hOpen
  obtain ⟨u0, u1, u2, u3, u4, u5, u6, u7, u8, u9, uA⟩ := hOpen
  clear T2
  go_wp2
  go_ret
  exact ⟨rfl, hB3⟩
theorem rchk_any (ki ak : Int) (ha la hi lo : Nat) (of mt co : Int) (cm : Bool) (a1 a2 : Option Addr) (n c m d : Nat) (its : List It) (w : World) (hits : Items w (.slice a2 m d) m its) (hm : m ≤ 1000) (hbn : ∀ t ∈ its, t.n ≤ BIGN) : Calls Try.prog 12 #[.agg #[.int .i64 ki, .int .i64 ak, .int .u16 ha, .int .u16 la, .int .u64 hi, .int .u64 lo, .int .i64 of, .int .i64 mt, .int .i64 co, .bool cm, .slice a1 n c, .slice a2 m d]] w fun e w' => e = .returned (.int .i64 (chkA ki ak ha la hi lo of mt co cm n m its)) ∧ Below w.heap.size w w' := by
  cases hk : fldC ki with
  | none =>
    rcases att_kinds ki with rfl | rfl | rfl | rfl | rfl | rfl | rfl | rfl | rfl | rfl | rfl | rfl | rfl | rfl | rfl | rfl | rfl | rfl | rfl | rfl | rfl | rfl | rfl | hne
    case' inr.inr.inr.inr.inr.inr.inr.inr.inr.inr.inr.inr.inr.inr.inr.inr.inr.inr.inr.inr.inr.inr.inr => exact rchkA_none ki hne ak ha la hi lo of mt co cm a1 a2 n c m d its w
    all_goals cases hk
  | some us =>
    obtain ⟨F, hF, hs | hs | hs | hs⟩ := fld_sets hk
    · exact rchk_g1 ki hk hF hs ak ha la hi lo of mt co cm a1 a2 n c m d its w hits hm hbn
    · exact rchk_g2 ki hk hF hs ak ha la hi lo of mt co cm a1 a2 n c m d its w hits hm hbn
    · exact rchk_g3 ki hk hF hs ak ha la hi lo of mt co cm a1 a2 n c m d its w hits hm hbn
    · exact rchk_g4 ki hk hF hs ak ha la hi lo of mt co cm a1 a2 n c m d its w hits hm hbn
theorem itb_of {w : World} {iv : Value} {qs : List (Im × Value)} (h : SR w iv qs.length 5 (qs.flatMap ienc)) (hin : ∀ q ∈ qs, ItIn w q) (hl : ∀ q ∈ qs, q.1.bs.length ≤ 255) : ItB w w.heap.size iv qs :=
  ⟨h, h.lies, fun q hq => ⟨(hin q hq).1, (hin q hq).1.sr.lies, by have := hl q hq; omega⟩, fun q hq => (hin q hq).2⟩
/-- what the check of a PDU says: 0, and it may be handled -/
theorem chk_ans {w : World} {p : Pd} {qs : List (Im × Value)} (hin : ∀ q ∈ qs, ItIn w q) (hl : qs.length ≤ 300) (h : chkA p.kd p.ask p.ha p.la p.hi p.lo p.of p.mt p.co p.cm p.vs.length qs.length (qs.map itOf) = 0) :
    AnsOk p (qs.map (·.1)) ∧ ∀ q ∈ qs, q.1.bs.length ≤ 255 := by
  obtain ⟨h1, h2⟩ := chk_zero (by simp) h
  refine ⟨⟨fun hk e => h1 (by omega) (by rw [List.map_eq_nil_iff] at e; subst e; rfl), fun i hi => ?_, by simpa using hl⟩, fun q hq => ?_⟩
  · obtain ⟨q, hq, rfl⟩ := List.mem_map.1 hi
    exact ⟨(hin q hq).2.1, (hin q hq).2.2.1⟩
  · rw [← (itOf_eq (hin q hq)).2.2]
    exact h2 _ (List.mem_map.2 ⟨q, hq, rfl⟩)
theorem itb_big {w : World} {q : Im × Value} (h : ItIn w q) : (itOf q).n ≤ BIGN := by
  rw [(itOf_eq h).2.2]
  obtain ⟨_, _, _, _, hb⟩ := h.1
  have := hb.2.1
  unfold reachBytes at this
  unfold BIGN
  exact this
/-- the check of a PDU that came in -/
theorem rchk_step {w : World} {p : Pd} {pb iv : Value} {qs : List (Im × Value)} (hb : BV w pb p.vs) (hi : SR w iv qs.length 5 (qs.flatMap ienc)) (hin : ∀ q ∈ qs, ItIn w q) (hl : qs.length ≤ 300) :
    Calls Try.prog 12 #[.agg (pdc p pb iv).toArray] w fun e w' => e = .returned (.int .i64 (chkA p.kd p.ask p.ha p.la p.hi p.lo p.of p.mt p.co p.cm p.vs.length qs.length (qs.map itOf))) ∧ Below w.heap.size w w' := by
  obtain ⟨a1, c1, rfl⟩ := hb.form
  obtain ⟨a2, c2, rfl⟩ := hi.form
  exact rchk_any p.kd p.ask p.ha p.la p.hi p.lo p.of p.mt p.co p.cm a1 a2 _ c1 _ c2 (qs.map itOf) w (items_of hi hin) (by omega) (fun t ht => by
    obtain ⟨q, hq, rfl⟩ := List.mem_map.1 ht
    exact itb_big (hin q hq))
/-- the check of a request -/
theorem rchk_req {w : World} {p : Pd} {pb iv : Value} (hb : BV w pb p.vs) (hi : SR w iv 0 5 []) (ho : Okp p) :
    Calls Try.prog 12 #[.agg (pdc p pb iv).toArray] w fun e w' => e = .returned (.int .i64 0) ∧ Below w.heap.size w w' := by
  have h := rchk_step (qs := []) hb hi (by simp) (by simp)
  unfold Okp at ho
  simp only [List.map_nil, List.length_nil] at h
  rw [ho] at h
  exact h
end Go.Proofs.Ytldcihjddebciaa
