/- client: the reference's unused, for all sets of fields. And what follows it. -/
import Derived.Test.YtldcihjddebciaaPCkA
import Derived.Test.YtldcihjddebciaaPClB
set_option linter.unusedSimpArgs false
set_option linter.unusedVariables false
set_option maxRecDepth 100000
set_option maxHeartbeats 40000000
namespace Go.Proofs.Ytldcihjddebciaa
open Go.RowKit
/-- the sets of fields -/
def SetsG1 (ki : Int) (us : List Nat) (F : List Value) : Prop := (us = [65,72,67] ∧ F = [.bool true,.bool true,.bool true,.bool false,.bool false,.bool false,.bool false,.bool true,.bool false,.bool false,.bool false] ∧ (ki == 1) = true) ∨ (us = [77] ∧ F = [.bool true,.bool false,.bool false,.bool false,.bool false,.bool false,.bool true,.bool false,.bool false,.bool false,.bool false] ∧ (ki == 1) = false) ∨ (us = [72,76] ∧ F = [.bool true,.bool false,.bool true,.bool true,.bool false,.bool false,.bool false,.bool false,.bool false,.bool false,.bool false] ∧ (ki == 1) = false) ∨ (us = [72,76,84] ∧ F = [.bool true,.bool false,.bool true,.bool true,.bool true,.bool false,.bool false,.bool false,.bool false,.bool false,.bool false] ∧ (ki == 1) = false)
def SetsG2 (ki : Int) (us : List Nat) (F : List Value) : Prop := (us = [72] ∧ F = [.bool true,.bool false,.bool true,.bool false,.bool false,.bool false,.bool false,.bool false,.bool false,.bool false,.bool false] ∧ (ki == 1) = false) ∨ (us = [72,79] ∧ F = [.bool true,.bool false,.bool true,.bool false,.bool false,.bool true,.bool false,.bool false,.bool false,.bool false,.bool false] ∧ (ki == 1) = false) ∨ (us = [86] ∧ F = [.bool true,.bool false,.bool false,.bool false,.bool false,.bool false,.bool false,.bool false,.bool false,.bool true,.bool false] ∧ (ki == 1) = false) ∨ (us = [72,86] ∧ F = [.bool true,.bool false,.bool true,.bool false,.bool false,.bool false,.bool false,.bool false,.bool false,.bool true,.bool false] ∧ (ki == 1) = false)
def SetsG3 (ki : Int) (us : List Nat) (F : List Value) : Prop := (us = [72,79,86] ∧ F = [.bool true,.bool false,.bool true,.bool false,.bool false,.bool true,.bool false,.bool false,.bool false,.bool true,.bool false] ∧ (ki == 1) = false) ∨ (us = [88] ∧ F = [.bool true,.bool false,.bool false,.bool false,.bool false,.bool false,.bool false,.bool false,.bool true,.bool false,.bool false] ∧ (ki == 1) = false) ∨ (us = [] ∧ F = [.bool true,.bool false,.bool false,.bool false,.bool false,.bool false,.bool false,.bool false,.bool false,.bool false,.bool false] ∧ (ki == 1) = false)
def SetsG4 (ki : Int) (us : List Nat) (F : List Value) : Prop := (us = [73] ∧ F = [.bool true,.bool false,.bool false,.bool false,.bool false,.bool false,.bool false,.bool false,.bool false,.bool false,.bool true] ∧ (ki == 1) = false)
def SetsOk (ki : Int) (us : List Nat) (F : List Value) : Prop := SetsG1 ki us F ∨ SetsG2 ki us F ∨ SetsG3 ki us F ∨ SetsG4 ki us F
theorem fld_sets {ki : Int} {us : List Nat} (h : fldC ki = some us) : ∃ F : List Value,useV (some us) = .agg F.toArray ∧ SetsOk ki us F := by
 rcases att_kinds ki with rfl | rfl | rfl | rfl | rfl | rfl | rfl | rfl | rfl | rfl | rfl | rfl | rfl | rfl | rfl | rfl | rfl | rfl | rfl | rfl | rfl | rfl | rfl | hne
 case' inr.inr.inr.inr.inr.inr.inr.inr.inr.inr.inr.inr.inr.inr.inr.inr.inr.inr.inr.inr.inr.inr.inr => rw [fldC_none ki hne] at h; cases h
 all_goals
  injection h with h
  subst h
  refine ⟨_,rfl,?_⟩
  simp [SetsOk,SetsG1,SetsG2,SetsG3,SetsG4,hasL]
theorem runu_any (ki : Int) {us : List Nat} (hk : fldC ki = some us) (ak : Int) (ha la hi lo : Nat) (of mt co : Int) (cm : Bool) (a1 a2 : Option Addr) (n c m d : Nat) (w : World) : Calls Try.prog 29 #[.agg #[.int .i64 ki,.int .i64 ak,.int .u16 ha,.int .u16 la,.int .u64 hi,.int .u64 lo,.int .i64 of,.int .i64 mt,.int .i64 co,.bool cm,.slice a1 n c,.slice a2 m d]] w fun e w' => e = .returned (.bool (!anyC us (zB ak ha la hi lo of mt co cm n m) 10)) ∧ Below w.heap.size w w' := by
 have hz := fun W => run_build0 W
 obtain ⟨F,hF,hs⟩ := fld_sets hk
 have hf : ∀ W,Calls Try.prog 28 #[.int .i64 ki] W (fun e w' => e = .returned (.agg F.toArray) ∧ Below W.heap.size W w') := fun W => by
  have h := rfields_any ki W
  rw [hk,hF] at h
  exact h
 have hB := (Below.refl w.heap.size w).alloc (Nat.le_refl _) (.cells #[.int .i64 ki,.int .i64 ak,.int .u16 ha,.int .u16 la,.int .u64 hi,.int .u64 lo,.int .i64 of,.int .i64 mt,.int .i64 co,.bool cm,.slice a1 n c,.slice a2 m d] 32)
 have T0 := cells_new w [.int .i64 ki,.int .i64 ak,.int .u16 ha,.int .u16 la,.int .u64 hi,.int .u64 lo,.int .i64 of,.int .i64 mt,.int .i64 co,.bool cm,.slice a1 n c,.slice a2 m d] 32
 have HF := Lib.hid hf
 have HS := Lib.hid hs
 clear hf hs hF hk
 go_enter Try.func29,Try.ntmps29
 go_upto_region 1 with fail
 generalize World.alloc _ _ = X at T0 hB ⊢
 have HT0 := Lib.hid T0
 have hOpen := T0
 simp only [Cells,blk,List.cons_append,List.nil_append,and_true,Nat.reduceAdd,Nat.add_zero,Nat.zero_add] at hOpen
 obtain ⟨y0,y1,y2,y3,y4,y5,y6,y7,y8,y9,yA,yB⟩ := hOpen
 clear T0
 go_wp2_with fail
 refine (HF.out _).mono ?_
 rintro e w1 ⟨rfl,hB1⟩
 have T1 := HT0.out.keep hB1
 have hB2 := hB.trans (hB1.mono hB.size)
 have hB3 := hB2.alloc hB2.size (.cells F.toArray 80)
 have T2 := (cells_new w1 F 80).app (T1.keep ((Below.refl w1.heap.size w1).alloc (Nat.le_refl _) _))
 clear y0 y1 y2 y3 y4 y5 y6 y7 y8 y9 yA yB hB hB1 T1 HT0 hB2
 rcases HS.out with (⟨rfl,rfl,h1⟩ | ⟨rfl,rfl,h1⟩ | ⟨rfl,rfl,h1⟩ | ⟨rfl,rfl,h1⟩) | (⟨rfl,rfl,h1⟩ | ⟨rfl,rfl,h1⟩ | ⟨rfl,rfl,h1⟩ | ⟨rfl,rfl,h1⟩) | (⟨rfl,rfl,h1⟩ | ⟨rfl,rfl,h1⟩ | ⟨rfl,rfl,h1⟩) | (⟨rfl,rfl,h1⟩)
 all_goals
  clear HS HF
  go_upto_region 2 with fail
  generalize World.alloc _ _ = Y at T2 hB3 ⊢
  have hOpen := T2
  simp only [Cells,blk,List.cons_append,List.nil_append,and_true,Nat.reduceAdd,Nat.add_zero,Nat.zero_add] at hOpen
  obtain ⟨u0,u1,u2,u3,u4,u5,u6,u7,u8,u9,uA,y0,y1,y2,y3,y4,y5,y6,y7,y8,y9,yA,yB⟩ := hOpen
  clear T2
  go_wp2
  all_goals
   go_ret
   refine ⟨ret_bool ?_,hB3⟩
   clear hz hB3 u0 u1 u2 u3 u4 u5 u6 u7 u8 u9 uA y0 y1 y2 y3 y4 y5 y6 y7 y8 y9 yA yB
   simp only [anyC,zB,le,leF]
   first
   |(simp [Bool.and_assoc]; done)
   |(simp_all [Bool.and_assoc]; done)
   |(simp_all [Bool.and_assoc]; omega)
theorem rchk_g1 (ki : Int) {us : List Nat} (hk : fldC ki = some us) {F : List Value} (hF : useV (some us) = .agg F.toArray) (hs : SetsG1 ki us F) (ak : Int) (ha la hi lo : Nat) (of mt co : Int) (cm : Bool) (a1 a2 : Option Addr) (n c m d : Nat) (its : List It) (w : World) (hits : Items w (.slice a2 m d) m its) (hm : m ≤ 1000) (hbn : ∀ t ∈ its,t.n ≤ BIGN) : Calls Try.prog 12 #[.agg #[.int .i64 ki,.int .i64 ak,.int .u16 ha,.int .u16 la,.int .u64 hi,.int .u64 lo,.int .i64 of,.int .i64 mt,.int .i64 co,.bool cm,.slice a1 n c,.slice a2 m d]] w fun e w' => e = .returned (.int .i64 (chkA ki ak ha la hi lo of mt co cm n m its)) ∧ Below w.heap.size w w' := by
 have hf : ∀ W,Calls Try.prog 28 #[.int .i64 ki] W (fun e w' => e = .returned (.agg F.toArray) ∧ Below W.heap.size W w') := fun W => by
  have h := rfields_any ki W
  rw [hk,hF] at h
  exact h
 have hun := fun W => runu_any ki hk ak ha la hi lo of mt co cm a1 a2 n c m d W
 have hcl := fun W (h : Below w.heap.size w W) => rcheckList_any ki ak ha la hi lo of mt co cm a1 a2 n c m d its W (hits.below h) hm hbn
 have hB := (Below.refl w.heap.size w).alloc (Nat.le_refl _) (.cells #[.int .i64 ki,.int .i64 ak,.int .u16 ha,.int .u16 la,.int .u64 hi,.int .u64 lo,.int .i64 of,.int .i64 mt,.int .i64 co,.bool cm,.slice a1 n c,.slice a2 m d] 32)
 have T0 := cells_new w [.int .i64 ki,.int .i64 ak,.int .u16 ha,.int .u16 la,.int .u64 hi,.int .u64 lo,.int .i64 of,.int .i64 mt,.int .i64 co,.bool cm,.slice a1 n c,.slice a2 m d] 32
 unfold chkA
 rw [hk]
 simp only
 obtain ⟨q,hq⟩ : ∃ q,anyC us (zB ak ha la hi lo of mt co cm n m) 10 = q := ⟨_,rfl⟩
 rw [hq] at hun ⊢
 obtain ⟨RES,hRES⟩ : ∃ R : Int,R = if q = true then 1 else errC us (cI ki ak ha la of mt co n its) 10 := ⟨_,rfl⟩
 rw [← hRES]
 have HRES := Lib.hid hRES
 have HF := Lib.hid hf
 have HS := Lib.hid hs
 have HUN := Lib.hid hun
 have HCL := Lib.hid hcl
 have HQ := Lib.hid hq
 clear hRES hf hs hF hun hcl hk hq hits hbn
 go_enter Try.func12,Try.ntmps12
 go_upto_region 1 with fail
 generalize World.alloc _ _ = X at T0 hB ⊢
 have HT0 := Lib.hid T0
 have hOpen := T0
 simp only [Cells,blk,List.cons_append,List.nil_append,and_true,Nat.reduceAdd,Nat.add_zero,Nat.zero_add] at hOpen
 obtain ⟨y0,y1,y2,y3,y4,y5,y6,y7,y8,y9,yA,yB⟩ := hOpen
 clear T0
 go_wp2_with fail
 refine (HF.out _).mono ?_
 rintro e w1 ⟨rfl,hB1⟩
 have T1 := HT0.out.keep hB1
 have hB2 := hB.trans (hB1.mono hB.size)
 have hB3 := hB2.alloc hB2.size (.cells F.toArray 80)
 have T2 := (cells_new w1 F 80).app (T1.keep ((Below.refl w1.heap.size w1).alloc (Nat.le_refl _) _))
 clear y0 y1 y2 y3 y4 y5 y6 y7 y8 y9 yA yB hB hB1 T1 HT0 hB2
 rcases HS.out with ⟨rfl,rfl,h1⟩ | ⟨rfl,rfl,h1⟩ | ⟨rfl,rfl,h1⟩ | ⟨rfl,rfl,h1⟩
 all_goals
  have h1' : (ki != 1) = !(ki == 1) := rfl
  rw [h1] at h1'
  clear HS HF
  go_upto_region 2 with fail
  generalize World.alloc _ _ = Y at T2 hB3 ⊢
  have HT2 := Lib.hid T2
  have hOpen := T2
  simp only [Cells,blk,List.cons_append,List.nil_append,and_true,Nat.reduceAdd,Nat.add_zero,Nat.zero_add] at hOpen
  obtain ⟨u0,u1,u2,u3,u4,u5,u6,u7,u8,u9,uA,y0,y1,y2,y3,y4,y5,y6,y7,y8,y9,yA,yB⟩ := hOpen
  clear T2
  go_wp2_with fail
  refine (HUN.out _).mono ?_
  rintro e w4 ⟨rfl,hB4⟩
  have hB5 := hB3.trans (hB4.mono hB3.size)
  have T4 := HT2.out.keep hB4
  clear u0 u1 u2 u3 u4 u5 u6 u7 u8 u9 uA y0 y1 y2 y3 y4 y5 y6 y7 y8 y9 yA yB hB3 hB4 HT2 HUN
  cases q
  ·have hres := HRES.out
   rw [if_neg (by decide)] at hres
   have HR := Lib.hid hres
   have hq := HQ.out
   clear hres HRES HQ
   try
    have g5 : decide (512 < n) = false := by simp [anyC,zB,le,leF] at hq; simp; omega
    have g5' : decide ((512 : Int) < (n : Int)) = false := by simp [anyC,zB,le,leF] at hq; simp; omega
   clear hq
   have hOpen := T4
   simp only [Cells,blk,List.cons_append,List.nil_append,and_true,Nat.reduceAdd,Nat.add_zero,Nat.zero_add] at hOpen
   obtain ⟨u0,u1,u2,u3,u4,u5,u6,u7,u8,u9,uA,y0,y1,y2,y3,y4,y5,y6,y7,y8,y9,yA,yB⟩ := hOpen
   clear T4
   go_wp2
   all_goals
    go_ret
    refine ⟨ret_eq ?_,hB5⟩
    clear HCL hB5 u0 u1 u2 u3 u4 u5 u6 u7 u8 u9 uA y0 y1 y2 y3 y4 y5 y6 y7 y8 y9 yA yB
    rw [HR.out]
    clear HR
    simp only [errC,cI,le,leF,unlessI,h1]
    first
    |(simp; done)
    |(simp_all; done)
    |(simp
      repeat' split
      all_goals first | rfl | omega | (simp_all; done) | (simp_all; omega))
    |(repeat' split
      all_goals first | rfl | omega | (simp_all; done) | (simp_all; omega))
  ·have hres := HRES.out
   rw [if_pos rfl] at hres
   have HR := Lib.hid hres
   clear hres HRES HCL
   have hOpen := T4
   simp only [Cells,blk,List.cons_append,List.nil_append,and_true,Nat.reduceAdd,Nat.add_zero,Nat.zero_add] at hOpen
   obtain ⟨u0,u1,u2,u3,u4,u5,u6,u7,u8,u9,uA,y0,y1,y2,y3,y4,y5,y6,y7,y8,y9,yA,yB⟩ := hOpen
   clear T4
   go_wp2
   go_ret
   exact ⟨ret_eq HR.out.symm,hB5⟩
theorem rchk_g2 (ki : Int) {us : List Nat} (hk : fldC ki = some us) {F : List Value} (hF : useV (some us) = .agg F.toArray) (hs : SetsG2 ki us F) (ak : Int) (ha la hi lo : Nat) (of mt co : Int) (cm : Bool) (a1 a2 : Option Addr) (n c m d : Nat) (its : List It) (w : World) (hits : Items w (.slice a2 m d) m its) (hm : m ≤ 1000) (hbn : ∀ t ∈ its,t.n ≤ BIGN) : Calls Try.prog 12 #[.agg #[.int .i64 ki,.int .i64 ak,.int .u16 ha,.int .u16 la,.int .u64 hi,.int .u64 lo,.int .i64 of,.int .i64 mt,.int .i64 co,.bool cm,.slice a1 n c,.slice a2 m d]] w fun e w' => e = .returned (.int .i64 (chkA ki ak ha la hi lo of mt co cm n m its)) ∧ Below w.heap.size w w' := by
 have hf : ∀ W,Calls Try.prog 28 #[.int .i64 ki] W (fun e w' => e = .returned (.agg F.toArray) ∧ Below W.heap.size W w') := fun W => by
  have h := rfields_any ki W
  rw [hk,hF] at h
  exact h
 have hun := fun W => runu_any ki hk ak ha la hi lo of mt co cm a1 a2 n c m d W
 have hcl := fun W (h : Below w.heap.size w W) => rcheckList_any ki ak ha la hi lo of mt co cm a1 a2 n c m d its W (hits.below h) hm hbn
 have hB := (Below.refl w.heap.size w).alloc (Nat.le_refl _) (.cells #[.int .i64 ki,.int .i64 ak,.int .u16 ha,.int .u16 la,.int .u64 hi,.int .u64 lo,.int .i64 of,.int .i64 mt,.int .i64 co,.bool cm,.slice a1 n c,.slice a2 m d] 32)
 have T0 := cells_new w [.int .i64 ki,.int .i64 ak,.int .u16 ha,.int .u16 la,.int .u64 hi,.int .u64 lo,.int .i64 of,.int .i64 mt,.int .i64 co,.bool cm,.slice a1 n c,.slice a2 m d] 32
 unfold chkA
 rw [hk]
 simp only
 obtain ⟨q,hq⟩ : ∃ q,anyC us (zB ak ha la hi lo of mt co cm n m) 10 = q := ⟨_,rfl⟩
 rw [hq] at hun ⊢
 obtain ⟨RES,hRES⟩ : ∃ R : Int,R = if q = true then 1 else errC us (cI ki ak ha la of mt co n its) 10 := ⟨_,rfl⟩
 rw [← hRES]
 have HRES := Lib.hid hRES
 have HF := Lib.hid hf
 have HS := Lib.hid hs
 have HUN := Lib.hid hun
 have HCL := Lib.hid hcl
 have HQ := Lib.hid hq
 clear hRES hf hs hF hun hcl hk hq hits hbn
 go_enter Try.func12,Try.ntmps12
 go_upto_region 1 with fail
 generalize World.alloc _ _ = X at T0 hB ⊢
 have HT0 := Lib.hid T0
 have hOpen := T0
 simp only [Cells,blk,List.cons_append,List.nil_append,and_true,Nat.reduceAdd,Nat.add_zero,Nat.zero_add] at hOpen
 obtain ⟨y0,y1,y2,y3,y4,y5,y6,y7,y8,y9,yA,yB⟩ := hOpen
 clear T0
 go_wp2_with fail
 refine (HF.out _).mono ?_
 rintro e w1 ⟨rfl,hB1⟩
 have T1 := HT0.out.keep hB1
 have hB2 := hB.trans (hB1.mono hB.size)
 have hB3 := hB2.alloc hB2.size (.cells F.toArray 80)
 have T2 := (cells_new w1 F 80).app (T1.keep ((Below.refl w1.heap.size w1).alloc (Nat.le_refl _) _))
 clear y0 y1 y2 y3 y4 y5 y6 y7 y8 y9 yA yB hB hB1 T1 HT0 hB2
 rcases HS.out with ⟨rfl,rfl,h1⟩ | ⟨rfl,rfl,h1⟩ | ⟨rfl,rfl,h1⟩ | ⟨rfl,rfl,h1⟩
 all_goals
  have h1' : (ki != 1) = !(ki == 1) := rfl
  rw [h1] at h1'
  clear HS HF
  go_upto_region 2 with fail
  generalize World.alloc _ _ = Y at T2 hB3 ⊢
  have HT2 := Lib.hid T2
  have hOpen := T2
  simp only [Cells,blk,List.cons_append,List.nil_append,and_true,Nat.reduceAdd,Nat.add_zero,Nat.zero_add] at hOpen
  obtain ⟨u0,u1,u2,u3,u4,u5,u6,u7,u8,u9,uA,y0,y1,y2,y3,y4,y5,y6,y7,y8,y9,yA,yB⟩ := hOpen
  clear T2
  go_wp2_with fail
  refine (HUN.out _).mono ?_
  rintro e w4 ⟨rfl,hB4⟩
  have hB5 := hB3.trans (hB4.mono hB3.size)
  have T4 := HT2.out.keep hB4
  clear u0 u1 u2 u3 u4 u5 u6 u7 u8 u9 uA y0 y1 y2 y3 y4 y5 y6 y7 y8 y9 yA yB hB3 hB4 HT2 HUN
  cases q
  ·have hres := HRES.out
   rw [if_neg (by decide)] at hres
   have HR := Lib.hid hres
   have hq := HQ.out
   clear hres HRES HQ
   try
    have g5 : decide (512 < n) = false := by simp [anyC,zB,le,leF] at hq; simp; omega
    have g5' : decide ((512 : Int) < (n : Int)) = false := by simp [anyC,zB,le,leF] at hq; simp; omega
   clear hq
   have hOpen := T4
   simp only [Cells,blk,List.cons_append,List.nil_append,and_true,Nat.reduceAdd,Nat.add_zero,Nat.zero_add] at hOpen
   obtain ⟨u0,u1,u2,u3,u4,u5,u6,u7,u8,u9,uA,y0,y1,y2,y3,y4,y5,y6,y7,y8,y9,yA,yB⟩ := hOpen
   clear T4
   go_wp2
   all_goals
    go_ret
    refine ⟨ret_eq ?_,hB5⟩
    clear HCL hB5 u0 u1 u2 u3 u4 u5 u6 u7 u8 u9 uA y0 y1 y2 y3 y4 y5 y6 y7 y8 y9 yA yB
    rw [HR.out]
    clear HR
    simp only [errC,cI,le,leF,unlessI,h1]
    first
    |(simp; done)
    |(simp_all; done)
    |(simp
      repeat' split
      all_goals first | rfl | omega | (simp_all; done) | (simp_all; omega))
    |(repeat' split
      all_goals first | rfl | omega | (simp_all; done) | (simp_all; omega))
  ·have hres := HRES.out
   rw [if_pos rfl] at hres
   have HR := Lib.hid hres
   clear hres HRES HCL
   have hOpen := T4
   simp only [Cells,blk,List.cons_append,List.nil_append,and_true,Nat.reduceAdd,Nat.add_zero,Nat.zero_add] at hOpen
   obtain ⟨u0,u1,u2,u3,u4,u5,u6,u7,u8,u9,uA,y0,y1,y2,y3,y4,y5,y6,y7,y8,y9,yA,yB⟩ := hOpen
   clear T4
   go_wp2
   go_ret
   exact ⟨ret_eq HR.out.symm,hB5⟩
theorem rchk_g3 (ki : Int) {us : List Nat} (hk : fldC ki = some us) {F : List Value} (hF : useV (some us) = .agg F.toArray) (hs : SetsG3 ki us F) (ak : Int) (ha la hi lo : Nat) (of mt co : Int) (cm : Bool) (a1 a2 : Option Addr) (n c m d : Nat) (its : List It) (w : World) (hits : Items w (.slice a2 m d) m its) (hm : m ≤ 1000) (hbn : ∀ t ∈ its,t.n ≤ BIGN) : Calls Try.prog 12 #[.agg #[.int .i64 ki,.int .i64 ak,.int .u16 ha,.int .u16 la,.int .u64 hi,.int .u64 lo,.int .i64 of,.int .i64 mt,.int .i64 co,.bool cm,.slice a1 n c,.slice a2 m d]] w fun e w' => e = .returned (.int .i64 (chkA ki ak ha la hi lo of mt co cm n m its)) ∧ Below w.heap.size w w' := by
 have hf : ∀ W,Calls Try.prog 28 #[.int .i64 ki] W (fun e w' => e = .returned (.agg F.toArray) ∧ Below W.heap.size W w') := fun W => by
  have h := rfields_any ki W
  rw [hk,hF] at h
  exact h
 have hun := fun W => runu_any ki hk ak ha la hi lo of mt co cm a1 a2 n c m d W
 have hcl := fun W (h : Below w.heap.size w W) => rcheckList_any ki ak ha la hi lo of mt co cm a1 a2 n c m d its W (hits.below h) hm hbn
 have hB := (Below.refl w.heap.size w).alloc (Nat.le_refl _) (.cells #[.int .i64 ki,.int .i64 ak,.int .u16 ha,.int .u16 la,.int .u64 hi,.int .u64 lo,.int .i64 of,.int .i64 mt,.int .i64 co,.bool cm,.slice a1 n c,.slice a2 m d] 32)
 have T0 := cells_new w [.int .i64 ki,.int .i64 ak,.int .u16 ha,.int .u16 la,.int .u64 hi,.int .u64 lo,.int .i64 of,.int .i64 mt,.int .i64 co,.bool cm,.slice a1 n c,.slice a2 m d] 32
 unfold chkA
 rw [hk]
 simp only
 obtain ⟨q,hq⟩ : ∃ q,anyC us (zB ak ha la hi lo of mt co cm n m) 10 = q := ⟨_,rfl⟩
 rw [hq] at hun ⊢
 obtain ⟨RES,hRES⟩ : ∃ R : Int,R = if q = true then 1 else errC us (cI ki ak ha la of mt co n its) 10 := ⟨_,rfl⟩
 rw [← hRES]
 have HRES := Lib.hid hRES
 have HF := Lib.hid hf
 have HS := Lib.hid hs
 have HUN := Lib.hid hun
 have HCL := Lib.hid hcl
 have HQ := Lib.hid hq
 clear hRES hf hs hF hun hcl hk hq hits hbn
 go_enter Try.func12,Try.ntmps12
 go_upto_region 1 with fail
 generalize World.alloc _ _ = X at T0 hB ⊢
 have HT0 := Lib.hid T0
 have hOpen := T0
 simp only [Cells,blk,List.cons_append,List.nil_append,and_true,Nat.reduceAdd,Nat.add_zero,Nat.zero_add] at hOpen
 obtain ⟨y0,y1,y2,y3,y4,y5,y6,y7,y8,y9,yA,yB⟩ := hOpen
 clear T0
 go_wp2_with fail
 refine (HF.out _).mono ?_
 rintro e w1 ⟨rfl,hB1⟩
 have T1 := HT0.out.keep hB1
 have hB2 := hB.trans (hB1.mono hB.size)
 have hB3 := hB2.alloc hB2.size (.cells F.toArray 80)
 have T2 := (cells_new w1 F 80).app (T1.keep ((Below.refl w1.heap.size w1).alloc (Nat.le_refl _) _))
 clear y0 y1 y2 y3 y4 y5 y6 y7 y8 y9 yA yB hB hB1 T1 HT0 hB2
 rcases HS.out with ⟨rfl,rfl,h1⟩ | ⟨rfl,rfl,h1⟩ | ⟨rfl,rfl,h1⟩
 all_goals
  have h1' : (ki != 1) = !(ki == 1) := rfl
  rw [h1] at h1'
  clear HS HF
  go_upto_region 2 with fail
  generalize World.alloc _ _ = Y at T2 hB3 ⊢
  have HT2 := Lib.hid T2
  have hOpen := T2
  simp only [Cells,blk,List.cons_append,List.nil_append,and_true,Nat.reduceAdd,Nat.add_zero,Nat.zero_add] at hOpen
  obtain ⟨u0,u1,u2,u3,u4,u5,u6,u7,u8,u9,uA,y0,y1,y2,y3,y4,y5,y6,y7,y8,y9,yA,yB⟩ := hOpen
  clear T2
  go_wp2_with fail
  refine (HUN.out _).mono ?_
  rintro e w4 ⟨rfl,hB4⟩
  have hB5 := hB3.trans (hB4.mono hB3.size)
  have T4 := HT2.out.keep hB4
  clear u0 u1 u2 u3 u4 u5 u6 u7 u8 u9 uA y0 y1 y2 y3 y4 y5 y6 y7 y8 y9 yA yB hB3 hB4 HT2 HUN
  cases q
  ·have hres := HRES.out
   rw [if_neg (by decide)] at hres
   have HR := Lib.hid hres
   have hq := HQ.out
   clear hres HRES HQ
   try
    have g5 : decide (512 < n) = false := by simp [anyC,zB,le,leF] at hq; simp; omega
    have g5' : decide ((512 : Int) < (n : Int)) = false := by simp [anyC,zB,le,leF] at hq; simp; omega
   clear hq
   have hOpen := T4
   simp only [Cells,blk,List.cons_append,List.nil_append,and_true,Nat.reduceAdd,Nat.add_zero,Nat.zero_add] at hOpen
   obtain ⟨u0,u1,u2,u3,u4,u5,u6,u7,u8,u9,uA,y0,y1,y2,y3,y4,y5,y6,y7,y8,y9,yA,yB⟩ := hOpen
   clear T4
   go_wp2
   all_goals
    go_ret
    refine ⟨ret_eq ?_,hB5⟩
    clear HCL hB5 u0 u1 u2 u3 u4 u5 u6 u7 u8 u9 uA y0 y1 y2 y3 y4 y5 y6 y7 y8 y9 yA yB
    rw [HR.out]
    clear HR
    simp only [errC,cI,le,leF,unlessI,h1]
    first
    |(simp; done)
    |(simp_all; done)
    |(simp
      repeat' split
      all_goals first | rfl | omega | (simp_all; done) | (simp_all; omega))
    |(repeat' split
      all_goals first | rfl | omega | (simp_all; done) | (simp_all; omega))
  ·have hres := HRES.out
   rw [if_pos rfl] at hres
   have HR := Lib.hid hres
   clear hres HRES HCL
   have hOpen := T4
   simp only [Cells,blk,List.cons_append,List.nil_append,and_true,Nat.reduceAdd,Nat.add_zero,Nat.zero_add] at hOpen
   obtain ⟨u0,u1,u2,u3,u4,u5,u6,u7,u8,u9,uA,y0,y1,y2,y3,y4,y5,y6,y7,y8,y9,yA,yB⟩ := hOpen
   clear T4
   go_wp2
   go_ret
   exact ⟨ret_eq HR.out.symm,hB5⟩
theorem rchk_g4 (ki : Int) {us : List Nat} (hk : fldC ki = some us) {F : List Value} (hF : useV (some us) = .agg F.toArray) (hs : SetsG4 ki us F) (ak : Int) (ha la hi lo : Nat) (of mt co : Int) (cm : Bool) (a1 a2 : Option Addr) (n c m d : Nat) (its : List It) (w : World) (hits : Items w (.slice a2 m d) m its) (hm : m ≤ 1000) (hbn : ∀ t ∈ its,t.n ≤ BIGN) : Calls Try.prog 12 #[.agg #[.int .i64 ki,.int .i64 ak,.int .u16 ha,.int .u16 la,.int .u64 hi,.int .u64 lo,.int .i64 of,.int .i64 mt,.int .i64 co,.bool cm,.slice a1 n c,.slice a2 m d]] w fun e w' => e = .returned (.int .i64 (chkA ki ak ha la hi lo of mt co cm n m its)) ∧ Below w.heap.size w w' := by
 have hf : ∀ W,Calls Try.prog 28 #[.int .i64 ki] W (fun e w' => e = .returned (.agg F.toArray) ∧ Below W.heap.size W w') := fun W => by
  have h := rfields_any ki W
  rw [hk,hF] at h
  exact h
 have hun := fun W => runu_any ki hk ak ha la hi lo of mt co cm a1 a2 n c m d W
 have hcl := fun W (h : Below w.heap.size w W) => rcheckList_any ki ak ha la hi lo of mt co cm a1 a2 n c m d its W (hits.below h) hm hbn
 have hB := (Below.refl w.heap.size w).alloc (Nat.le_refl _) (.cells #[.int .i64 ki,.int .i64 ak,.int .u16 ha,.int .u16 la,.int .u64 hi,.int .u64 lo,.int .i64 of,.int .i64 mt,.int .i64 co,.bool cm,.slice a1 n c,.slice a2 m d] 32)
 have T0 := cells_new w [.int .i64 ki,.int .i64 ak,.int .u16 ha,.int .u16 la,.int .u64 hi,.int .u64 lo,.int .i64 of,.int .i64 mt,.int .i64 co,.bool cm,.slice a1 n c,.slice a2 m d] 32
 unfold chkA
 rw [hk]
 simp only
 obtain ⟨q,hq⟩ : ∃ q,anyC us (zB ak ha la hi lo of mt co cm n m) 10 = q := ⟨_,rfl⟩
 rw [hq] at hun ⊢
 obtain ⟨RES,hRES⟩ : ∃ R : Int,R = if q = true then 1 else errC us (cI ki ak ha la of mt co n its) 10 := ⟨_,rfl⟩
 rw [← hRES]
 have HRES := Lib.hid hRES
 have HF := Lib.hid hf
 have HS := Lib.hid hs
 have HUN := Lib.hid hun
 have HCL := Lib.hid hcl
 have HQ := Lib.hid hq
 clear hRES hf hs hF hun hcl hk hq hits hbn
 go_enter Try.func12,Try.ntmps12
 go_upto_region 1 with fail
 generalize World.alloc _ _ = X at T0 hB ⊢
 have HT0 := Lib.hid T0
 have hOpen := T0
 simp only [Cells,blk,List.cons_append,List.nil_append,and_true,Nat.reduceAdd,Nat.add_zero,Nat.zero_add] at hOpen
 obtain ⟨y0,y1,y2,y3,y4,y5,y6,y7,y8,y9,yA,yB⟩ := hOpen
 clear T0
 go_wp2_with fail
 refine (HF.out _).mono ?_
 rintro e w1 ⟨rfl,hB1⟩
 have T1 := HT0.out.keep hB1
 have hB2 := hB.trans (hB1.mono hB.size)
 have hB3 := hB2.alloc hB2.size (.cells F.toArray 80)
 have T2 := (cells_new w1 F 80).app (T1.keep ((Below.refl w1.heap.size w1).alloc (Nat.le_refl _) _))
 clear y0 y1 y2 y3 y4 y5 y6 y7 y8 y9 yA yB hB hB1 T1 HT0 hB2
 rcases HS.out with ⟨rfl,rfl,h1⟩
 all_goals
  have h1' : (ki != 1) = !(ki == 1) := rfl
  rw [h1] at h1'
  clear HS HF
  go_upto_region 2 with fail
  generalize World.alloc _ _ = Y at T2 hB3 ⊢
  have HT2 := Lib.hid T2
  have hOpen := T2
  simp only [Cells,blk,List.cons_append,List.nil_append,and_true,Nat.reduceAdd,Nat.add_zero,Nat.zero_add] at hOpen
  obtain ⟨u0,u1,u2,u3,u4,u5,u6,u7,u8,u9,uA,y0,y1,y2,y3,y4,y5,y6,y7,y8,y9,yA,yB⟩ := hOpen
  clear T2
  go_wp2_with fail
  refine (HUN.out _).mono ?_
  rintro e w4 ⟨rfl,hB4⟩
  have hB5 := hB3.trans (hB4.mono hB3.size)
  have T4 := HT2.out.keep hB4
  clear u0 u1 u2 u3 u4 u5 u6 u7 u8 u9 uA y0 y1 y2 y3 y4 y5 y6 y7 y8 y9 yA yB hB3 hB4 HT2 HUN
  cases q
  ·have hres := HRES.out
   rw [if_neg (by decide)] at hres
   have HR := Lib.hid hres
   have hq := HQ.out
   clear hres HRES HQ
   try
    have g5 : decide (512 < n) = false := by simp [anyC,zB,le,leF] at hq; simp; omega
    have g5' : decide ((512 : Int) < (n : Int)) = false := by simp [anyC,zB,le,leF] at hq; simp; omega
   clear hq
   have hOpen := T4
   simp only [Cells,blk,List.cons_append,List.nil_append,and_true,Nat.reduceAdd,Nat.add_zero,Nat.zero_add] at hOpen
   obtain ⟨u0,u1,u2,u3,u4,u5,u6,u7,u8,u9,uA,y0,y1,y2,y3,y4,y5,y6,y7,y8,y9,yA,yB⟩ := hOpen
   clear T4
   go_wp2_with fail
   refine (HCL.out _ hB5).mono ?_
   rintro e w6 ⟨rfl,hB6⟩
   have hB7 := hB5.trans (hB6.mono hB5.size)
   clear hB6 u0 u1 u2 u3 u4 u5 u6 u7 u8 u9 uA y0 y1 y2 y3 y4 y5 y6 y7 y8 y9 yA yB HCL
   go_wp2
   go_ret
   exact ⟨ret_eq (by rw [HR.out]; simp [errC,cI,le,leF,unlessI,h1]),hB7⟩
  ·have hres := HRES.out
   rw [if_pos rfl] at hres
   have HR := Lib.hid hres
   clear hres HRES HCL
   have hOpen := T4
   simp only [Cells,blk,List.cons_append,List.nil_append,and_true,Nat.reduceAdd,Nat.add_zero,Nat.zero_add] at hOpen
   obtain ⟨u0,u1,u2,u3,u4,u5,u6,u7,u8,u9,uA,y0,y1,y2,y3,y4,y5,y6,y7,y8,y9,yA,yB⟩ := hOpen
   clear T4
   go_wp2
   go_ret
   exact ⟨ret_eq HR.out.symm,hB5⟩
theorem rchkA_none (ki : Int) (hne : ki ≠ 1 ∧ ki ≠ 2 ∧ ki ≠ 3 ∧ ki ≠ 4 ∧ ki ≠ 5 ∧ ki ≠ 8 ∧ ki ≠ 9 ∧ ki ≠ 10 ∧ ki ≠ 11 ∧ ki ≠ 12 ∧ ki ≠ 13 ∧ ki ≠ 16 ∧ ki ≠ 17 ∧ ki ≠ 18 ∧ ki ≠ 19 ∧ ki ≠ 22 ∧ ki ≠ 23 ∧ ki ≠ 24 ∧ ki ≠ 25 ∧ ki ≠ 27 ∧ ki ≠ 29 ∧ ki ≠ 30 ∧ ki ≠ 82) (ak : Int) (ha la hi lo : Nat) (of mt co : Int) (cm : Bool) (a1 a2 : Option Addr) (n c m d : Nat) (its : List It) (w : World) : Calls Try.prog 12 #[.agg #[.int .i64 ki,.int .i64 ak,.int .u16 ha,.int .u16 la,.int .u64 hi,.int .u64 lo,.int .i64 of,.int .i64 mt,.int .i64 co,.bool cm,.slice a1 n c,.slice a2 m d]] w fun e w' => e = .returned (.int .i64 (chkA ki ak ha la hi lo of mt co cm n m its)) ∧ Below w.heap.size w w' := by
 have hk := fldC_none ki hne
 have hf : ∀ W,Calls Try.prog 28 #[.int .i64 ki] W (fun e w' => e = .returned (.agg #[.bool false,.bool false,.bool false,.bool false,.bool false,.bool false,.bool false,.bool false,.bool false,.bool false,.bool false]) ∧ Below W.heap.size W w') := fun W => by
  have h := rfields_any ki W
  rw [hk] at h
  exact h
 have hchk : chkA ki ak ha la hi lo of mt co cm n m its = 12 := by unfold chkA; rw [hk]
 rw [hchk]
 have hB := (Below.refl w.heap.size w).alloc (Nat.le_refl _) (.cells #[.int .i64 ki,.int .i64 ak,.int .u16 ha,.int .u16 la,.int .u64 hi,.int .u64 lo,.int .i64 of,.int .i64 mt,.int .i64 co,.bool cm,.slice a1 n c,.slice a2 m d] 32)
 have T0 := cells_new w [.int .i64 ki,.int .i64 ak,.int .u16 ha,.int .u16 la,.int .u64 hi,.int .u64 lo,.int .i64 of,.int .i64 mt,.int .i64 co,.bool cm,.slice a1 n c,.slice a2 m d] 32
 have HF := Lib.hid hf
 clear hf hk hchk hne
 go_enter Try.func12,Try.ntmps12
 go_upto_region 1 with fail
 generalize World.alloc _ _ = X at T0 hB ⊢
 have hOpen := T0
 simp only [Cells,blk,List.cons_append,List.nil_append,and_true,Nat.reduceAdd,Nat.add_zero,Nat.zero_add] at hOpen
 obtain ⟨y0,y1,y2,y3,y4,y5,y6,y7,y8,y9,yA,yB⟩ := hOpen
 clear T0
 go_wp2_with fail
 refine (HF.out _).mono ?_
 rintro e w1 ⟨rfl,hB1⟩
 have hB2 := hB.trans (hB1.mono hB.size)
 have hB3 := hB2.alloc hB2.size (.cells #[.bool false,.bool false,.bool false,.bool false,.bool false,.bool false,.bool false,.bool false,.bool false,.bool false,.bool false] 80)
 have T2 := cells_new w1 [.bool false,.bool false,.bool false,.bool false,.bool false,.bool false,.bool false,.bool false,.bool false,.bool false,.bool false] 80
 clear y0 y1 y2 y3 y4 y5 y6 y7 y8 y9 yA yB hB hB1 hB2
 go_upto_region 2 with fail
 generalize World.alloc _ _ = Y at T2 hB3 ⊢
 have hOpen := T2
 simp only [Cells,blk,List.cons_append,List.nil_append,and_true,Nat.reduceAdd,Nat.add_zero,Nat.zero_add] at hOpen
 obtain ⟨u0,u1,u2,u3,u4,u5,u6,u7,u8,u9,uA⟩ := hOpen
 clear T2
 go_wp2
 go_ret
 exact ⟨rfl,hB3⟩
end Go.Proofs.Ytldcihjddebciaa
