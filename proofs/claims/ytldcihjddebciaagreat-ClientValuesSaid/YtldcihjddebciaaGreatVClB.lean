/- client: the small functions of the table. -/
import Derived.Test.YtldcihjddebciaaGreatVClA
set_option linter.unusedSimpArgs false
set_option linter.unusedVariables false
set_option maxRecDepth 100000
set_option maxHeartbeats 4000000
namespace Go.Proofs.YtldcihjddebciaaGreat
open Go.RowKit
theorem fine_any (kd : Int) (fi la ha : Int) (bv : Value) (ofs : Int) (fv : Value) (bad : Bool) (w : World) : Calls Tryz.prog 63 #[.agg #[.int .i64 kd,.int .u16 fi,.int .u16 la,.int .u16 ha,bv,.int .i64 ofs,fv,.bool bad]] w fun e w' => e = .returned (.int .i64 0) ∧ Below w.heap.size w w' := by
 go_enter Tryz.func63,Tryz.ntmps63
 go_wp2
 go_ret
 exact ⟨rfl,(Below.refl _ _).alloc (Nat.le_refl _) _⟩
theorem handled_any (kd : Int) (fi la ha : Int) (bv : Value) (ofs : Int) (fv : Value) (bad : Bool) (w : World) : Calls Tryz.prog 68 #[.agg #[.int .i64 kd,.int .u16 fi,.int .u16 la,.int .u16 ha,bv,.int .i64 ofs,fv,.bool bad]] w fun e w' => e = .returned (.int .i64 (if ha = 0 then 5 else 0)) ∧ Below w.heap.size w w' := by
 by_cases h : ha = 0
 ·have g : (ha == 0) = true := by simpa using h
  rw [if_pos h]
  clear h
  go_enter Tryz.func68,Tryz.ntmps68
  go_wp2
  go_ret
  exact ⟨rfl,(Below.refl _ _).alloc (Nat.le_refl _) _⟩
 ·have g : (ha == 0) = false := by simpa using h
  rw [if_neg h]
  clear h
  go_enter Tryz.func68,Tryz.ntmps68
  go_wp2
  go_ret
  exact ⟨rfl,(Below.refl _ _).alloc (Nat.le_refl _) _⟩
theorem ranged_any (kd : Int) (fi la ha : Int) (bv : Value) (ofs : Int) (fv : Value) (bad : Bool) (w : World) : Calls Tryz.prog 66 #[.agg #[.int .i64 kd,.int .u16 fi,.int .u16 la,.int .u16 ha,bv,.int .i64 ofs,fv,.bool bad]] w fun e w' => e = .returned (.int .i64 (if fi = 0 then 5 else if la < fi then 13 else 0)) ∧ Below w.heap.size w w' := by
 by_cases h : fi = 0
 ·have g : (fi == 0) = true := by simpa using h
  rw [if_pos h]
  clear h
  go_enter Tryz.func66,Tryz.ntmps66
  go_wp2
  go_ret
  exact ⟨rfl,(Below.refl _ _).alloc (Nat.le_refl _) _⟩
 ·have g : (fi == 0) = false := by simpa using h
  rw [if_neg h]
  clear h
  by_cases h : la < fi
  ·have g2 : decide (la < fi) = true := by simpa using h
   rw [if_pos h]
   clear h
   go_enter Tryz.func66,Tryz.ntmps66
   go_wp2
   go_ret
   exact ⟨rfl,(Below.refl _ _).alloc (Nat.le_refl _) _⟩
  ·have g2 : decide (la < fi) = false := by simpa using h
   rw [if_neg h]
   clear h
   go_enter Tryz.func66,Tryz.ntmps66
   go_wp2
   go_ret
   exact ⟨rfl,(Below.refl _ _).alloc (Nat.le_refl _) _⟩
theorem short_task (kd : Int) (fi la ha : Int) (a : Option Addr) (L c : Nat) (ofs : Int) (fv : Value) (bad : Bool) (w : World) : Calls Tryz.prog 71 #[.agg #[.int .i64 kd,.int .u16 fi,.int .u16 la,.int .u16 ha,.slice a L c,.int .i64 ofs,fv,.bool bad]] w fun e w' => e = .returned (.int .i64 (if ha = 0 then 5 else if 512 < L then 4 else 0)) ∧ Below w.heap.size w w' := by
 have hb0 : Below w.heap.size w (w.alloc (.cells #[.int .i64 kd,.int .u16 fi,.int .u16 la,.int .u16 ha,.slice a L c,.int .i64 ofs,fv,.bool bad] 46)) := (Below.refl _ _).alloc (Nat.le_refl _) _
 have T := cells_new w [.int .i64 kd,.int .u16 fi,.int .u16 la,.int .u16 ha,.slice a L c,.int .i64 ofs,fv,.bool bad] 46
 have h1 := fun W => handled_any kd fi la ha (.slice a L c) ofs fv bad W
 by_cases h : ha = 0
 ·rw [if_pos h]
  simp only [if_pos h] at h1
  have H1 := Lib.hid h1
  clear h h1 T
  go_enter Tryz.func71,Tryz.ntmps71
  go_wp2_with fail
  refine (H1.out _).mono ?_
  rintro e w2 ⟨rfl,hC⟩
  have HB := Lib.hid (hb0.trans (hC.mono hb0.size))
  clear hC
  go_wp2
  go_ret
  exact ⟨rfl,HB.out⟩
 ·rw [if_neg h]
  simp only [if_neg h] at h1
  have H1 := Lib.hid h1
  have HT := Lib.hid T
  clear h h1 T
  by_cases hL : 512 < L
  ·have g : decide (512 < L) = true := by simpa using hL
   have gi : decide ((512 : Int) < (L : Int)) = true := by simp; omega
   rw [if_pos hL]
   clear hL
   go_enter Tryz.func71,Tryz.ntmps71
   go_wp2_with fail
   refine (H1.out _).mono ?_
   rintro e w2 ⟨rfl,hC⟩
   have HB := Lib.hid (hb0.trans (hC.mono hb0.size))
   have T2 := HT.out.keep hC
   have hOpen := T2
   simp only [Cells,blk,List.cons_append,List.nil_append,and_true,Nat.reduceAdd,Nat.add_zero,Nat.zero_add] at hOpen
   obtain ⟨m0,m1,m2,m3,m4,m5,m6,m7⟩ := hOpen
   clear T2 hC
   go_wp2
   go_ret
   exact ⟨rfl,HB.out⟩
  ·have g : decide (512 < L) = false := by simpa using hL
   have gi : decide ((512 : Int) < (L : Int)) = false := by simp; omega
   rw [if_neg hL]
   clear hL
   go_enter Tryz.func71,Tryz.ntmps71
   go_wp2_with fail
   refine (H1.out _).mono ?_
   rintro e w2 ⟨rfl,hC⟩
   have HB := Lib.hid (hb0.trans (hC.mono hb0.size))
   have T2 := HT.out.keep hC
   have hOpen := T2
   simp only [Cells,blk,List.cons_append,List.nil_append,and_true,Nat.reduceAdd,Nat.add_zero,Nat.zero_add] at hOpen
   obtain ⟨m0,m1,m2,m3,m4,m5,m6,m7⟩ := hOpen
   clear T2 hC
   go_wp2
   go_ret
   exact ⟨rfl,HB.out⟩
theorem bare_any (kd : Int) (fi la ha : Int) (bv : Value) (ofs : Int) (fv : Value) (bad : Bool) (w : World) : Calls Tryz.prog 64 #[.agg #[.int .i64 kd,.int .u16 fi,.int .u16 la,.int .u16 ha,bv,.int .i64 ofs,fv,.bool bad]] w fun e w' => e = .returned (.agg #[.int .i64 kd,.int .u16 0,.int .u16 0,.int .u16 0,.slice none 0 0,.int .i64 0,.slice none 0 0,.bool false]) ∧ Below w.heap.size w w' := by
 go_enter Tryz.func64,Tryz.ntmps64
 go_wp2
 refine bodyPost_ret (v := .agg #[.int .i64 kd,.int .u16 0,.int .u16 0,.int .u16 0,.slice none 0 0,.int .i64 0,.slice none 0 0,.bool false]) (by simp [results,Tryz.results64,go_sem] <;> rfl) rfl ⟨rfl,?_⟩
 exact ((Below.refl _ _).alloc (Nat.le_refl _) _).alloc (by simp) _
theorem bounds_any (kd : Int) (fi la ha : Int) (bv : Value) (ofs : Int) (fv : Value) (bad : Bool) (w : World) : Calls Tryz.prog 67 #[.agg #[.int .i64 kd,.int .u16 fi,.int .u16 la,.int .u16 ha,bv,.int .i64 ofs,fv,.bool bad]] w fun e w' => e = .returned (.agg #[.int .i64 kd,.int .u16 fi,.int .u16 la,.int .u16 0,.slice none 0 0,.int .i64 0,.slice none 0 0,.bool false]) ∧ Below w.heap.size w w' := by
 go_enter Tryz.func67,Tryz.ntmps67
 go_wp2
 refine bodyPost_ret (v := .agg #[.int .i64 kd,.int .u16 fi,.int .u16 la,.int .u16 0,.slice none 0 0,.int .i64 0,.slice none 0 0,.bool false]) (by simp [results,Tryz.results67,go_sem] <;> rfl) rfl ⟨rfl,?_⟩
 exact ((Below.refl _ _).alloc (Nat.le_refl _) _).alloc (by simp) _
theorem handle_any (kd : Int) (fi la ha : Int) (bv : Value) (ofs : Int) (fv : Value) (bad : Bool) (w : World) : Calls Tryz.prog 69 #[.agg #[.int .i64 kd,.int .u16 fi,.int .u16 la,.int .u16 ha,bv,.int .i64 ofs,fv,.bool bad]] w fun e w' => e = .returned (.agg #[.int .i64 kd,.int .u16 0,.int .u16 0,.int .u16 ha,.slice none 0 0,.int .i64 0,.slice none 0 0,.bool false]) ∧ Below w.heap.size w w' := by
 go_enter Tryz.func69,Tryz.ntmps69
 go_wp2
 refine bodyPost_ret (v := .agg #[.int .i64 kd,.int .u16 0,.int .u16 0,.int .u16 ha,.slice none 0 0,.int .i64 0,.slice none 0 0,.bool false]) (by simp [results,Tryz.results69,go_sem] <;> rfl) rfl ⟨rfl,?_⟩
 exact ((Below.refl _ _).alloc (Nat.le_refl _) _).alloc (by simp) _
theorem reading_any (xv : Value) (kd : Int) (fi la ha : Int) (bv : Value) (ofs : Int) (fv : Value) (bad : Bool) (w : World) : Calls Tryz.prog 70 #[xv,.agg #[.int .i64 kd,.int .u16 fi,.int .u16 la,.int .u16 ha,bv,.int .i64 ofs,fv,.bool bad]] w fun e w' => e = .returned (.agg #[.int .i64 10,.int .i64 0,.int .u16 ha,.int .u16 0,.int .u64 0,.int .u64 0,.int .i64 0,.int .i64 0,.int .i64 0,.bool false,.slice none 0 0,.slice none 0 0]) ∧ Below w.heap.size w w' := by
 go_enter Tryz.func70,Tryz.ntmps70
 go_wp2
 refine bodyPost_ret (v := .agg #[.int .i64 10,.int .i64 0,.int .u16 ha,.int .u16 0,.int .u64 0,.int .u64 0,.int .i64 0,.int .i64 0,.int .i64 0,.bool false,.slice none 0 0,.slice none 0 0]) (by simp [results,Tryz.results70,go_sem] <;> rfl) rfl ⟨rfl,?_⟩
 exact ((Below.refl _ _).alloc (Nat.le_refl _) _).alloc (by simp) _
theorem descs_any (xv : Value) (kd : Int) (fi la ha : Int) (bv : Value) (ofs : Int) (fv : Value) (bad : Bool) (w : World) : Calls Tryz.prog 61 #[xv,.agg #[.int .i64 kd,.int .u16 fi,.int .u16 la,.int .u16 ha,bv,.int .i64 ofs,fv,.bool bad]] w fun e w' => e = .returned (.agg #[.int .i64 4,.int .i64 0,.int .u16 fi,.int .u16 la,.int .u64 0,.int .u64 0,.int .i64 0,.int .i64 0,.int .i64 0,.bool false,.slice none 0 0,.slice none 0 0]) ∧ Below w.heap.size w w' := by
 go_enter Tryz.func61,Tryz.ntmps61
 go_wp2
 refine bodyPost_ret (v := .agg #[.int .i64 4,.int .i64 0,.int .u16 fi,.int .u16 la,.int .u64 0,.int .u64 0,.int .i64 0,.int .i64 0,.int .i64 0,.bool false,.slice none 0 0,.slice none 0 0]) (by simp [results,Tryz.results61,go_sem] <;> rfl) rfl ⟨rfl,?_⟩
 exact ((Below.refl _ _).alloc (Nat.le_refl _) _).alloc (by simp) _
end Go.Proofs.YtldcihjddebciaaGreat
