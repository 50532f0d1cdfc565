/- client: the small functions of the table. And what follows it. -/
import Derived.Test.YtldcihjddebciaaGreatDClA
set_option linter.unusedSimpArgs false
set_option linter.unusedVariables false
set_option maxRecDepth 100000
set_option maxHeartbeats 4000000
namespace Go.Proofs.YtldcihjddebciaaGreat
open Go.RowKit
theorem fine_any (kd : Int) (fi la ha : Int) (bv : Value) (ofs : Int) (fv : Value) (bad : Bool) (w : World) : Calls Tryz.prog 63 #[.agg #[.int .i64 kd,.int .u16 fi,.int .u16 la,.int .u16 ha,bv,.int .i64 ofs,fv,.bool bad]] w fun e w' => e = .returned (.int .i64 0) ∧ Below w.heap.size w w' := by
 go_enter Tryz.func63,Tryz.ntmps63
 go_wp2
 go_ret
 exact ⟨rfl,(Below.refl _ _).alloc (Nat.le_refl _) _⟩
theorem handled_any (kd : Int) (fi la ha : Int) (bv : Value) (ofs : Int) (fv : Value) (bad : Bool) (w : World) : Calls Tryz.prog 68 #[.agg #[.int .i64 kd,.int .u16 fi,.int .u16 la,.int .u16 ha,bv,.int .i64 ofs,fv,.bool bad]] w fun e w' => e = .returned (.int .i64 (if ha = 0 then 5 else 0)) ∧ Below w.heap.size w w' := by
 by_cases h : ha = 0
 ·have g : (ha == 0) = true := by simpa using h
  rw [if_pos h]
  clear h
  go_enter Tryz.func68,Tryz.ntmps68
  go_wp2
  go_ret
  exact ⟨rfl,(Below.refl _ _).alloc (Nat.le_refl _) _⟩
 ·have g : (ha == 0) = false := by simpa using h
  rw [if_neg h]
  clear h
  go_enter Tryz.func68,Tryz.ntmps68
  go_wp2
  go_ret
  exact ⟨rfl,(Below.refl _ _).alloc (Nat.le_refl _) _⟩
theorem ranged_any (kd : Int) (fi la ha : Int) (bv : Value) (ofs : Int) (fv : Value) (bad : Bool) (w : World) : Calls Tryz.prog 66 #[.agg #[.int .i64 kd,.int .u16 fi,.int .u16 la,.int .u16 ha,bv,.int .i64 ofs,fv,.bool bad]] w fun e w' => e = .returned (.int .i64 (if fi = 0 then 5 else if la < fi then 13 else 0)) ∧ Below w.heap.size w w' := by
 by_cases h : fi = 0
 ·have g : (fi == 0) = true := by simpa using h
  rw [if_pos h]
  clear h
  go_enter Tryz.func66,Tryz.ntmps66
  go_wp2
  go_ret
  exact ⟨rfl,(Below.refl _ _).alloc (Nat.le_refl _) _⟩
 ·have g : (fi == 0) = false := by simpa using h
  rw [if_neg h]
  clear h
  by_cases h : la < fi
  ·have g2 : decide (la < fi) = true := by simpa using h
   rw [if_pos h]
   clear h
   go_enter Tryz.func66,Tryz.ntmps66
   go_wp2
   go_ret
   exact ⟨rfl,(Below.refl _ _).alloc (Nat.le_refl _) _⟩
  ·have g2 : decide (la < fi) = false := by simpa using h
   rw [if_neg h]
   clear h
   go_enter Tryz.func66,Tryz.ntmps66
   go_wp2
   go_ret
   exact ⟨rfl,(Below.refl _ _).alloc (Nat.le_refl _) _⟩
theorem short_task (kd : Int) (fi la ha : Int) (a : Option Addr) (L c : Nat) (ofs : Int) (fv : Value) (bad : Bool) (w : World) : Calls Tryz.prog 71 #[.agg #[.int .i64 kd,.int .u16 fi,.int .u16 la,.int .u16 ha,.slice a L c,.int .i64 ofs,fv,.bool bad]] w fun e w' => e = .returned (.int .i64 (if ha = 0 then 5 else if 512 < L then 4 else 0)) ∧ Below w.heap.size w w' := by
 have hb0 : Below w.heap.size w (w.alloc (.cells #[.int .i64 kd,.int .u16 fi,.int .u16 la,.int .u16 ha,.slice a L c,.int .i64 ofs,fv,.bool bad] 46)) := (Below.refl _ _).alloc (Nat.le_refl _) _
 have T := cells_new w [.int .i64 kd,.int .u16 fi,.int .u16 la,.int .u16 ha,.slice a L c,.int .i64 ofs,fv,.bool bad] 46
 have h1 := fun W => handled_any kd fi la ha (.slice a L c) ofs fv bad W
 by_cases h : ha = 0
 ·rw [if_pos h]
  simp only [if_pos h] at h1
  have H1 := Lib.hid h1
  clear h h1 T
  go_enter Tryz.func71,Tryz.ntmps71
  go_wp2_with fail
  refine (H1.out _).mono ?_
  rintro e w2 ⟨rfl,hC⟩
  have HB := Lib.hid (hb0.trans (hC.mono hb0.size))
  clear hC
  go_wp2
  go_ret
  exact ⟨rfl,HB.out⟩
 ·rw [if_neg h]
  simp only [if_neg h] at h1
  have H1 := Lib.hid h1
  have HT := Lib.hid T
  clear h h1 T
  by_cases hL : 512 < L
  ·have g : decide (512 < L) = true := by simpa using hL
   have gi : decide ((512 : Int) < (L : Int)) = true := by simp; omega
   rw [if_pos hL]
   clear hL
   go_enter Tryz.func71,Tryz.ntmps71
   go_wp2_with fail
   refine (H1.out _).mono ?_
   rintro e w2 ⟨rfl,hC⟩
   have HB := Lib.hid (hb0.trans (hC.mono hb0.size))
   have T2 := HT.out.keep hC
   have hOpen := T2
   simp only [Cells,blk,List.cons_append,List.nil_append,and_true,Nat.reduceAdd,Nat.add_zero,Nat.zero_add] at hOpen
   obtain ⟨m0,m1,m2,m3,m4,m5,m6,m7⟩ := hOpen
   clear T2 hC
   go_wp2
   go_ret
   exact ⟨rfl,HB.out⟩
  ·have g : decide (512 < L) = false := by simpa using hL
   have gi : decide ((512 : Int) < (L : Int)) = false := by simp; omega
   rw [if_neg hL]
   clear hL
   go_enter Tryz.func71,Tryz.ntmps71
   go_wp2_with fail
   refine (H1.out _).mono ?_
   rintro e w2 ⟨rfl,hC⟩
   have HB := Lib.hid (hb0.trans (hC.mono hb0.size))
   have T2 := HT.out.keep hC
   have hOpen := T2
   simp only [Cells,blk,List.cons_append,List.nil_append,and_true,Nat.reduceAdd,Nat.add_zero,Nat.zero_add] at hOpen
   obtain ⟨m0,m1,m2,m3,m4,m5,m6,m7⟩ := hOpen
   clear T2 hC
   go_wp2
   go_ret
   exact ⟨rfl,HB.out⟩
theorem bare_any (kd : Int) (fi la ha : Int) (bv : Value) (ofs : Int) (fv : Value) (bad : Bool) (w : World) : Calls Tryz.prog 64 #[.agg #[.int .i64 kd,.int .u16 fi,.int .u16 la,.int .u16 ha,bv,.int .i64 ofs,fv,.bool bad]] w fun e w' => e = .returned (.agg #[.int .i64 kd,.int .u16 0,.int .u16 0,.int .u16 0,.slice none 0 0,.int .i64 0,.slice none 0 0,.bool false]) ∧ Below w.heap.size w w' := by
 go_enter Tryz.func64,Tryz.ntmps64
 go_wp2
 refine bodyPost_ret (v := .agg #[.int .i64 kd,.int .u16 0,.int .u16 0,.int .u16 0,.slice none 0 0,.int .i64 0,.slice none 0 0,.bool false]) (by simp [results,Tryz.results64,go_sem] <;> rfl) rfl ⟨rfl,?_⟩
 exact ((Below.refl _ _).alloc (Nat.le_refl _) _).alloc (by simp) _
theorem bounds_any (kd : Int) (fi la ha : Int) (bv : Value) (ofs : Int) (fv : Value) (bad : Bool) (w : World) : Calls Tryz.prog 67 #[.agg #[.int .i64 kd,.int .u16 fi,.int .u16 la,.int .u16 ha,bv,.int .i64 ofs,fv,.bool bad]] w fun e w' => e = .returned (.agg #[.int .i64 kd,.int .u16 fi,.int .u16 la,.int .u16 0,.slice none 0 0,.int .i64 0,.slice none 0 0,.bool false]) ∧ Below w.heap.size w w' := by
 go_enter Tryz.func67,Tryz.ntmps67
 go_wp2
 refine bodyPost_ret (v := .agg #[.int .i64 kd,.int .u16 fi,.int .u16 la,.int .u16 0,.slice none 0 0,.int .i64 0,.slice none 0 0,.bool false]) (by simp [results,Tryz.results67,go_sem] <;> rfl) rfl ⟨rfl,?_⟩
 exact ((Below.refl _ _).alloc (Nat.le_refl _) _).alloc (by simp) _
theorem handle_any (kd : Int) (fi la ha : Int) (bv : Value) (ofs : Int) (fv : Value) (bad : Bool) (w : World) : Calls Tryz.prog 69 #[.agg #[.int .i64 kd,.int .u16 fi,.int .u16 la,.int .u16 ha,bv,.int .i64 ofs,fv,.bool bad]] w fun e w' => e = .returned (.agg #[.int .i64 kd,.int .u16 0,.int .u16 0,.int .u16 ha,.slice none 0 0,.int .i64 0,.slice none 0 0,.bool false]) ∧ Below w.heap.size w w' := by
 go_enter Tryz.func69,Tryz.ntmps69
 go_wp2
 refine bodyPost_ret (v := .agg #[.int .i64 kd,.int .u16 0,.int .u16 0,.int .u16 ha,.slice none 0 0,.int .i64 0,.slice none 0 0,.bool false]) (by simp [results,Tryz.results69,go_sem] <;> rfl) rfl ⟨rfl,?_⟩
 exact ((Below.refl _ _).alloc (Nat.le_refl _) _).alloc (by simp) _
theorem reading_any (xv : Value) (kd : Int) (fi la ha : Int) (bv : Value) (ofs : Int) (fv : Value) (bad : Bool) (w : World) : Calls Tryz.prog 70 #[xv,.agg #[.int .i64 kd,.int .u16 fi,.int .u16 la,.int .u16 ha,bv,.int .i64 ofs,fv,.bool bad]] w fun e w' => e = .returned (.agg #[.int .i64 10,.int .i64 0,.int .u16 ha,.int .u16 0,.int .u64 0,.int .u64 0,.int .i64 0,.int .i64 0,.int .i64 0,.bool false,.slice none 0 0,.slice none 0 0]) ∧ Below w.heap.size w w' := by
 go_enter Tryz.func70,Tryz.ntmps70
 go_wp2
 refine bodyPost_ret (v := .agg #[.int .i64 10,.int .i64 0,.int .u16 ha,.int .u16 0,.int .u64 0,.int .u64 0,.int .i64 0,.int .i64 0,.int .i64 0,.bool false,.slice none 0 0,.slice none 0 0]) (by simp [results,Tryz.results70,go_sem] <;> rfl) rfl ⟨rfl,?_⟩
 exact ((Below.refl _ _).alloc (Nat.le_refl _) _).alloc (by simp) _
theorem descs_any (xv : Value) (kd : Int) (fi la ha : Int) (bv : Value) (ofs : Int) (fv : Value) (bad : Bool) (w : World) : Calls Tryz.prog 61 #[xv,.agg #[.int .i64 kd,.int .u16 fi,.int .u16 la,.int .u16 ha,bv,.int .i64 ofs,fv,.bool bad]] w fun e w' => e = .returned (.agg #[.int .i64 4,.int .i64 0,.int .u16 fi,.int .u16 la,.int .u64 0,.int .u64 0,.int .i64 0,.int .i64 0,.int .i64 0,.bool false,.slice none 0 0,.slice none 0 0]) ∧ Below w.heap.size w w' := by
 go_enter Tryz.func61,Tryz.ntmps61
 go_wp2
 refine bodyPost_ret (v := .agg #[.int .i64 4,.int .i64 0,.int .u16 fi,.int .u16 la,.int .u64 0,.int .u64 0,.int .i64 0,.int .i64 0,.int .i64 0,.bool false,.slice none 0 0,.slice none 0 0]) (by simp [results,Tryz.results61,go_sem] <;> rfl) rfl ⟨rfl,?_⟩
 exact ((Below.refl _ _).alloc (Nat.le_refl _) _).alloc (by simp) _
theorem blk_fst {b o : Nat} : ∀ {l : List Value} {j : Nat} {x : Nat × Nat × Value},x ∈ blk b o j l → x.1 = b
 |[],_,_,h => by cases h
 |v :: l,j,x,h => by
  rcases List.mem_cons.1 h with e | e
  ·rw [e]
  ·exact blk_fst e
theorem set12 {W X : World} {i : Nat} {t : TypeId} {x0 x1 x2 x3 x4 x5 x6 x7 x8 x9 x10 x11 y0 y1 y2 y3 y4 y5 y6 y7 y8 y9 y10 y11 : Value} (h : Blk W i t [x0,x1,x2,x3,x4,x5,x6,x7,x8,x9,x10,x11]) (hX : (((((((((((W.setCell ⟨i,0,none⟩ y0).setCell ⟨i,1,none⟩ y1).setCell ⟨i,2,none⟩ y2).setCell ⟨i,3,none⟩ y3).setCell ⟨i,4,none⟩ y4).setCell ⟨i,5,none⟩ y5).setCell ⟨i,6,none⟩ y6).setCell ⟨i,7,none⟩ y7).setCell ⟨i,8,none⟩ y8).setCell ⟨i,9,none⟩ y9).setCell ⟨i,10,none⟩ y10).setCell ⟨i,11,none⟩ y11 = X) : Blk X i t [y0,y1,y2,y3,y4,y5,y6,y7,y8,y9,y10,y11] ∧ W.grownBy X (some i) := by
 subst hX
 refine ⟨?_,?_⟩
 ·have h0 := h.setAt (j := 0) y0
  simp only [List.set_cons_zero] at h0
  have h1 := h0.setAt (j := 1) y1
  simp only [List.set_cons_zero,List.set_cons_succ] at h1
  have h2 := h1.setAt (j := 2) y2
  simp only [List.set_cons_zero,List.set_cons_succ] at h2
  have h3 := h2.setAt (j := 3) y3
  simp only [List.set_cons_zero,List.set_cons_succ] at h3
  have h4 := h3.setAt (j := 4) y4
  simp only [List.set_cons_zero,List.set_cons_succ] at h4
  have h5 := h4.setAt (j := 5) y5
  simp only [List.set_cons_zero,List.set_cons_succ] at h5
  have h6 := h5.setAt (j := 6) y6
  simp only [List.set_cons_zero,List.set_cons_succ] at h6
  have h7 := h6.setAt (j := 7) y7
  simp only [List.set_cons_zero,List.set_cons_succ] at h7
  have h8 := h7.setAt (j := 8) y8
  simp only [List.set_cons_zero,List.set_cons_succ] at h8
  have h9 := h8.setAt (j := 9) y9
  simp only [List.set_cons_zero,List.set_cons_succ] at h9
  have h10 := h9.setAt (j := 10) y10
  simp only [List.set_cons_zero,List.set_cons_succ] at h10
  have h11 := h10.setAt (j := 11) y11
  simp only [List.set_cons_zero,List.set_cons_succ] at h11
  exact h11
 ·exact ((((((((((((set1 W ⟨i,0,none⟩ y0).trans (set1 _ ⟨i,1,none⟩ y1)).trans (set1 _ ⟨i,2,none⟩ y2)).trans (set1 _ ⟨i,3,none⟩ y3)).trans (set1 _ ⟨i,4,none⟩ y4)).trans (set1 _ ⟨i,5,none⟩ y5)).trans (set1 _ ⟨i,6,none⟩ y6)).trans (set1 _ ⟨i,7,none⟩ y7)).trans (set1 _ ⟨i,8,none⟩ y8)).trans (set1 _ ⟨i,9,none⟩ y9)).trans (set1 _ ⟨i,10,none⟩ y10)).trans (set1 _ ⟨i,11,none⟩ y11))
theorem set8 {W X : World} {i : Nat} {t : TypeId} {x0 x1 x2 x3 x4 x5 x6 x7 y0 y1 y2 y3 y4 y5 y6 y7 : Value} (h : Blk W i t [x0,x1,x2,x3,x4,x5,x6,x7]) (hX : (((((((W.setCell ⟨i,0,none⟩ y0).setCell ⟨i,1,none⟩ y1).setCell ⟨i,2,none⟩ y2).setCell ⟨i,3,none⟩ y3).setCell ⟨i,4,none⟩ y4).setCell ⟨i,5,none⟩ y5).setCell ⟨i,6,none⟩ y6).setCell ⟨i,7,none⟩ y7 = X) : Blk X i t [y0,y1,y2,y3,y4,y5,y6,y7] ∧ W.grownBy X (some i) := by
 subst hX
 refine ⟨?_,?_⟩
 ·have h0 := h.setAt (j := 0) y0
  simp only [List.set_cons_zero] at h0
  have h1 := h0.setAt (j := 1) y1
  simp only [List.set_cons_zero,List.set_cons_succ] at h1
  have h2 := h1.setAt (j := 2) y2
  simp only [List.set_cons_zero,List.set_cons_succ] at h2
  have h3 := h2.setAt (j := 3) y3
  simp only [List.set_cons_zero,List.set_cons_succ] at h3
  have h4 := h3.setAt (j := 4) y4
  simp only [List.set_cons_zero,List.set_cons_succ] at h4
  have h5 := h4.setAt (j := 5) y5
  simp only [List.set_cons_zero,List.set_cons_succ] at h5
  have h6 := h5.setAt (j := 6) y6
  simp only [List.set_cons_zero,List.set_cons_succ] at h6
  have h7 := h6.setAt (j := 7) y7
  simp only [List.set_cons_zero,List.set_cons_succ] at h7
  exact h7
 ·exact ((((((((set1 W ⟨i,0,none⟩ y0).trans (set1 _ ⟨i,1,none⟩ y1)).trans (set1 _ ⟨i,2,none⟩ y2)).trans (set1 _ ⟨i,3,none⟩ y3)).trans (set1 _ ⟨i,4,none⟩ y4)).trans (set1 _ ⟨i,5,none⟩ y5)).trans (set1 _ ⟨i,6,none⟩ y6)).trans (set1 _ ⟨i,7,none⟩ y7))
theorem chars_any (xv : Value) (kd : Int) (fi la ha : Int) (bv : Value) (ofs : Int) (fv : Value) (bad : Bool) (w : World) : Calls Tryz.prog 59 #[xv,.agg #[.int .i64 kd,.int .u16 fi,.int .u16 la,.int .u16 ha,bv,.int .i64 ofs,fv,.bool bad]] w fun e w' => e = .returned (.agg #[.int .i64 8,.int .i64 0,.int .u16 fi,.int .u16 la,.int .u64 43993350017024,.int .u64 9223372588214596859,.int .i64 0,.int .i64 0,.int .i64 0,.bool false,.slice none 0 0,.slice none 0 0]) ∧ Below w.heap.size w w' := by
 have T0 := cells_new w [.int .i64 kd,.int .u16 fi,.int .u16 la,.int .u16 ha,bv,.int .i64 ofs,fv,.bool bad] 46
 have ha0 : Below w.heap.size w (w.alloc (.cells #[.int .i64 kd,.int .u16 fi,.int .u16 la,.int .u16 ha,bv,.int .i64 ofs,fv,.bool bad] 46)) := (Below.refl _ _).alloc (Nat.le_refl _) _
 have hz0 : (w.alloc (.cells #[.int .i64 kd,.int .u16 fi,.int .u16 la,.int .u16 ha,bv,.int .i64 ofs,fv,.bool bad] 46)).heap.size = w.heap.size + 1 := by simp
 have b0 := Blk.new (w.alloc (.cells #[.int .i64 kd,.int .u16 fi,.int .u16 la,.int .u16 ha,bv,.int .i64 ofs,fv,.bool bad] 46)) 49 [.int .i64 0,.int .i64 0,.int .u16 0,.int .u16 0,.int .u64 0,.int .u64 0,.int .i64 0,.int .i64 0,.int .i64 0,.bool false,.slice none 0 0,.slice none 0 0]
 rw [hz0] at b0
 have T1 := T0.keep ((Below.refl _ _).alloc (Nat.le_refl _) (.cells #[.int .i64 0,.int .i64 0,.int .u16 0,.int .u16 0,.int .u64 0,.int .u64 0,.int .i64 0,.int .i64 0,.int .i64 0,.bool false,.slice none 0 0,.slice none 0 0] 49))
 have hB1 : Below w.heap.size w ((w.alloc (.cells #[.int .i64 kd,.int .u16 fi,.int .u16 la,.int .u16 ha,bv,.int .i64 ofs,fv,.bool bad] 46)).alloc (.cells #[.int .i64 0,.int .i64 0,.int .u16 0,.int .u16 0,.int .u64 0,.int .u64 0,.int .i64 0,.int .i64 0,.int .i64 0,.bool false,.slice none 0 0,.slice none 0 0] 49)) := ha0.alloc ha0.size _
 go_enter Tryz.func59,Tryz.ntmps59
 go_upto_region 1 with fail
 generalize hV : World.alloc (World.alloc w _) _ = V at T1 hB1 b0 ⊢
 clear hV T0 ha0 hz0
 refine wp_region_held_drew (S := (fun W' : World => Cells W' (blk w.heap.size 0 0 [.int .i64 kd,.int .u16 fi,.int .u16 la,.int .u16 ha,bv,.int .i64 ofs,fv,.bool bad]))) (by kernel_rfl) (T1.drew) (fun hHeld => ?_)
 refine tkU 0 ?_
 refine tkU 1 ?_
 refine tkU 2 ?_
 refine tkU 3 ?_
 refine rd1 4 fun K hK => ?_
 go_simp
 go_at_call 60
 refine (short_any 10243 (by decide) _).mono ?_
 rintro e w2 ⟨rfl,hC⟩
 have bR := b0.drew.below hC
 have hBR := hB1.drew.trans (hC.mono hB1.drew.size)
 have T2 := T1.drew.keep hC
 have hOpen := bR.cells
 simp only [Cells,blk,List.cons_append,List.nil_append,and_true,Nat.reduceAdd,Nat.add_zero,Nat.zero_add] at hOpen
 obtain ⟨q0,q1,q2,q3,q4,q5,q6,q7,q8,q9,q10,q11⟩ := hOpen
 have z0 := bR.frozen 0
 have z1 := bR.frozen 1
 have z2 := bR.frozen 2
 have z3 := bR.frozen 3
 have z4 := bR.frozen 4
 have z5 := bR.frozen 5
 have z6 := bR.frozen 6
 have z7 := bR.frozen 7
 have z8 := bR.frozen 8
 have z9 := bR.frozen 9
 have z10 := bR.frozen 10
 have z11 := bR.frozen 11
 clear hHeld
 refine hK.out _ _ (T2) (fun hHeld => ?_)
 clear hK K
 try simp only [Act.put,List.setIfInBounds_toArray,List.set_cons_zero,List.set_cons_succ]
 refine tkU 5 ?_
 refine rd1 6 fun K hK => ?_
 go_simp
 generalize hY : World.setCell _ _ _ = Y
 obtain ⟨bY,hgY⟩ := set12 bR hY
 have hBY := hBR.grown hgY hBR.size (fun q hq => by cases hq; omega)
 have TY := T2.grown hgY (fun x hx => by rw [blk_fst hx]; omega)
 clear hY q0 q1 q2 q3 q4 q5 q6 q7 q8 q9 q10 q11 z0 z1 z2 z3 z4 z5 z6 z7 z8 z9 z10 z11
 clear hHeld
 refine hK.out _ _ (TY) (fun hHeld => ?_)
 clear hK K
 try simp only [Act.put,List.setIfInBounds_toArray,List.set_cons_zero,List.set_cons_succ]
 refine wpAnyH_done (by kernel_rfl) ?_ _
 have hOpen := bY.cells
 simp only [Cells,blk,List.cons_append,List.nil_append,and_true,Nat.reduceAdd,Nat.add_zero,Nat.zero_add] at hOpen
 obtain ⟨q0,q1,q2,q3,q4,q5,q6,q7,q8,q9,q10,q11⟩ := hOpen
 clear TY hHeld
 go_wp2
 refine bodyPost_ret (v := .agg #[.int .i64 8,.int .i64 0,.int .u16 fi,.int .u16 la,.int .u64 43993350017024,.int .u64 9223372588214596859,.int .i64 0,.int .i64 0,.int .i64 0,.bool false,.slice none 0 0,.slice none 0 0]) (by simp [results,Tryz.results59,go_sem,q0,q1,q2,q3,q4,q5,q6,q7,q8,q9,q10,q11]) rfl ?_
 exact ⟨rfl,hBY⟩
theorem mtu_any (X : Nat) (mx : Int) (kd : Int) (fi la ha : Int) (bv : Value) (ofs : Int) (fv : Value) (bad : Bool) (w : World) (hc : w.cell? ⟨X,1,none⟩ = some (.int .i64 mx)) : Calls Tryz.prog 62 #[.pointer (some ⟨X,0,none⟩),.agg #[.int .i64 kd,.int .u16 fi,.int .u16 la,.int .u16 ha,bv,.int .i64 ofs,fv,.bool bad]] w fun e w' => e = .returned (.agg #[.int .i64 2,.int .i64 0,.int .u16 0,.int .u16 0,.int .u64 0,.int .u64 0,.int .i64 0,.int .i64 mx,.int .i64 0,.bool false,.slice none 0 0,.slice none 0 0]) ∧ Below w.heap.size w w' := by
 have T0 := cells_new w [.int .i64 kd,.int .u16 fi,.int .u16 la,.int .u16 ha,bv,.int .i64 ofs,fv,.bool bad] 46
 have ha0 : Below w.heap.size w (w.alloc (.cells #[.int .i64 kd,.int .u16 fi,.int .u16 la,.int .u16 ha,bv,.int .i64 ofs,fv,.bool bad] 46)) := (Below.refl _ _).alloc (Nat.le_refl _) _
 have hz0 : (w.alloc (.cells #[.int .i64 kd,.int .u16 fi,.int .u16 la,.int .u16 ha,bv,.int .i64 ofs,fv,.bool bad] 46)).heap.size = w.heap.size + 1 := by simp
 have b0 := Blk.new (w.alloc (.cells #[.int .i64 kd,.int .u16 fi,.int .u16 la,.int .u16 ha,bv,.int .i64 ofs,fv,.bool bad] 46)) 49 [.int .i64 0,.int .i64 0,.int .u16 0,.int .u16 0,.int .u64 0,.int .u64 0,.int .i64 0,.int .i64 0,.int .i64 0,.bool false,.slice none 0 0,.slice none 0 0]
 rw [hz0] at b0
 have T1 := T0.keep ((Below.refl _ _).alloc (Nat.le_refl _) (.cells #[.int .i64 0,.int .i64 0,.int .u16 0,.int .u16 0,.int .u64 0,.int .u64 0,.int .i64 0,.int .i64 0,.int .i64 0,.bool false,.slice none 0 0,.slice none 0 0] 49))
 have hB1 : Below w.heap.size w ((w.alloc (.cells #[.int .i64 kd,.int .u16 fi,.int .u16 la,.int .u16 ha,bv,.int .i64 ofs,fv,.bool bad] 46)).alloc (.cells #[.int .i64 0,.int .i64 0,.int .u16 0,.int .u16 0,.int .u64 0,.int .u64 0,.int .i64 0,.int .i64 0,.int .i64 0,.bool false,.slice none 0 0,.slice none 0 0] 49)) := ha0.alloc ha0.size _
 have HC := Lib.hid hc
 clear hc
 go_enter Tryz.func62,Tryz.ntmps62
 go_upto_region 1 with fail
 generalize hV : World.alloc (World.alloc w _) _ = V at T1 hB1 b0 ⊢
 clear hV T0 ha0 hz0
 have c1 := kc HC.out hB1
 have bR := b0
 have hBR := hB1
 clear T1
 have hOpen := bR.cells
 simp only [Cells,blk,List.cons_append,List.nil_append,and_true,Nat.reduceAdd,Nat.add_zero,Nat.zero_add] at hOpen
 obtain ⟨q0,q1,q2,q3,q4,q5,q6,q7,q8,q9,q10,q11⟩ := hOpen
 have z0 := bR.frozen 0
 have z1 := bR.frozen 1
 have z2 := bR.frozen 2
 have z3 := bR.frozen 3
 have z4 := bR.frozen 4
 have z5 := bR.frozen 5
 have z6 := bR.frozen 6
 have z7 := bR.frozen 7
 have z8 := bR.frozen 8
 have z9 := bR.frozen 9
 have z10 := bR.frozen 10
 have z11 := bR.frozen 11
 go_wp2
 generalize hY : World.setCell _ _ _ = Y
 obtain ⟨bY,hgY⟩ := set12 bR hY
 have hBY := hBR.grown hgY hBR.size (fun q hq => by cases hq; omega)
 clear hY q0 q1 q2 q3 q4 q5 q6 q7 q8 q9 q10 q11 z0 z1 z2 z3 z4 z5 z6 z7 z8 z9 z10 z11
 have hOpen := bY.cells
 simp only [Cells,blk,List.cons_append,List.nil_append,and_true,Nat.reduceAdd,Nat.add_zero,Nat.zero_add] at hOpen
 obtain ⟨q0,q1,q2,q3,q4,q5,q6,q7,q8,q9,q10,q11⟩ := hOpen
 refine bodyPost_ret (v := .agg #[.int .i64 2,.int .i64 0,.int .u16 0,.int .u16 0,.int .u64 0,.int .u64 0,.int .i64 0,.int .i64 mx,.int .i64 0,.bool false,.slice none 0 0,.slice none 0 0]) (by simp [results,Tryz.results62,go_sem,q0,q1,q2,q3,q4,q5,q6,q7,q8,q9,q10,q11]) rfl ?_
 exact ⟨rfl,hBY⟩
theorem whole1_any (xv : Value) (kd : Int) (fi la ha : Int) (bv : Value) (ofs : Int) (fv : Value) (bad : Bool) (bk bn : Nat) (K : Int) (n : Nat) (hn : n < 65536) (w : World) (hk : w.cell? ⟨bk,0,none⟩ = some (.int .i64 K)) (hnn : w.cell? ⟨bn,0,none⟩ = some (.int .u16 n)) :
 Calls Tryz.prog 103 #[xv,.agg #[.int .i64 kd,.int .u16 fi,.int .u16 la,.int .u16 ha,bv,.int .i64 ofs,fv,.bool bad],.pointer (some ⟨bk,0,none⟩),.pointer (some ⟨bn,0,none⟩)] w fun e w' => e = .returned (.agg #[.int .i64 K,.int .i64 0,.int .u16 1,.int .u16 65535,.int .u64 ((n : Int) * 4294967296 + 4096),.int .u64 9223372588214596859,.int .i64 0,.int .i64 0,.int .i64 0,.bool false,.slice none 0 0,.slice none 0 0]) ∧ Below w.heap.size w w' := by
 have T0 := cells_new w [.int .i64 kd,.int .u16 fi,.int .u16 la,.int .u16 ha,bv,.int .i64 ofs,fv,.bool bad] 46
 have ha0 : Below w.heap.size w (w.alloc (.cells #[.int .i64 kd,.int .u16 fi,.int .u16 la,.int .u16 ha,bv,.int .i64 ofs,fv,.bool bad] 46)) := (Below.refl _ _).alloc (Nat.le_refl _) _
 have hz0 : (w.alloc (.cells #[.int .i64 kd,.int .u16 fi,.int .u16 la,.int .u16 ha,bv,.int .i64 ofs,fv,.bool bad] 46)).heap.size = w.heap.size + 1 := by simp
 have b0 := Blk.new (w.alloc (.cells #[.int .i64 kd,.int .u16 fi,.int .u16 la,.int .u16 ha,bv,.int .i64 ofs,fv,.bool bad] 46)) 49 [.int .i64 0,.int .i64 0,.int .u16 0,.int .u16 0,.int .u64 0,.int .u64 0,.int .i64 0,.int .i64 0,.int .i64 0,.bool false,.slice none 0 0,.slice none 0 0]
 rw [hz0] at b0
 have T1 := T0.keep ((Below.refl _ _).alloc (Nat.le_refl _) (.cells #[.int .i64 0,.int .i64 0,.int .u16 0,.int .u16 0,.int .u64 0,.int .u64 0,.int .i64 0,.int .i64 0,.int .i64 0,.bool false,.slice none 0 0,.slice none 0 0] 49))
 have hB1 : Below w.heap.size w ((w.alloc (.cells #[.int .i64 kd,.int .u16 fi,.int .u16 la,.int .u16 ha,bv,.int .i64 ofs,fv,.bool bad] 46)).alloc (.cells #[.int .i64 0,.int .i64 0,.int .u16 0,.int .u16 0,.int .u64 0,.int .u64 0,.int .i64 0,.int .i64 0,.int .i64 0,.bool false,.slice none 0 0,.slice none 0 0] 49)) := ha0.alloc ha0.size _
 have HK := Lib.hid hk
 have HN := Lib.hid hnn
 have hlk : bk < w.heap.size := World.block_lt_of_cell? w _ hk
 have hln : bn < w.heap.size := World.block_lt_of_cell? w _ hnn
 have hsh := fun W => short_any n hn W
 obtain ⟨M,hM⟩ : ∃ M : Int,(n : Int) * 4294967296 + 4096 = M := ⟨_,rfl⟩
 simp only [hM] at hsh
 rw [hM]
 have HSH := Lib.hid hsh
 clear hk hnn hsh hM
 go_enter Tryz.func103,Tryz.ntmps103
 go_upto_region 1 with fail
 generalize hV : World.alloc (World.alloc w _) _ = V at T1 hB1 b0 ⊢
 clear hV T0 ha0 hz0
 have T2 : Cells V [(bk,0,.int .i64 K),(bn,0,.int .u16 n)] := ⟨kc HK.out hB1,kc HN.out hB1,trivial⟩
 refine wp_region_held_drew (S := (fun W' : World => Cells W' [(bk,0,.int .i64 K),(bn,0,.int .u16 n)])) (by kernel_rfl) (T2.drew) (fun hHeld => ?_)
 refine tkU 0 ?_
 refine tkU 1 ?_
 refine rd1 2 fun K hK => ?_
 go_simp
 go_at_call 60
 refine (HSH.out _).mono ?_
 rintro e w2 ⟨rfl,hC⟩
 have bR := b0.drew.below hC
 have hBR := hB1.drew.trans (hC.mono hB1.drew.size)
 have T3 := T2.drew.keep hC
 have hOpen := bR.cells
 simp only [Cells,blk,List.cons_append,List.nil_append,and_true,Nat.reduceAdd,Nat.add_zero,Nat.zero_add] at hOpen
 obtain ⟨q0,q1,q2,q3,q4,q5,q6,q7,q8,q9,q10,q11⟩ := hOpen
 have z0 := bR.frozen 0
 have z1 := bR.frozen 1
 have z2 := bR.frozen 2
 have z3 := bR.frozen 3
 have z4 := bR.frozen 4
 have z5 := bR.frozen 5
 have z6 := bR.frozen 6
 have z7 := bR.frozen 7
 have z8 := bR.frozen 8
 have z9 := bR.frozen 9
 have z10 := bR.frozen 10
 have z11 := bR.frozen 11
 clear hHeld
 refine hK.out _ _ (T3) (fun hHeld => ?_)
 clear hK K
 try simp only [Act.put,List.setIfInBounds_toArray,List.set_cons_zero,List.set_cons_succ]
 refine tkU 3 ?_
 refine rd1 4 fun K hK => ?_
 go_simp
 generalize hY : World.setCell _ _ _ = Y
 obtain ⟨bY,hgY⟩ := set12 bR hY
 have hBY := hBR.grown hgY hBR.size (fun q hq => by cases hq; omega)
 have TY := T3.grown hgY (fun x hx => by simp at hx; rcases hx with rfl | rfl <;> (simp; omega))
 clear hY q0 q1 q2 q3 q4 q5 q6 q7 q8 q9 q10 q11 z0 z1 z2 z3 z4 z5 z6 z7 z8 z9 z10 z11
 clear hHeld
 refine hK.out _ _ (TY) (fun hHeld => ?_)
 clear hK K
 try simp only [Act.put,List.setIfInBounds_toArray,List.set_cons_zero,List.set_cons_succ]
 refine wpAnyH_done (by kernel_rfl) ?_ _
 have hOpen := bY.cells
 simp only [Cells,blk,List.cons_append,List.nil_append,and_true,Nat.reduceAdd,Nat.add_zero,Nat.zero_add] at hOpen
 obtain ⟨q0,q1,q2,q3,q4,q5,q6,q7,q8,q9,q10,q11⟩ := hOpen
 clear TY hHeld
 go_wp2
 refine bodyPost_ret (v := .agg #[.int .i64 K,.int .i64 0,.int .u16 1,.int .u16 65535,.int .u64 M,.int .u64 9223372588214596859,.int .i64 0,.int .i64 0,.int .i64 0,.bool false,.slice none 0 0,.slice none 0 0]) (by simp [results,Tryz.results103,go_sem,q0,q1,q2,q3,q4,q5,q6,q7,q8,q9,q10,q11]) rfl ?_
 exact ⟨rfl,hBY⟩
theorem valued_any (kd : Int) (fi la ha : Int) (bv : Value) (ofs : Int) (fv : Value) (bad : Bool) (vs : List Nat) (w : World) (h : BV w bv vs) (hm : vs.length ≤ 1000000) :
 Calls Tryz.prog 72 #[.agg #[.int .i64 kd,.int .u16 fi,.int .u16 la,.int .u16 ha,bv,.int .i64 ofs,fv,.bool bad]] w fun e w' => ∃ vv,e = .returned (.agg #[.int .i64 kd,.int .u16 0,.int .u16 0,.int .u16 ha,vv,.int .i64 0,.slice none 0 0,.bool false]) ∧ BV w' vv vs ∧ Own w.heap.size vv ∧ Below w.heap.size w w' := by
 have HBV := Lib.hid h
 obtain ⟨a,c,rfl,_,_⟩ := h
 obtain ⟨L,hL⟩ : ∃ L,vs.length = L := ⟨_,rfl⟩
 rw [hL] at HBV ⊢
 have HL := Lib.hid hL
 clear hL
 have T0 := cells_new w [.int .i64 kd,.int .u16 fi,.int .u16 la,.int .u16 ha,.slice a L c,.int .i64 ofs,fv,.bool bad] 46
 have ha0 : Below w.heap.size w (w.alloc (.cells #[.int .i64 kd,.int .u16 fi,.int .u16 la,.int .u16 ha,.slice a L c,.int .i64 ofs,fv,.bool bad] 46)) := (Below.refl _ _).alloc (Nat.le_refl _) _
 have hz0 : (w.alloc (.cells #[.int .i64 kd,.int .u16 fi,.int .u16 la,.int .u16 ha,.slice a L c,.int .i64 ofs,fv,.bool bad] 46)).heap.size = w.heap.size + 1 := by simp
 have b0 := Blk.new (w.alloc (.cells #[.int .i64 kd,.int .u16 fi,.int .u16 la,.int .u16 ha,.slice a L c,.int .i64 ofs,fv,.bool bad] 46)) 46 [.int .i64 0,.int .u16 0,.int .u16 0,.int .u16 0,.slice none 0 0,.int .i64 0,.slice none 0 0,.bool false]
 rw [hz0] at b0
 have T1 := T0.keep ((Below.refl _ _).alloc (Nat.le_refl _) (.cells #[.int .i64 0,.int .u16 0,.int .u16 0,.int .u16 0,.slice none 0 0,.int .i64 0,.slice none 0 0,.bool false] 46))
 have hB1 : Below w.heap.size w ((w.alloc (.cells #[.int .i64 kd,.int .u16 fi,.int .u16 la,.int .u16 ha,.slice a L c,.int .i64 ofs,fv,.bool bad] 46)).alloc (.cells #[.int .i64 0,.int .u16 0,.int .u16 0,.int .u16 0,.slice none 0 0,.int .i64 0,.slice none 0 0,.bool false] 46)) := ha0.alloc ha0.size _
 go_enter Tryz.func72,Tryz.ntmps72
 go_upto_region 1 with fail
 generalize hV : World.alloc (World.alloc w _) _ = V at T1 hB1 b0 ⊢
 clear hV T0 ha0 hz0
 have hBd := hB1.drew
 have bD : Blk V.drew (w.heap.size + 1) 46 [.int .i64 0,.int .u16 0,.int .u16 0,.int .u16 0,.slice none 0 0,.int .i64 0,.slice none 0 0,.bool false] := b0.drew
 have T1d := T1.drew
 refine wp_region_held_drew (S := (fun W' : World => Cells W' (blk w.heap.size 0 0 [.int .i64 kd,.int .u16 fi,.int .u16 la,.int .u16 ha,.slice a L c,.int .i64 ofs,fv,.bool bad]))) (by kernel_rfl) (T1d) (fun hHeld => ?_)
 generalize World.drew _ = wd at hHeld hBd bD T1d ⊢
 refine tkU 0 ?_
 refine tkU 1 ?_
 refine tkU 2 ?_
 refine tkU 3 ?_
 refine tkU 4 ?_
 refine tkU 5 ?_
 refine rd1 6 fun K hK => ?_
 go_simp
 generalize hX : World.alloc _ (.cells _ 27) = w6
 obtain ⟨h6,hB6,h6z⟩ := alloc_named hX
 clear hX h6z
 have hB2 := hBd.trans (hB6.mono hBd.size)
 have bR6 := bD.below hB6
 have T2 := T1d.keep hB6
 have HJ := Lib.hid (join_one _ _ vs _ _ h6 (HBV.out.below hB2) hm)
 clear h6
 clear hHeld
 refine hK.out _ _ (T2) (fun hHeld => ?_)
 clear hK K
 try simp only [Act.put,List.setIfInBounds_toArray,List.set_cons_zero,List.set_cons_succ]
 refine rd1 7 fun K hK => ?_
 go_simp
 go_at_call 34
 refine HJ.out.mono ?_
 rintro e w7 ⟨vv,rfl,hbv,hov,hC⟩
 have bR := bR6.below hC
 have hBR := hB2.trans (hC.mono hB2.size)
 have T3 := T2.keep hC
 have HV := Lib.hid hbv
 have HO := Lib.hid (hov.mono hB2.size)
 obtain ⟨va,vc,rfl,_,_⟩ := hbv
 rw [HL.out] at HV HO ⊢
 have hlt := bR6.lt
 have hne : (Value.slice va L vc).ownBlock ≠ some (w.heap.size + 1) := fun e => by have := hov _ (by rw [HL.out]; exact e); omega
 clear hov hC HJ
 have hOpen := bR.cells
 simp only [Cells,blk,List.cons_append,List.nil_append,and_true,Nat.reduceAdd,Nat.add_zero,Nat.zero_add] at hOpen
 obtain ⟨q0,q1,q2,q3,q4,q5,q6,q7⟩ := hOpen
 have z0 := bR.frozen 0
 have z1 := bR.frozen 1
 have z2 := bR.frozen 2
 have z3 := bR.frozen 3
 have z4 := bR.frozen 4
 have z5 := bR.frozen 5
 have z6 := bR.frozen 6
 have z7 := bR.frozen 7
 clear hHeld
 refine hK.out _ _ (T3) (fun hHeld => ?_)
 clear hK K
 try simp only [Act.put,List.setIfInBounds_toArray,List.set_cons_zero,List.set_cons_succ]
 refine tkU 8 ?_
 refine rd1 9 fun K hK => ?_
 go_simp
 generalize hY : World.setCell _ _ _ = Y
 obtain ⟨bY,hgY⟩ := set8 bR hY
 have hBY := hBR.grown hgY hBR.size (fun q hq => by cases hq; omega)
 have TY := T3.grown hgY (fun x hx => by rw [blk_fst hx]; omega)
 have HV2 := Lib.hid (HV.out.grown hgY hne)
 clear hY q0 q1 q2 q3 q4 q5 q6 q7 z0 z1 z2 z3 z4 z5 z6 z7
 clear hHeld
 refine hK.out _ _ (TY) (fun hHeld => ?_)
 clear hK K
 try simp only [Act.put,List.setIfInBounds_toArray,List.set_cons_zero,List.set_cons_succ]
 refine wpAnyH_done (by kernel_rfl) ?_ _
 have hOpen := bY.cells
 simp only [Cells,blk,List.cons_append,List.nil_append,and_true,Nat.reduceAdd,Nat.add_zero,Nat.zero_add] at hOpen
 obtain ⟨q0,q1,q2,q3,q4,q5,q6,q7⟩ := hOpen
 clear TY hHeld
 go_wp2
 refine bodyPost_ret (v := .agg #[.int .i64 kd,.int .u16 0,.int .u16 0,.int .u16 ha,.slice va L vc,.int .i64 0,.slice none 0 0,.bool false]) (by simp [results,Tryz.results72,go_sem,q0,q1,q2,q3,q4,q5,q6,q7]) rfl ?_
 exact ⟨_,rfl,HV2.out,HO.out,hBY⟩
theorem att_kinds (k : Int) : k = 1 ∨ k = 2 ∨ k = 3 ∨ k = 4 ∨ k = 5 ∨ k = 8 ∨ k = 9 ∨ k = 10 ∨ k = 11 ∨ k = 12 ∨ k = 13 ∨ k = 16 ∨ k = 17 ∨ k = 18 ∨ k = 19 ∨ k = 22 ∨ k = 23 ∨ k = 24 ∨ k = 25 ∨ k = 27 ∨ k = 29 ∨ k = 30 ∨ k = 82 ∨
 (k ≠ 1 ∧ k ≠ 2 ∧ k ≠ 3 ∧ k ≠ 4 ∧ k ≠ 5 ∧ k ≠ 8 ∧ k ≠ 9 ∧ k ≠ 10 ∧ k ≠ 11 ∧ k ≠ 12 ∧ k ≠ 13 ∧ k ≠ 16 ∧ k ≠ 17 ∧ k ≠ 18 ∧ k ≠ 19 ∧ k ≠ 22 ∧ k ≠ 23 ∧ k ≠ 24 ∧ k ≠ 25 ∧ k ≠ 27 ∧ k ≠ 29 ∧ k ≠ 30 ∧ k ≠ 82) := by omega
/-- the answer's kind -/
def ansI (k : Int) : Int := if k = 2 ∨ k = 4 ∨ k = 8 ∨ k = 10 ∨ k = 12 ∨ k = 16 ∨ k = 18 ∨ k = 22 ∨ k = 24 ∨ k = 29 then k + 1 else -1
def mtuI (m : Int) : Int := max 23 (min m 517)
/-- the room for a value or a list -/
def roomI (k m : Int) : Int := if k = 11 ∨ k = 13 then min 512 (mtuI m - 1) else if k = 18 ∨ k = 82 ∨ k = 27 ∨ k = 29 then min 512 (mtuI m - 3) else if k = 22 ∨ k = 23 then min 512 (mtuI m - 5) else if k = 5 ∨ k = 9 ∨ k = 17 then mtuI m - 2 else 0
theorem answer_any (k : Int) (hk : -9223372036854775808 ≤ k ∧ k ≤ 9223372036854775807) (w : World) : Calls Tryz.prog 36 #[.int .i64 k] w fun e w' => e = .returned (.int .i64 (ansI k)) ∧ w = w' := by
 obtain ⟨R,hR⟩ : ∃ R,ansI k = R := ⟨_,rfl⟩
 rw [hR]
 unfold ansI at hR
 rcases att_kinds k with rfl | rfl | rfl | rfl | rfl | rfl | rfl | rfl | rfl | rfl | rfl | rfl | rfl | rfl | rfl | rfl | rfl | rfl | rfl | rfl | rfl | rfl | rfl | hne
 case' inr.inr.inr.inr.inr.inr.inr.inr.inr.inr.inr.inr.inr.inr.inr.inr.inr.inr.inr.inr.inr.inr.inr =>
  obtain ⟨h1,h2,h3,h4,h5,h6,h7,h8,h9,h10,h11,h12,h13,h14,h15,h16,h17,h18,h19,h20,h21,h22,h23⟩ := hne
  have e1 := beq_eq_false_iff_ne.2 h1
  have e2 := beq_eq_false_iff_ne.2 h2
  have e3 := beq_eq_false_iff_ne.2 h3
  have e4 := beq_eq_false_iff_ne.2 h4
  have e5 := beq_eq_false_iff_ne.2 h5
  have e6 := beq_eq_false_iff_ne.2 h6
  have e7 := beq_eq_false_iff_ne.2 h7
  have e8 := beq_eq_false_iff_ne.2 h8
  have e9 := beq_eq_false_iff_ne.2 h9
  have e10 := beq_eq_false_iff_ne.2 h10
  have e11 := beq_eq_false_iff_ne.2 h11
  have e12 := beq_eq_false_iff_ne.2 h12
  have e13 := beq_eq_false_iff_ne.2 h13
  have e14 := beq_eq_false_iff_ne.2 h14
  have e15 := beq_eq_false_iff_ne.2 h15
  have e16 := beq_eq_false_iff_ne.2 h16
  have e17 := beq_eq_false_iff_ne.2 h17
  have e18 := beq_eq_false_iff_ne.2 h18
  have e19 := beq_eq_false_iff_ne.2 h19
  have e20 := beq_eq_false_iff_ne.2 h20
  have e21 := beq_eq_false_iff_ne.2 h21
  have e22 := beq_eq_false_iff_ne.2 h22
  have e23 := beq_eq_false_iff_ne.2 h23
  rw [if_neg (by omega)] at hR
  clear h1 h2 h3 h4 h5 h6 h7 h8 h9 h10 h11 h12 h13 h14 h15 h16 h17 h18 h19 h20 h21 h22 h23
 all_goals
  have HR := Lib.hid hR
  clear hR
  go_enter Tryz.func36,Tryz.ntmps36
  go_wp2
  go_ret
  exact ⟨ret_eq (by have := HR.out; (try simp at this); omega),rfl⟩
theorem ranswer_any (k : Int) (hk : -9223372036854775808 ≤ k ∧ k ≤ 9223372036854775807) (w : World) : Calls Tryz.prog 95 #[.int .i64 k] w fun e w' => e = .returned (.int .i64 (ansI k)) ∧ w = w' := by
 obtain ⟨R,hR⟩ : ∃ R,ansI k = R := ⟨_,rfl⟩
 rw [hR]
 unfold ansI at hR
 rcases att_kinds k with rfl | rfl | rfl | rfl | rfl | rfl | rfl | rfl | rfl | rfl | rfl | rfl | rfl | rfl | rfl | rfl | rfl | rfl | rfl | rfl | rfl | rfl | rfl | hne
 case' inr.inr.inr.inr.inr.inr.inr.inr.inr.inr.inr.inr.inr.inr.inr.inr.inr.inr.inr.inr.inr.inr.inr =>
  obtain ⟨h1,h2,h3,h4,h5,h6,h7,h8,h9,h10,h11,h12,h13,h14,h15,h16,h17,h18,h19,h20,h21,h22,h23⟩ := hne
  have e1 := beq_eq_false_iff_ne.2 h1
  have e2 := beq_eq_false_iff_ne.2 h2
  have e3 := beq_eq_false_iff_ne.2 h3
  have e4 := beq_eq_false_iff_ne.2 h4
  have e5 := beq_eq_false_iff_ne.2 h5
  have e6 := beq_eq_false_iff_ne.2 h6
  have e7 := beq_eq_false_iff_ne.2 h7
  have e8 := beq_eq_false_iff_ne.2 h8
  have e9 := beq_eq_false_iff_ne.2 h9
  have e10 := beq_eq_false_iff_ne.2 h10
  have e11 := beq_eq_false_iff_ne.2 h11
  have e12 := beq_eq_false_iff_ne.2 h12
  have e13 := beq_eq_false_iff_ne.2 h13
  have e14 := beq_eq_false_iff_ne.2 h14
  have e15 := beq_eq_false_iff_ne.2 h15
  have e16 := beq_eq_false_iff_ne.2 h16
  have e17 := beq_eq_false_iff_ne.2 h17
  have e18 := beq_eq_false_iff_ne.2 h18
  have e19 := beq_eq_false_iff_ne.2 h19
  have e20 := beq_eq_false_iff_ne.2 h20
  have e21 := beq_eq_false_iff_ne.2 h21
  have e22 := beq_eq_false_iff_ne.2 h22
  have e23 := beq_eq_false_iff_ne.2 h23
  rw [if_neg (by omega)] at hR
  clear h1 h2 h3 h4 h5 h6 h7 h8 h9 h10 h11 h12 h13 h14 h15 h16 h17 h18 h19 h20 h21 h22 h23
 all_goals
  have HR := Lib.hid hR
  clear hR
  go_enter Tryz.func95,Tryz.ntmps95
  go_wp2
  go_ret
  exact ⟨ret_eq (by have := HR.out; (try simp at this); omega),rfl⟩
theorem room_any (k m : Int) (w : World) : Calls Tryz.prog 104 #[.int .i64 k,.int .i64 m] w fun e w' => e = .returned (.int .i64 (roomI k m)) ∧ w = w' := by
 obtain ⟨R,hR⟩ : ∃ R,roomI k m = R := ⟨_,rfl⟩
 rw [hR]
 unfold roomI at hR
 obtain ⟨M,hM⟩ : ∃ M,mtuI m = M := ⟨_,rfl⟩
 rw [hM] at hR
 have hM0 : max 23 (min m 517) = M := by rw [← hM]; unfold mtuI; omega
 have hM1 : 23 ≤ M ∧ M ≤ 517 := by rw [← hM]; unfold mtuI; omega
 obtain ⟨m1,m2⟩ := hM1
 clear hM
 rcases att_kinds k with rfl | rfl | rfl | rfl | rfl | rfl | rfl | rfl | rfl | rfl | rfl | rfl | rfl | rfl | rfl | rfl | rfl | rfl | rfl | rfl | rfl | rfl | rfl | hne
 case' inr.inr.inr.inr.inr.inr.inr.inr.inr.inr.inr.inr.inr.inr.inr.inr.inr.inr.inr.inr.inr.inr.inr =>
  obtain ⟨h1,h2,h3,h4,h5,h6,h7,h8,h9,h10,h11,h12,h13,h14,h15,h16,h17,h18,h19,h20,h21,h22,h23⟩ := hne
  have e1 := beq_eq_false_iff_ne.2 h1
  have e2 := beq_eq_false_iff_ne.2 h2
  have e3 := beq_eq_false_iff_ne.2 h3
  have e4 := beq_eq_false_iff_ne.2 h4
  have e5 := beq_eq_false_iff_ne.2 h5
  have e6 := beq_eq_false_iff_ne.2 h6
  have e7 := beq_eq_false_iff_ne.2 h7
  have e8 := beq_eq_false_iff_ne.2 h8
  have e9 := beq_eq_false_iff_ne.2 h9
  have e10 := beq_eq_false_iff_ne.2 h10
  have e11 := beq_eq_false_iff_ne.2 h11
  have e12 := beq_eq_false_iff_ne.2 h12
  have e13 := beq_eq_false_iff_ne.2 h13
  have e14 := beq_eq_false_iff_ne.2 h14
  have e15 := beq_eq_false_iff_ne.2 h15
  have e16 := beq_eq_false_iff_ne.2 h16
  have e17 := beq_eq_false_iff_ne.2 h17
  have e18 := beq_eq_false_iff_ne.2 h18
  have e19 := beq_eq_false_iff_ne.2 h19
  have e20 := beq_eq_false_iff_ne.2 h20
  have e21 := beq_eq_false_iff_ne.2 h21
  have e22 := beq_eq_false_iff_ne.2 h22
  have e23 := beq_eq_false_iff_ne.2 h23
  rw [if_neg (by omega),if_neg (by omega),if_neg (by omega),if_neg (by omega)] at hR
  clear h1 h2 h3 h4 h5 h6 h7 h8 h9 h10 h11 h12 h13 h14 h15 h16 h17 h18 h19 h20 h21 h22 h23
 all_goals
  have HR := Lib.hid hR
  clear hR
  go_enter Tryz.func104,Tryz.ntmps104
  go_wp2
  all_goals
   go_ret
   exact ⟨ret_eq (by have := HR.out; (try simp at this); omega),rfl⟩
theorem rroom_any (k m : Int) (w : World) : Calls Tryz.prog 17 #[.int .i64 k,.int .i64 m] w fun e w' => e = .returned (.int .i64 (roomI k m)) ∧ w = w' := by
 obtain ⟨R,hR⟩ : ∃ R,roomI k m = R := ⟨_,rfl⟩
 rw [hR]
 unfold roomI at hR
 obtain ⟨M,hM⟩ : ∃ M,mtuI m = M := ⟨_,rfl⟩
 rw [hM] at hR
 have hM0 : min (max m 23) 517 = M := by rw [← hM]; unfold mtuI; omega
 have hM1 : 23 ≤ M ∧ M ≤ 517 := by rw [← hM]; unfold mtuI; omega
 obtain ⟨m1,m2⟩ := hM1
 clear hM
 rcases att_kinds k with rfl | rfl | rfl | rfl | rfl | rfl | rfl | rfl | rfl | rfl | rfl | rfl | rfl | rfl | rfl | rfl | rfl | rfl | rfl | rfl | rfl | rfl | rfl | hne
 case' inr.inr.inr.inr.inr.inr.inr.inr.inr.inr.inr.inr.inr.inr.inr.inr.inr.inr.inr.inr.inr.inr.inr =>
  obtain ⟨h1,h2,h3,h4,h5,h6,h7,h8,h9,h10,h11,h12,h13,h14,h15,h16,h17,h18,h19,h20,h21,h22,h23⟩ := hne
  have e1 := beq_eq_false_iff_ne.2 h1
  have e2 := beq_eq_false_iff_ne.2 h2
  have e3 := beq_eq_false_iff_ne.2 h3
  have e4 := beq_eq_false_iff_ne.2 h4
  have e5 := beq_eq_false_iff_ne.2 h5
  have e6 := beq_eq_false_iff_ne.2 h6
  have e7 := beq_eq_false_iff_ne.2 h7
  have e8 := beq_eq_false_iff_ne.2 h8
  have e9 := beq_eq_false_iff_ne.2 h9
  have e10 := beq_eq_false_iff_ne.2 h10
  have e11 := beq_eq_false_iff_ne.2 h11
  have e12 := beq_eq_false_iff_ne.2 h12
  have e13 := beq_eq_false_iff_ne.2 h13
  have e14 := beq_eq_false_iff_ne.2 h14
  have e15 := beq_eq_false_iff_ne.2 h15
  have e16 := beq_eq_false_iff_ne.2 h16
  have e17 := beq_eq_false_iff_ne.2 h17
  have e18 := beq_eq_false_iff_ne.2 h18
  have e19 := beq_eq_false_iff_ne.2 h19
  have e20 := beq_eq_false_iff_ne.2 h20
  have e21 := beq_eq_false_iff_ne.2 h21
  have e22 := beq_eq_false_iff_ne.2 h22
  have e23 := beq_eq_false_iff_ne.2 h23
  rw [if_neg (by omega),if_neg (by omega),if_neg (by omega),if_neg (by omega)] at hR
  clear h1 h2 h3 h4 h5 h6 h7 h8 h9 h10 h11 h12 h13 h14 h15 h16 h17 h18 h19 h20 h21 h22 h23
 all_goals
  have HR := Lib.hid hR
  clear hR
  go_enter Tryz.func17,Tryz.ntmps17
  go_wp2
  all_goals
   go_ret
   exact ⟨ret_eq (by have := HR.out; (try simp at this); omega),rfl⟩
end Go.Proofs.YtldcihjddebciaaGreat
