/- client's reference: element. And what follows it. -/
import Derived.Test.YtldcihjddebciaaPCmH
import Derived.Test.YtldcihjddebciaaPCmC
set_option linter.unusedSimpArgs false
set_option linter.unusedVariables false
set_option maxRecDepth 100000
set_option maxHeartbeats 4000000
namespace Go.Proofs.Ytldcihjddebciaa
open Go.RowKit
theorem pro4b (w : World) (xs bs cs ds : List Value) (ta tb tc td : TypeId) :
 Blk ((((w.alloc (.cells xs.toArray ta)).alloc (.cells bs.toArray tb)).alloc (.cells cs.toArray tc)).alloc (.cells ds.toArray td)) w.heap.size ta xs ∧ Blk ((((w.alloc (.cells xs.toArray ta)).alloc (.cells bs.toArray tb)).alloc (.cells cs.toArray tc)).alloc (.cells ds.toArray td)) (w.heap.size + 1) tb bs ∧
  Blk ((((w.alloc (.cells xs.toArray ta)).alloc (.cells bs.toArray tb)).alloc (.cells cs.toArray tc)).alloc (.cells ds.toArray td)) (w.heap.size + 2) tc cs ∧ Blk ((((w.alloc (.cells xs.toArray ta)).alloc (.cells bs.toArray tb)).alloc (.cells cs.toArray tc)).alloc (.cells ds.toArray td)) (w.heap.size + 3) td ds ∧
  Below w.heap.size w ((((w.alloc (.cells xs.toArray ta)).alloc (.cells bs.toArray tb)).alloc (.cells cs.toArray tc)).alloc (.cells ds.toArray td)) := by
 have h1 : (w.alloc (.cells xs.toArray ta)).heap.size = w.heap.size + 1 := by simp
 have h2 : ((w.alloc (.cells xs.toArray ta)).alloc (.cells bs.toArray tb)).heap.size = w.heap.size + 2 := by simp
 have h3 : (((w.alloc (.cells xs.toArray ta)).alloc (.cells bs.toArray tb)).alloc (.cells cs.toArray tc)).heap.size = w.heap.size + 3 := by simp
 have b1 := Blk.new (w.alloc (.cells xs.toArray ta)) tb bs
 have b2 := Blk.new ((w.alloc (.cells xs.toArray ta)).alloc (.cells bs.toArray tb)) tc cs
 have b3 := Blk.new (((w.alloc (.cells xs.toArray ta)).alloc (.cells bs.toArray tb)).alloc (.cells cs.toArray tc)) td ds
 rw [h1] at b1
 rw [h2] at b2
 rw [h3] at b3
 exact ⟨(((Blk.new w ta xs).alloc _).alloc _).alloc _,(b1.alloc _).alloc _,b2.alloc _,b3,((((Below.refl _ _).alloc (Nat.le_refl _) _).alloc (by simp) _).alloc (by simp; omega) _).alloc (by simp; omega) _⟩
/-- what an element states -/
def elR (c : Cl) (kd : Int) (i : Im) : Fd × Bool :=
 if i.ha < c.ad.ha then (default,false)
 else if c.ad.la < i.ha then (default,false)
 else if kd = 5 then (descF i,true)
 else if kd = 17 then (⟨i.ha,i.la,0,0,(decR i.bs).1,(decR i.bs).2.1⟩,(decR i.bs).2.2 == 0)
 else (⟨i.ha,0,(chP i.bs).2.1,(chP i.bs).1,(chP i.bs).2.2.1,(chP i.bs).2.2.2.1⟩,(chP i.bs).2.2.2.2 && ((chP i.bs).2.1 != 0))
theorem relem_lo (c : Cl) (k : Cv) (p : Pd) (pb pi : Value) (i : Im) (ib : Value) (w : World) (hb : BV w ib i.bs) (hm : i.bs.length ≤ 1000000) (h1 : i.ha < c.ad.ha) :
 Calls Try.prog 96 #[.agg (k.cells c).toArray,.agg (pdc p pb pi).toArray,.agg (ienc (i,ib)).toArray] w fun e w' => e = .returned (.tuple #[.agg (fenc (elR c p.kd i).1).toArray,.bool (elR c p.kd i).2]) ∧ Below w.heap.size w w' := by
 have hel : elR c p.kd i = (default,false) := by
  unfold elR
  rw [if_pos h1]
 have HEL := Lib.hid hel
 obtain ⟨a,cc,rfl⟩ := hb.form
 obtain ⟨L,hL⟩ : ∃ L,i.bs.length = L := ⟨_,rfl⟩
 have g1 : decide (i.ha < c.ad.ha) = true := by simpa using h1
 have g1' : decide ((i.ha : Int) < (c.ad.ha : Int)) = true := by simpa using h1
 rw [hL] at hb hm ⊢
 have HL := Lib.hid hL
 have HBV := Lib.hid hb
 obtain ⟨bC0,bP0,bX0,bR0,hB0⟩ := pro4b w (k.cells c) (pdc p pb pi) (ienc (i,.slice a L cc)) [.int .u16 0,.int .u16 0,.int .u16 0,.int .i64 0,.int .u64 0,.int .u64 0] 35 32 101 114
 have q0 := bP0.cell (j := 0) (v := .int .i64 p.kd) rfl
 have m12 := bC0.cell (j := 12) (v := .int .u16 c.ad.ha) rfl
 have m13 := bC0.cell (j := 13) (v := .int .u16 c.ad.la) rfl
 clear hL hb hel h1 bC0 bP0
 go_enter Try.func96,Try.ntmps96
 go_upto_region 1 with fail
 generalize hX : World.alloc (World.alloc (World.alloc (World.alloc w _) _) _) _ = V at bX0 bR0 hB0 q0 m12 m13 ⊢
 clear hX
 have TX : Cells V (blk (w.heap.size + 2) 0 0 [.int .u16 i.ha,.int .u16 i.la,.int .u64 i.hi,.int .u64 i.lo,.slice a L cc]) := bX0.cells
 have hOpen := TX
 simp only [Cells,blk,List.cons_append,List.nil_append,and_true,Nat.reduceAdd,Nat.add_zero,Nat.zero_add] at hOpen
 obtain ⟨x0,x1,x2,x3,x4⟩ := hOpen
 go_upto_region 2 with fail
 clear q0 m12 m13 x0 x1 x2 x3 x4 TX
 have hth := bR0.there 0 6 (by simp)
 go_wp2_with (refine wpList_store_mid rfl 114 _ _ rfl (w.heap.size + 3) 0 #[.int .u16 0,.int .u16 0,.int .u16 0,.int .i64 0,.int .u64 0,.int .u64 0] rfl rfl hth (by kernel_rfl) (by simp [Value.oneCell']) ?_; simp only [Act.put]; generalize hW : World.setCells V (w.heap.size + 3) 0 _ = V9; have HW := Lib.hid hW; clear hW)
 have bR4 := bR0.putAll (vs := [.int .u16 0,.int .u16 0,.int .u16 0,.int .i64 0,.int .u64 0,.int .u64 0]) rfl
 have hg4 := setCells_grown (w.heap.size + 3) [.int .u16 0,.int .u16 0,.int .u16 0,.int .i64 0,.int .u64 0,.int .u64 0] 0 V
 rw [show World.setCells V (w.heap.size + 3) 0 [.int .u16 0,.int .u16 0,.int .u16 0,.int .i64 0,.int .u64 0,.int .u64 0] = V9 from HW.out] at bR4 hg4
 have hB4 := hB0.grown hg4 (by have := bR0.lt; omega) (fun k hk => by cases hk; omega)
 have hl := run_loadVar_row (P := Try.prog) _ (w.heap.size + 3) 114 114 _ (0,0) _ bR4 Try.underlying114 rfl (by kernel_rfl)
 exact bodyPost_ret (v := .tuple #[.agg #[.int .u16 0,.int .u16 0,.int .u16 0,.int .i64 0,.int .u64 0,.int .u64 0],.bool false]) (by rw [results_cell_tmp rfl]; simp [asAddr,hl]) rfl ⟨by rw [HEL.out]; rfl,hB4⟩
theorem relem_hi (c : Cl) (k : Cv) (p : Pd) (pb pi : Value) (i : Im) (ib : Value) (w : World) (hb : BV w ib i.bs) (hm : i.bs.length ≤ 1000000) (h1 : ¬ i.ha < c.ad.ha) (h2 : c.ad.la < i.ha) :
 Calls Try.prog 96 #[.agg (k.cells c).toArray,.agg (pdc p pb pi).toArray,.agg (ienc (i,ib)).toArray] w fun e w' => e = .returned (.tuple #[.agg (fenc (elR c p.kd i).1).toArray,.bool (elR c p.kd i).2]) ∧ Below w.heap.size w w' := by
 have hel : elR c p.kd i = (default,false) := by
  unfold elR
  rw [if_neg h1,if_pos h2]
 have HEL := Lib.hid hel
 obtain ⟨a,cc,rfl⟩ := hb.form
 obtain ⟨L,hL⟩ : ∃ L,i.bs.length = L := ⟨_,rfl⟩
 have g1 : decide (i.ha < c.ad.ha) = false := by simpa using h1
 have g1' : decide ((i.ha : Int) < (c.ad.ha : Int)) = false := by simpa using h1
 have g2 : decide (c.ad.la < i.ha) = true := by simpa using h2
 have g2' : decide ((c.ad.la : Int) < (i.ha : Int)) = true := by simpa using h2
 rw [hL] at hb hm ⊢
 have HL := Lib.hid hL
 have HBV := Lib.hid hb
 obtain ⟨bC0,bP0,bX0,bR0,hB0⟩ := pro4b w (k.cells c) (pdc p pb pi) (ienc (i,.slice a L cc)) [.int .u16 0,.int .u16 0,.int .u16 0,.int .i64 0,.int .u64 0,.int .u64 0] 35 32 101 114
 have q0 := bP0.cell (j := 0) (v := .int .i64 p.kd) rfl
 have m12 := bC0.cell (j := 12) (v := .int .u16 c.ad.ha) rfl
 have m13 := bC0.cell (j := 13) (v := .int .u16 c.ad.la) rfl
 clear hL hb hel h1 h2 bC0 bP0
 go_enter Try.func96,Try.ntmps96
 go_upto_region 1 with fail
 generalize hX : World.alloc (World.alloc (World.alloc (World.alloc w _) _) _) _ = V at bX0 bR0 hB0 q0 m12 m13 ⊢
 clear hX
 have TX : Cells V (blk (w.heap.size + 2) 0 0 [.int .u16 i.ha,.int .u16 i.la,.int .u64 i.hi,.int .u64 i.lo,.slice a L cc]) := bX0.cells
 have hOpen := TX
 simp only [Cells,blk,List.cons_append,List.nil_append,and_true,Nat.reduceAdd,Nat.add_zero,Nat.zero_add] at hOpen
 obtain ⟨x0,x1,x2,x3,x4⟩ := hOpen
 go_upto_region 2 with fail
 clear q0 m12 m13 x0 x1 x2 x3 x4 TX
 have hth := bR0.there 0 6 (by simp)
 go_wp2_with (refine wpList_store_mid rfl 114 _ _ rfl (w.heap.size + 3) 0 #[.int .u16 0,.int .u16 0,.int .u16 0,.int .i64 0,.int .u64 0,.int .u64 0] rfl rfl hth (by kernel_rfl) (by simp [Value.oneCell']) ?_; simp only [Act.put]; generalize hW : World.setCells V (w.heap.size + 3) 0 _ = V9; have HW := Lib.hid hW; clear hW)
 have bR4 := bR0.putAll (vs := [.int .u16 0,.int .u16 0,.int .u16 0,.int .i64 0,.int .u64 0,.int .u64 0]) rfl
 have hg4 := setCells_grown (w.heap.size + 3) [.int .u16 0,.int .u16 0,.int .u16 0,.int .i64 0,.int .u64 0,.int .u64 0] 0 V
 rw [show World.setCells V (w.heap.size + 3) 0 [.int .u16 0,.int .u16 0,.int .u16 0,.int .i64 0,.int .u64 0,.int .u64 0] = V9 from HW.out] at bR4 hg4
 have hB4 := hB0.grown hg4 (by have := bR0.lt; omega) (fun k hk => by cases hk; omega)
 have hl := run_loadVar_row (P := Try.prog) _ (w.heap.size + 3) 114 114 _ (0,0) _ bR4 Try.underlying114 rfl (by kernel_rfl)
 exact bodyPost_ret (v := .tuple #[.agg #[.int .u16 0,.int .u16 0,.int .u16 0,.int .i64 0,.int .u64 0,.int .u64 0],.bool false]) (by rw [results_cell_tmp rfl]; simp [asAddr,hl]) rfl ⟨by rw [HEL.out]; rfl,hB4⟩
theorem relem_5 (c : Cl) (k : Cv) (p : Pd) (pb pi : Value) (i : Im) (ib : Value) (w : World) (hb : BV w ib i.bs) (hm : i.bs.length ≤ 1000000) (h1 : ¬ i.ha < c.ad.ha) (h2 : ¬ c.ad.la < i.ha) (h3 : p.kd = 5) :
 Calls Try.prog 96 #[.agg (k.cells c).toArray,.agg (pdc p pb pi).toArray,.agg (ienc (i,ib)).toArray] w fun e w' => e = .returned (.tuple #[.agg (fenc (elR c p.kd i).1).toArray,.bool (elR c p.kd i).2]) ∧ Below w.heap.size w w' := by
 have hel : elR c p.kd i = (descF i,true) := by
  unfold elR
  rw [if_neg h1,if_neg h2,if_pos h3]
 have HEL := Lib.hid hel
 obtain ⟨a,cc,rfl⟩ := hb.form
 obtain ⟨L,hL⟩ : ∃ L,i.bs.length = L := ⟨_,rfl⟩
 have g1 : decide (i.ha < c.ad.ha) = false := by simpa using h1
 have g1' : decide ((i.ha : Int) < (c.ad.ha : Int)) = false := by simpa using h1
 have g2 : decide (c.ad.la < i.ha) = false := by simpa using h2
 have g2' : decide ((c.ad.la : Int) < (i.ha : Int)) = false := by simpa using h2
 rw [hL] at hb hm ⊢
 have HL := Lib.hid hL
 have HBV := Lib.hid hb
 obtain ⟨bC0,bP0,bX0,bR0,hB0⟩ := pro4b w (k.cells c) (pdc p pb pi) (ienc (i,.slice a L cc)) [.int .u16 0,.int .u16 0,.int .u16 0,.int .i64 0,.int .u64 0,.int .u64 0] 35 32 101 114
 have q0 := bP0.cell (j := 0) (v := .int .i64 5) (by rw [← h3]; rfl)
 have m12 := bC0.cell (j := 12) (v := .int .u16 c.ad.ha) rfl
 have m13 := bC0.cell (j := 13) (v := .int .u16 c.ad.la) rfl
 clear hL hb hel h1 h2 h3 bC0 bP0
 go_enter Try.func96,Try.ntmps96
 go_upto_region 1 with fail
 generalize hX : World.alloc (World.alloc (World.alloc (World.alloc w _) _) _) _ = V at bX0 bR0 hB0 q0 m12 m13 ⊢
 clear hX
 have TX : Cells V (blk (w.heap.size + 2) 0 0 [.int .u16 i.ha,.int .u16 i.la,.int .u64 i.hi,.int .u64 i.lo,.slice a L cc]) := bX0.cells
 have hOpen := TX
 simp only [Cells,blk,List.cons_append,List.nil_append,and_true,Nat.reduceAdd,Nat.add_zero,Nat.zero_add] at hOpen
 obtain ⟨x0,x1,x2,x3,x4⟩ := hOpen
 go_upto_region 5 with fail
 clear q0 m12 m13
 have hth := bR0.there 0 6 (by simp)
 go_wp2_with (refine wpList_store_mid rfl 114 _ _ rfl (w.heap.size + 3) 0 #[.int .u16 i.ha,.int .u16 0,.int .u16 0,.int .i64 0,.int .u64 i.hi,.int .u64 i.lo] rfl rfl hth (by kernel_rfl) (by simp [Value.oneCell']) ?_; simp only [Act.put]; generalize hW : World.setCells V (w.heap.size + 3) 0 _ = V9; have HW := Lib.hid hW; clear hW)
 have bR4 := bR0.putAll (vs := [.int .u16 i.ha,.int .u16 0,.int .u16 0,.int .i64 0,.int .u64 i.hi,.int .u64 i.lo]) rfl
 have hg4 := setCells_grown (w.heap.size + 3) [.int .u16 i.ha,.int .u16 0,.int .u16 0,.int .i64 0,.int .u64 i.hi,.int .u64 i.lo] 0 V
 rw [show World.setCells V (w.heap.size + 3) 0 [.int .u16 i.ha,.int .u16 0,.int .u16 0,.int .i64 0,.int .u64 i.hi,.int .u64 i.lo] = V9 from HW.out] at bR4 hg4
 have hB4 := hB0.grown hg4 (by have := bR0.lt; omega) (fun k hk => by cases hk; omega)
 have hl := run_loadVar_row (P := Try.prog) _ (w.heap.size + 3) 114 114 _ (0,0) _ bR4 Try.underlying114 rfl (by kernel_rfl)
 exact bodyPost_ret (v := .tuple #[.agg #[.int .u16 i.ha,.int .u16 0,.int .u16 0,.int .i64 0,.int .u64 i.hi,.int .u64 i.lo],.bool true]) (by rw [results_cell_tmp rfl]; simp [asAddr,hl]) rfl ⟨by rw [HEL.out]; rfl,hB4⟩
theorem relem_17 (c : Cl) (k : Cv) (p : Pd) (pb pi : Value) (i : Im) (ib : Value) (w : World) (hb : BV w ib i.bs) (hm : i.bs.length ≤ 1000000) (h1 : ¬ i.ha < c.ad.ha) (h2 : ¬ c.ad.la < i.ha) (h3 : p.kd = 17) :
 Calls Try.prog 96 #[.agg (k.cells c).toArray,.agg (pdc p pb pi).toArray,.agg (ienc (i,ib)).toArray] w fun e w' => e = .returned (.tuple #[.agg (fenc (elR c p.kd i).1).toArray,.bool (elR c p.kd i).2]) ∧ Below w.heap.size w w' := by
 have hel : elR c p.kd i = (⟨i.ha,i.la,0,0,(decR i.bs).1,(decR i.bs).2.1⟩,(decR i.bs).2.2 == 0) := by
  unfold elR
  rw [if_neg h1,if_neg h2,if_neg (show ¬ p.kd = 5 by omega),if_pos h3]
 have HEL := Lib.hid hel
 obtain ⟨a,cc,rfl⟩ := hb.form
 obtain ⟨L,hL⟩ : ∃ L,i.bs.length = L := ⟨_,rfl⟩
 have g1 : decide (i.ha < c.ad.ha) = false := by simpa using h1
 have g1' : decide ((i.ha : Int) < (c.ad.ha : Int)) = false := by simpa using h1
 have g2 : decide (c.ad.la < i.ha) = false := by simpa using h2
 have g2' : decide ((c.ad.la : Int) < (i.ha : Int)) = false := by simpa using h2
 rw [hL] at hb hm ⊢
 have HL := Lib.hid hL
 have HBV := Lib.hid hb
 obtain ⟨bC0,bP0,bX0,bR0,hB0⟩ := pro4b w (k.cells c) (pdc p pb pi) (ienc (i,.slice a L cc)) [.int .u16 0,.int .u16 0,.int .u16 0,.int .i64 0,.int .u64 0,.int .u64 0] 35 32 101 114
 have q0 := bP0.cell (j := 0) (v := .int .i64 17) (by rw [← h3]; rfl)
 have m12 := bC0.cell (j := 12) (v := .int .u16 c.ad.ha) rfl
 have m13 := bC0.cell (j := 13) (v := .int .u16 c.ad.la) rfl
 clear hL hb hel h1 h2 h3 bC0 bP0
 go_enter Try.func96,Try.ntmps96
 go_upto_region 1 with fail
 generalize hX : World.alloc (World.alloc (World.alloc (World.alloc w _) _) _) _ = V at bX0 bR0 hB0 q0 m12 m13 ⊢
 clear hX
 have TX : Cells V (blk (w.heap.size + 2) 0 0 [.int .u16 i.ha,.int .u16 i.la,.int .u64 i.hi,.int .u64 i.lo,.slice a L cc]) := bX0.cells
 have hOpen := TX
 simp only [Cells,blk,List.cons_append,List.nil_append,and_true,Nat.reduceAdd,Nat.add_zero,Nat.zero_add] at hOpen
 obtain ⟨x0,x1,x2,x3,x4⟩ := hOpen
 go_upto_region 7 with fail
 clear q0 m12 m13
 obtain ⟨d1,hd1⟩ : ∃ x,(decR i.bs).1 = x := ⟨_,rfl⟩
 obtain ⟨d2,hd2⟩ : ∃ x,(decR i.bs).2.1 = x := ⟨_,rfl⟩
 obtain ⟨d3,hd3⟩ : ∃ x,(decR i.bs).2.2 = x := ⟨_,rfl⟩
 have hde := rdecode_any (.slice a L cc) i.bs V (HBV.out.below hB0).at (by rw [HL.out]; omega)
 rw [hd1,hd2,hd3] at hde
 replace HEL := Lib.hid (show elR c p.kd i = (⟨i.ha,i.la,0,0,d1,d2⟩,d3 == 0) by rw [HEL.out,hd1,hd2,hd3])
 clear hd1 hd2 hd3
 go_wp2_with fail
 refine hde.mono ?_
 rintro e w4 ⟨rfl,hB4⟩
 have bX4 := bX0.below hB4
 have bR4 := bR0.below hB4
 have hB4' := hB0.trans (hB4.mono hB0.size)
 have hX4 := bX4.lt
 have hR4 := bR4.lt
 clear hde hB4 bX0 bR0 hB0 TX x0 x1 x2 x3 x4
 have bU1 := Blk.new w4 29 [.int .u64 d1,.int .u64 d2]
 have hgU := World.grownBy_alloc w4 (.cells #[.int .u64 d1,.int .u64 d2] 29) none
 go_upto_region 8 with fail
 generalize hW : World.alloc w4 _ = V5 at bU1 hgU ⊢
 have bX5 := bX4.kept hgU (by simp)
 have bR0 := bR4.kept hgU (by simp)
 have hB0 := hB4'.grown hgU hB4'.size (fun k hk => by cases hk)
 have TX : Cells V5 (blk (w.heap.size + 2) 0 0 [.int .u16 i.ha,.int .u16 i.la,.int .u64 i.hi,.int .u64 i.lo,.slice a L cc]) := bX5.cells
 have hOpen := TX
 simp only [Cells,blk,List.cons_append,List.nil_append,and_true,Nat.reduceAdd,Nat.add_zero,Nat.zero_add] at hOpen
 obtain ⟨x0,x1,x2,x3,x4⟩ := hOpen
 obtain ⟨u0,u1,_⟩ := bU1.cells
 simp only [Nat.add_zero,Nat.zero_add] at u0 u1
 clear hW hgU bX4 bR4 hB4' bU1
 have hth := bR0.there 0 6 (by simp)
 go_wp2_with (refine wpList_store_mid rfl 114 _ _ rfl (w.heap.size + 3) 0 #[.int .u16 i.ha,.int .u16 i.la,.int .u16 0,.int .i64 0,.int .u64 d1,.int .u64 d2] rfl rfl hth (by kernel_rfl) (by simp [Value.oneCell']) ?_; simp only [Act.put]; generalize hW : World.setCells V5 (w.heap.size + 3) 0 _ = V9; have HW := Lib.hid hW; clear hW)
 have bR4 := bR0.putAll (vs := [.int .u16 i.ha,.int .u16 i.la,.int .u16 0,.int .i64 0,.int .u64 d1,.int .u64 d2]) rfl
 have hg4 := setCells_grown (w.heap.size + 3) [.int .u16 i.ha,.int .u16 i.la,.int .u16 0,.int .i64 0,.int .u64 d1,.int .u64 d2] 0 V5
 rw [show World.setCells V5 (w.heap.size + 3) 0 [.int .u16 i.ha,.int .u16 i.la,.int .u16 0,.int .i64 0,.int .u64 d1,.int .u64 d2] = V9 from HW.out] at bR4 hg4
 have hB4 := hB0.grown hg4 (by have := bR0.lt; omega) (fun k hk => by cases hk; omega)
 have hl := run_loadVar_row (P := Try.prog) _ (w.heap.size + 3) 114 114 _ (0,0) _ bR4 Try.underlying114 rfl (by kernel_rfl)
 exact bodyPost_ret (v := .tuple #[.agg #[.int .u16 i.ha,.int .u16 i.la,.int .u16 0,.int .i64 0,.int .u64 d1,.int .u64 d2],.bool (d3 == 0)]) (by rw [results_cell_tmp rfl]; simp [asAddr,hl]) rfl ⟨by rw [HEL.out]; rfl,hB4⟩
theorem relem_ch (c : Cl) (k : Cv) (p : Pd) (pb pi : Value) (i : Im) (ib : Value) (w : World) (hb : BV w ib i.bs) (hm : i.bs.length ≤ 1000000) (h1 : ¬ i.ha < c.ad.ha) (h2 : ¬ c.ad.la < i.ha) (h3 : ¬ p.kd = 5) (h4 : ¬ p.kd = 17) :
 Calls Try.prog 96 #[.agg (k.cells c).toArray,.agg (pdc p pb pi).toArray,.agg (ienc (i,ib)).toArray] w fun e w' => e = .returned (.tuple #[.agg (fenc (elR c p.kd i).1).toArray,.bool (elR c p.kd i).2]) ∧ Below w.heap.size w w' := by
 have hel : elR c p.kd i = (⟨i.ha,0,(chP i.bs).2.1,(chP i.bs).1,(chP i.bs).2.2.1,(chP i.bs).2.2.2.1⟩,(chP i.bs).2.2.2.2 && ((chP i.bs).2.1 != 0)) := by
  unfold elR
  rw [if_neg h1,if_neg h2,if_neg h3,if_neg h4]
 have HEL := Lib.hid hel
 obtain ⟨a,cc,rfl⟩ := hb.form
 obtain ⟨L,hL⟩ : ∃ L,i.bs.length = L := ⟨_,rfl⟩
 have g1 : decide (i.ha < c.ad.ha) = false := by simpa using h1
 have g1' : decide ((i.ha : Int) < (c.ad.ha : Int)) = false := by simpa using h1
 have g2 : decide (c.ad.la < i.ha) = false := by simpa using h2
 have g2' : decide ((c.ad.la : Int) < (i.ha : Int)) = false := by simpa using h2
 have t3 : (p.kd == 5) = false := by simp [h3]
 have t4 : (p.kd == 17) = false := by simp [h4]
 rw [hL] at hb hm ⊢
 have HL := Lib.hid hL
 have HBV := Lib.hid hb
 obtain ⟨bC0,bP0,bX0,bR0,hB0⟩ := pro4b w (k.cells c) (pdc p pb pi) (ienc (i,.slice a L cc)) [.int .u16 0,.int .u16 0,.int .u16 0,.int .i64 0,.int .u64 0,.int .u64 0] 35 32 101 114
 have q0 := bP0.cell (j := 0) (v := .int .i64 p.kd) rfl
 have m12 := bC0.cell (j := 12) (v := .int .u16 c.ad.ha) rfl
 have m13 := bC0.cell (j := 13) (v := .int .u16 c.ad.la) rfl
 clear hL hb hel h1 h2 h3 h4 bC0 bP0
 go_enter Try.func96,Try.ntmps96
 go_upto_region 1 with fail
 generalize hX : World.alloc (World.alloc (World.alloc (World.alloc w _) _) _) _ = V at bX0 bR0 hB0 q0 m12 m13 ⊢
 clear hX
 have TX : Cells V (blk (w.heap.size + 2) 0 0 [.int .u16 i.ha,.int .u16 i.la,.int .u64 i.hi,.int .u64 i.lo,.slice a L cc]) := bX0.cells
 have hOpen := TX
 simp only [Cells,blk,List.cons_append,List.nil_append,and_true,Nat.reduceAdd,Nat.add_zero,Nat.zero_add] at hOpen
 obtain ⟨x0,x1,x2,x3,x4⟩ := hOpen
 go_upto_region 9 with fail
 clear q0 m12 m13
 obtain ⟨d0,hd0⟩ : ∃ x,(chP i.bs).1 = x := ⟨_,rfl⟩
 obtain ⟨d1,hd1⟩ : ∃ x,(chP i.bs).2.1 = x := ⟨_,rfl⟩
 obtain ⟨d2,hd2⟩ : ∃ x,(chP i.bs).2.2.1 = x := ⟨_,rfl⟩
 obtain ⟨d3,hd3⟩ : ∃ x,(chP i.bs).2.2.2.1 = x := ⟨_,rfl⟩
 obtain ⟨d4,hd4⟩ : ∃ x,(chP i.bs).2.2.2.2 = x := ⟨_,rfl⟩
 have hcc : L ≤ cc := by
  obtain ⟨_,_,e,h,_⟩ := HBV.out
  cases e
  rw [HL.out] at h
  exact h
 have hde := charParts_any a L cc i.bs V (HBV.out.below hB0).at HL.out hcc (by omega)
 rw [hd0,hd1,hd2,hd3,hd4] at hde
 replace HEL := Lib.hid (show elR c p.kd i = (⟨i.ha,0,d1,d0,d2,d3⟩,d4 && (d1 != 0)) by rw [HEL.out,hd0,hd1,hd2,hd3,hd4])
 clear hd0 hd1 hd2 hd3 hd4 hcc
 go_wp2_with fail
 refine hde.mono ?_
 rintro e w4 ⟨rfl,hB4⟩
 have bX4 := bX0.below hB4
 have bR4 := bR0.below hB4
 have hB4' := hB0.trans (hB4.mono hB0.size)
 have hX4 := bX4.lt
 have hR4 := bR4.lt
 clear hde hB4 bX0 bR0 hB0 TX x0 x1 x2 x3 x4
 have bU1 := Blk.new w4 29 [.int .u64 d2,.int .u64 d3]
 have hgU := World.grownBy_alloc w4 (.cells #[.int .u64 d2,.int .u64 d3] 29) none
 go_upto_region 10 with fail
 generalize hW : World.alloc w4 _ = V5 at bU1 hgU ⊢
 have bX5 := bX4.kept hgU (by simp)
 have bR0 := bR4.kept hgU (by simp)
 have hB0 := hB4'.grown hgU hB4'.size (fun k hk => by cases hk)
 have TX : Cells V5 (blk (w.heap.size + 2) 0 0 [.int .u16 i.ha,.int .u16 i.la,.int .u64 i.hi,.int .u64 i.lo,.slice a L cc]) := bX5.cells
 have hOpen := TX
 simp only [Cells,blk,List.cons_append,List.nil_append,and_true,Nat.reduceAdd,Nat.add_zero,Nat.zero_add] at hOpen
 obtain ⟨x0,x1,x2,x3,x4⟩ := hOpen
 obtain ⟨u0,u1,_⟩ := bU1.cells
 simp only [Nat.add_zero,Nat.zero_add] at u0 u1
 clear hW hgU bX4 bR4 hB4' bU1
 have n1 : (d1 != 0) = (d1 != 0) := rfl
 clear n1
 cases d4 with
 |false =>
  have hth := bR0.there 0 6 (by simp)
  go_wp2_with (refine wpList_store_mid rfl 114 _ _ rfl (w.heap.size + 3) 0 #[.int .u16 i.ha,.int .u16 0,.int .u16 d1,.int .i64 d0,.int .u64 d2,.int .u64 d3] rfl rfl hth (by kernel_rfl) (by simp [Value.oneCell']) ?_; simp only [Act.put]; generalize hW : World.setCells V5 (w.heap.size + 3) 0 _ = V9; have HW := Lib.hid hW; clear hW)
  have bR4 := bR0.putAll (vs := [.int .u16 i.ha,.int .u16 0,.int .u16 d1,.int .i64 d0,.int .u64 d2,.int .u64 d3]) rfl
  have hg4 := setCells_grown (w.heap.size + 3) [.int .u16 i.ha,.int .u16 0,.int .u16 d1,.int .i64 d0,.int .u64 d2,.int .u64 d3] 0 V5
  rw [show World.setCells V5 (w.heap.size + 3) 0 [.int .u16 i.ha,.int .u16 0,.int .u16 d1,.int .i64 d0,.int .u64 d2,.int .u64 d3] = V9 from HW.out] at bR4 hg4
  have hB4 := hB0.grown hg4 (by have := bR0.lt; omega) (fun k hk => by cases hk; omega)
  have hl := run_loadVar_row (P := Try.prog) _ (w.heap.size + 3) 114 114 _ (0,0) _ bR4 Try.underlying114 rfl (by kernel_rfl)
  exact bodyPost_ret (v := .tuple #[.agg #[.int .u16 i.ha,.int .u16 0,.int .u16 d1,.int .i64 d0,.int .u64 d2,.int .u64 d3],.bool false]) (by rw [results_cell_tmp rfl]; simp [asAddr,hl]) rfl ⟨by rw [HEL.out]; rfl,hB4⟩
 |true =>
  have hth := bR0.there 0 6 (by simp)
  go_wp2_with (refine wpList_store_mid rfl 114 _ _ rfl (w.heap.size + 3) 0 #[.int .u16 i.ha,.int .u16 0,.int .u16 d1,.int .i64 d0,.int .u64 d2,.int .u64 d3] rfl rfl hth (by kernel_rfl) (by simp [Value.oneCell']) ?_; simp only [Act.put]; generalize hW : World.setCells V5 (w.heap.size + 3) 0 _ = V9; have HW := Lib.hid hW; clear hW)
  have bR4 := bR0.putAll (vs := [.int .u16 i.ha,.int .u16 0,.int .u16 d1,.int .i64 d0,.int .u64 d2,.int .u64 d3]) rfl
  have hg4 := setCells_grown (w.heap.size + 3) [.int .u16 i.ha,.int .u16 0,.int .u16 d1,.int .i64 d0,.int .u64 d2,.int .u64 d3] 0 V5
  rw [show World.setCells V5 (w.heap.size + 3) 0 [.int .u16 i.ha,.int .u16 0,.int .u16 d1,.int .i64 d0,.int .u64 d2,.int .u64 d3] = V9 from HW.out] at bR4 hg4
  have hB4 := hB0.grown hg4 (by have := bR0.lt; omega) (fun k hk => by cases hk; omega)
  have hl := run_loadVar_row (P := Try.prog) _ (w.heap.size + 3) 114 114 _ (0,0) _ bR4 Try.underlying114 rfl (by kernel_rfl)
  exact bodyPost_ret (v := .tuple #[.agg #[.int .u16 i.ha,.int .u16 0,.int .u16 d1,.int .i64 d0,.int .u64 d2,.int .u64 d3],.bool (d1 != 0)]) (by rw [results_cell_tmp rfl]; simp [asAddr,hl]) rfl ⟨by rw [HEL.out]; rfl,hB4⟩
theorem relem_any (c : Cl) (k : Cv) (p : Pd) (pb pi : Value) (i : Im) (ib : Value) (w : World) (hb : BV w ib i.bs) (hm : i.bs.length ≤ 1000000) :
 Calls Try.prog 96 #[.agg (k.cells c).toArray,.agg (pdc p pb pi).toArray,.agg (ienc (i,ib)).toArray] w fun e w' => e = .returned (.tuple #[.agg (fenc (elR c p.kd i).1).toArray,.bool (elR c p.kd i).2]) ∧ Below w.heap.size w w' := by
 by_cases h1 : i.ha < c.ad.ha
 ·exact relem_lo c k p pb pi i ib w hb hm h1
 by_cases h2 : c.ad.la < i.ha
 ·exact relem_hi c k p pb pi i ib w hb hm h1 h2
 by_cases h3 : p.kd = 5
 ·exact relem_5 c k p pb pi i ib w hb hm h1 h2 h3
 by_cases h4 : p.kd = 17
 ·exact relem_17 c k p pb pi i ib w hb hm h1 h2 h4
 ·exact relem_ch c k p pb pi i ib w hb hm h1 h2 h3 h4
theorem rmore_any (c : Cl) (k : Cv) (R0 : List (Option Nat)) (p : Pd) (bv iv : Value) (now : Int) (w : World) (hC : Cr w R0 c k) (hp : BD w R0 bv p.vs) (hi : SR w iv 0 5 []) (hR0 : ∀ i,some i ∈ R0 → i < w.heap.size) :
 Calls Try.prog 86 #[.agg (k.cells c).toArray,.int .i64 now,.agg (pdc p bv iv).toArray] w fun e w' => Out3 w' R0 e ((sp0 c now).send p) ∧ Below w.heap.size w w' := by
 obtain ⟨R,hRs,hm0,hm1,hm2,hRl,hRR,B0,bP0,bR0,hB0,hV3⟩ := pro3 hC hR0 (pdc p bv iv) 32 [.int .i64 0,.int .i64 0,.int .i64 0,.int .u16 0,.int .u16 0,.int .u16 0,.slice none 0 0,.int .i64 0,.slice none 0 0,.bool false,.int .i64 0,.int .i64 0,.int .u16 0,.int .u16 0,.int .u64 0,.int .u64 0,.int .i64 0,.int .i64 0,.int .i64 0,.bool false,.slice none 0 0,.slice none 0 0,.bool false,.int .i64 0,.bool false,.slice none 0 0] 35
 have HP := Lib.hid (hp.up hRR hB0)
 have HI := Lib.hid (hi.below hB0)
 clear hC hp hi hR0 hRR
 go_enter Try.func86,Try.ntmps86
 go_upto_region 1 with fail
 generalize hX : World.alloc (World.alloc (World.alloc w _) _) _ = V at B0 bP0 bR0 hB0 hV3 HP HI ⊢
 clear hX
 have HV3 := Lib.hid hV3
 clear hV3
 have hrg := B0.range
 have hrp := bP0.range 0 (pdc p bv iv) (fun j v hv => by rw [Nat.zero_add]; exact hv)
 go_wp2_with (first | (refine wpList_load_mid rfl 35 _ rfl w.heap.size 0 rfl (k.cells c) _ hrg Try.underlying35 rfl (by kernel_rfl) ?_) | (refine wpList_load_mid rfl 32 _ rfl (w.heap.size + 1) 0 rfl (pdc p bv iv) _ hrp Try.underlying32 rfl (by kernel_rfl) ?_))
 refine (rsend2 c k R p bv iv now V B0.cr HP.out HI.out (fun i hi => by have := hRl i hi; have := HV3.out; omega)).mono ?_
 rintro e w1 ⟨⟨k1,o,rfl,hC1,hps⟩,hB1⟩
 obtain ⟨x1,hx1⟩ : ∃ x1 : Sp,(sp0 c now).send p = x1 := ⟨_,rfl⟩
 have hus : x1.us = [] := by rw [← hx1]; rfl
 rw [hx1] at hC1 hps ⊢
 have HX := Lib.hid hx1
 have B1 := B0.below hB1
 have bR1 := bR0.below hB1
 have hl1 := hB0.trans (hB1.mono hB0.size)
 clear hx1 hrg hrp HP HI B0 bP0 bR0 hB0
 have hth := B1.blk.there 0 26 (by simp [Cv.cells,clc])
 have hone := hC1.one
 go_upto_region 2 with (refine wpList_store_mid rfl 35 _ _ rfl w.heap.size 0 (k1.cells x1.c).toArray rfl rfl hth (by kernel_rfl) hone ?_; simp only [Act.put]; generalize hW : World.setCells w1 w.heap.size 0 _ = w2; have HW := Lib.hid hW; clear hW)
 have B2 := B1.put_cl hC1
 have hg2 := setCells_grown w.heap.size (k1.cells x1.c) 0 w1
 have hps2 := hps.turned hg2 (fun k hk => .inl (by rw [← hk]; exact hm0))
 have bR2 := bR1.kept hg2 (fun e => by injection e with e; omega)
 have hl2 := hl1.grown hg2 hl1.size (fun k hk => by cases hk; exact Nat.le_refl _)
 have e1 : w1.setCells w.heap.size 0 (k1.cells x1.c) = w2 := HW.out
 rw [e1] at B2 hps2 bR2 hl2
 clear HW e1 hg2 B1 hps bR1 hl1 hth
 have hrg := B2.range
 have hth := bR2.there 0 26 (by simp)
 go_wp2_with (first | (refine wpList_load_mid rfl 35 _ rfl w.heap.size 0 rfl (k1.cells x1.c) _ hrg Try.underlying35 rfl (by kernel_rfl) ?_) | (refine wpList_store_mid rfl 35 _ _ rfl (w.heap.size + 2) 0 (k1.cells x1.c).toArray rfl rfl hth (by kernel_rfl) hone ?_; simp only [Act.put]; generalize hW : World.setCells w2 (w.heap.size + 2) 0 _ = w3; have HW := Lib.hid hW; clear hW))
 obtain ⟨hF,bR3⟩ := fin26 (o := o) (r := .slice none 0 0) (us := x1.us) B2.cr hps2 (by rw [hus]; exact rsr_nil w2 R) bR2 rfl hm2 hRs hl2 (by omega)
 have e1 : w2.setCells (w.heap.size + 2) 0 (k1.cells x1.c) = w3 := HW.out
 rw [e1] at hF bR3
 have hl := run_loadVar_row (P := Try.prog) _ (w.heap.size + 2) 35 35 _ (0,0) _ bR3 Try.underlying35 rfl (by kernel_rfl)
 exact bodyPost_ret (v := .tuple #[.agg (k1.cells x1.c).toArray,o,.slice none 0 0]) (by rw [results_cell_tmp2 rfl]; simp [asAddr,hl]) rfl ⟨by rw [HX.out]; exact ⟨k1,_,_,rfl,hF.1,hF.2.1,hF.2.2.1⟩,hF.2.2.2⟩
end Go.Proofs.Ytldcihjddebciaa
