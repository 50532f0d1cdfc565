/- client's reference: begin. -/
import Derived.Test.YtldcihjddebciaaPCmD
set_option linter.unusedSimpArgs false
set_option linter.unusedVariables false
set_option maxRecDepth 100000
set_option maxHeartbeats 4000000
namespace Go.Proofs.Ytldcihjddebciaa
open Go.RowKit
theorem rbegin_1 (c : Cl) (k : Cv) (R0 : List (Option Nat)) (fi la ha : Nat) (vs : List Nat) (bad : Bool) (tb : Value) (now : Int) (w : World) (hC : Cr w R0 c k) (hb : BD w R0 tb vs) (hR0 : ∀ i,some i ∈ R0 → i < w.heap.size) :
 Calls Try.prog 36 #[.agg (k.cells c).toArray,.agg (tkc (⟨1,fi,la,ha,vs,0,[],bad⟩ : Tk) tb (.slice none 0 0)).toArray,.int .i64 now] w fun e w' => Out2 w' R0 e ((sp0 c now).begin (⟨1,fi,la,ha,vs,0,[],bad⟩ : Tk)) ∧ Below w.heap.size w w' := by
 obtain ⟨R,hRs,hm0,hm1,hm2,hRl,hRR,B0,bT0,bR0,hB0,hV3⟩ := pro3 hC hR0 (tkc (⟨1,fi,la,ha,vs,0,[],bad⟩ : Tk) tb (.slice none 0 0)) 26 [.int .i64 0,.int .i64 0,.int .i64 0,.int .u16 0,.int .u16 0,.int .u16 0,.slice none 0 0,.int .i64 0,.slice none 0 0,.bool false,.int .i64 0,.int .i64 0,.int .u16 0,.int .u16 0,.int .u64 0,.int .u64 0,.int .i64 0,.int .i64 0,.int .i64 0,.bool false,.slice none 0 0,.slice none 0 0,.bool false,.int .i64 0,.bool false,.slice none 0 0] 35
 have hb := hb.up hRR hB0
 have HV3 := Lib.hid hV3
 clear hC hR0 hRR hV3
 go_enter Try.func36,Try.ntmps36
 go_upto_region 1 with fail
 generalize hX : World.alloc (World.alloc (World.alloc w _) _) _ = V at B0 bT0 bR0 hB0 HV3 hb ⊢
 clear hX
 have hrt := bT0.range 0 (tkc (⟨1,fi,la,ha,vs,0,[],bad⟩ : Tk) tb (.slice none 0 0)) (fun j v hv => by rw [Nat.zero_add]; exact hv)
 have hth := B0.blk.there 2 8 (by simp [Cv.cells,clc])
 have hone : (tkc (⟨1,fi,la,ha,vs,0,[],bad⟩ : Tk) tb (.slice none 0 0)).toArray.all (·.oneCell') = true := by
  obtain ⟨a1,c1,e1⟩ := hb.1.form
  simp [tkc,e1,Value.oneCell']
 go_upto_region 2 with (first | (refine wpList_load_mid rfl 26 _ rfl (w.heap.size + 1) 0 rfl (tkc (⟨1,fi,la,ha,vs,0,[],bad⟩ : Tk) tb (.slice none 0 0)) _ hrt Try.underlying26 rfl (by kernel_rfl) ?_) | (refine wpList_store_mid rfl 26 _ _ rfl w.heap.size 2 (tkc (⟨1,fi,la,ha,vs,0,[],bad⟩ : Tk) tb (.slice none 0 0)).toArray rfl rfl hth (by kernel_rfl) hone ?_; simp only [Act.put]))
 have B1 := B0.put_tk (⟨1,fi,la,ha,vs,0,[],bad⟩ : Tk) hb (FD.nil V R)
 have hg1 := setCells_grown w.heap.size (tkc (⟨1,fi,la,ha,vs,0,[],bad⟩ : Tk) tb (.slice none 0 0)) 2 V
 have bT1 := bT0.kept hg1 (fun e => by injection e with e; omega)
 have bRc := bR0.kept hg1 (fun e => by injection e with e; omega)
 have hBc := hB0.grown hg1 hB0.size (fun k hk => by cases hk; exact Nat.le_refl _)
 generalize hW : World.setCells V w.heap.size 2 _ = V1
 have e1 : V.setCells w.heap.size 2 (tkc (⟨1,fi,la,ha,vs,0,[],bad⟩ : Tk) tb (.slice none 0 0)) = V1 := hW
 rw [e1] at B1 bT1 bRc hBc
 clear hW e1 hg1 hrt hth hone B0 bT0 bR0 hB0 hb
 obtain ⟨c1,hc1⟩ : ∃ c1 : Cl,{ c with tk := (⟨1,fi,la,ha,vs,0,[],bad⟩ : Tk) } = c1 := ⟨_,rfl⟩
 obtain ⟨k1,hk1⟩ : ∃ k1 : Cv,{ k with bv := tb,fv := .slice none 0 0 } = k1 := ⟨_,rfl⟩
 rw [hc1,hk1] at B1
 have hbeg : (sp0 c now).begin (⟨1,fi,la,ha,vs,0,[],bad⟩ : Tk) = (sp0 c1 now).send { pd0 with kd := 2,mt := c.mx } := by
  rw [← hc1]
  simp [Sp.begin,firstP,sp0]
 have hmx : c1.mx = c.mx := by rw [← hc1]
 have HBEG := Lib.hid hbeg
 clear hbeg hk1 hc1
 have hrg := B1.range
 have TB : Cells V1 (blk (w.heap.size + 1) 0 0 [.int .i64 1,.int .u16 fi,.int .u16 la,.int .u16 ha,tb,.int .i64 0,.slice none 0 0,.bool bad]) := bT1.cells
 have hOpen := TB
 simp only [Cells,blk,List.cons_append,List.nil_append,and_true,Nat.reduceAdd,Nat.add_zero,Nat.zero_add] at hOpen
 obtain ⟨q0,q1,q2,q3,q4,q5,q6,q7⟩ := hOpen
 have m1 := B1.blk.cell (j := 1) (v := .int .i64 c.mx) (by rw [← hmx]; rfl)
 go_wp2_with (refine wpList_load_mid rfl 35 _ rfl w.heap.size 0 rfl (k1.cells c1) _ hrg Try.underlying35 rfl (by kernel_rfl) ?_)
 refine (rsend2 c1 k1 R { pd0 with kd := 2,mt := c.mx } (.slice none 0 0) (.slice none 0 0) now _ B1.cr (BD.nil _ R) (SR.nil _ 5) (fun i hi => by have := hRl i hi; have := HV3.out; have := hBc.size; have := bRc.lt; omega)).mono ?_
 rintro e w1 ⟨⟨k2,o,rfl,hC1,hps⟩,hB1⟩
 obtain ⟨x1,hx1⟩ : ∃ x1 : Sp,(sp0 c1 now).send { pd0 with kd := 2,mt := c.mx } = x1 := ⟨_,rfl⟩
 rw [hx1] at hC1 hps ⊢
 have HX := Lib.hid hx1
 have bR1 := bRc.below hB1
 have hl1 := hBc.trans (hB1.mono hBc.size)
 have hth := bR1.there 0 26 (by simp)
 have hone := hC1.one
 clear hx1
 clear hB1 hrg
 go_wp2_with (refine wpList_store_mid rfl 35 _ _ rfl (w.heap.size + 2) 0 (k2.cells x1.c).toArray rfl rfl hth (by kernel_rfl) hone ?_; simp only [Act.put])
 obtain ⟨hF,bR3⟩ := fin26 (o := o) (r := .slice none 0 0) (us := []) hC1 hps (rsr_nil w1 R) bR1 rfl hm2 hRs hl1 (by omega)
 have hl := run_loadVar_row (P := Try.prog) _ (w.heap.size + 2) 35 35 _ (0,0) _ bR3 Try.underlying35 rfl (by kernel_rfl)
 exact bodyPost_ret (v := .tuple #[.agg (k2.cells x1.c).toArray,o]) (by rw [results_cell_tmp rfl]; simp [asAddr,hl]) rfl ⟨by rw [HBEG.out,HX.out]; exact ⟨k2,_,rfl,hF.1,hF.2.1⟩,hF.2.2.2⟩
theorem rbegin_4 (c : Cl) (k : Cv) (R0 : List (Option Nat)) (fi la ha : Nat) (vs : List Nat) (bad : Bool) (tb : Value) (now : Int) (w : World) (hC : Cr w R0 c k) (hb : BD w R0 tb vs) (hR0 : ∀ i,some i ∈ R0 → i < w.heap.size) :
 Calls Try.prog 36 #[.agg (k.cells c).toArray,.agg (tkc (⟨4,fi,la,ha,vs,0,[],bad⟩ : Tk) tb (.slice none 0 0)).toArray,.int .i64 now] w fun e w' => Out2 w' R0 e ((sp0 c now).begin (⟨4,fi,la,ha,vs,0,[],bad⟩ : Tk)) ∧ Below w.heap.size w w' := by
 obtain ⟨R,hRs,hm0,hm1,hm2,hRl,hRR,B0,bT0,bR0,hB0,hV3⟩ := pro3 hC hR0 (tkc (⟨4,fi,la,ha,vs,0,[],bad⟩ : Tk) tb (.slice none 0 0)) 26 [.int .i64 0,.int .i64 0,.int .i64 0,.int .u16 0,.int .u16 0,.int .u16 0,.slice none 0 0,.int .i64 0,.slice none 0 0,.bool false,.int .i64 0,.int .i64 0,.int .u16 0,.int .u16 0,.int .u64 0,.int .u64 0,.int .i64 0,.int .i64 0,.int .i64 0,.bool false,.slice none 0 0,.slice none 0 0,.bool false,.int .i64 0,.bool false,.slice none 0 0] 35
 have hb := hb.up hRR hB0
 have HV3 := Lib.hid hV3
 clear hC hR0 hRR hV3
 go_enter Try.func36,Try.ntmps36
 go_upto_region 1 with fail
 generalize hX : World.alloc (World.alloc (World.alloc w _) _) _ = V at B0 bT0 bR0 hB0 HV3 hb ⊢
 clear hX
 have hrt := bT0.range 0 (tkc (⟨4,fi,la,ha,vs,0,[],bad⟩ : Tk) tb (.slice none 0 0)) (fun j v hv => by rw [Nat.zero_add]; exact hv)
 have hth := B0.blk.there 2 8 (by simp [Cv.cells,clc])
 have hone : (tkc (⟨4,fi,la,ha,vs,0,[],bad⟩ : Tk) tb (.slice none 0 0)).toArray.all (·.oneCell') = true := by
  obtain ⟨a1,c1,e1⟩ := hb.1.form
  simp [tkc,e1,Value.oneCell']
 go_upto_region 2 with (first | (refine wpList_load_mid rfl 26 _ rfl (w.heap.size + 1) 0 rfl (tkc (⟨4,fi,la,ha,vs,0,[],bad⟩ : Tk) tb (.slice none 0 0)) _ hrt Try.underlying26 rfl (by kernel_rfl) ?_) | (refine wpList_store_mid rfl 26 _ _ rfl w.heap.size 2 (tkc (⟨4,fi,la,ha,vs,0,[],bad⟩ : Tk) tb (.slice none 0 0)).toArray rfl rfl hth (by kernel_rfl) hone ?_; simp only [Act.put]))
 have B1 := B0.put_tk (⟨4,fi,la,ha,vs,0,[],bad⟩ : Tk) hb (FD.nil V R)
 have hg1 := setCells_grown w.heap.size (tkc (⟨4,fi,la,ha,vs,0,[],bad⟩ : Tk) tb (.slice none 0 0)) 2 V
 have bT1 := bT0.kept hg1 (fun e => by injection e with e; omega)
 have bRc := bR0.kept hg1 (fun e => by injection e with e; omega)
 have hBc := hB0.grown hg1 hB0.size (fun k hk => by cases hk; exact Nat.le_refl _)
 generalize hW : World.setCells V w.heap.size 2 _ = V1
 have e1 : V.setCells w.heap.size 2 (tkc (⟨4,fi,la,ha,vs,0,[],bad⟩ : Tk) tb (.slice none 0 0)) = V1 := hW
 rw [e1] at B1 bT1 bRc hBc
 clear hW e1 hg1 hrt hth hone B0 bT0 bR0 hB0 hb
 obtain ⟨c1,hc1⟩ : ∃ c1 : Cl,{ c with tk := (⟨4,fi,la,ha,vs,0,[],bad⟩ : Tk) } = c1 := ⟨_,rfl⟩
 obtain ⟨k1,hk1⟩ : ∃ k1 : Cv,{ k with bv := tb,fv := .slice none 0 0 } = k1 := ⟨_,rfl⟩
 rw [hc1,hk1] at B1
 have hbeg : (sp0 c now).begin (⟨4,fi,la,ha,vs,0,[],bad⟩ : Tk) = (sp0 c1 now).send { pd0 with kd := 4,ha := fi,la := la } := by
  rw [← hc1]
  simp [Sp.begin,firstP,sp0]
 have hmx : c1.mx = c.mx := by rw [← hc1]
 have HBEG := Lib.hid hbeg
 clear hbeg hk1 hc1
 have hrg := B1.range
 have TB : Cells V1 (blk (w.heap.size + 1) 0 0 [.int .i64 4,.int .u16 fi,.int .u16 la,.int .u16 ha,tb,.int .i64 0,.slice none 0 0,.bool bad]) := bT1.cells
 have hOpen := TB
 simp only [Cells,blk,List.cons_append,List.nil_append,and_true,Nat.reduceAdd,Nat.add_zero,Nat.zero_add] at hOpen
 obtain ⟨q0,q1,q2,q3,q4,q5,q6,q7⟩ := hOpen
 go_wp2_with (refine wpList_load_mid rfl 35 _ rfl w.heap.size 0 rfl (k1.cells c1) _ hrg Try.underlying35 rfl (by kernel_rfl) ?_)
 refine (rsend2 c1 k1 R { pd0 with kd := 4,ha := fi,la := la } (.slice none 0 0) (.slice none 0 0) now _ B1.cr (BD.nil _ R) (SR.nil _ 5) (fun i hi => by have := hRl i hi; have := HV3.out; have := hBc.size; have := bRc.lt; omega)).mono ?_
 rintro e w1 ⟨⟨k2,o,rfl,hC1,hps⟩,hB1⟩
 obtain ⟨x1,hx1⟩ : ∃ x1 : Sp,(sp0 c1 now).send { pd0 with kd := 4,ha := fi,la := la } = x1 := ⟨_,rfl⟩
 rw [hx1] at hC1 hps ⊢
 have HX := Lib.hid hx1
 have bR1 := bRc.below hB1
 have hl1 := hBc.trans (hB1.mono hBc.size)
 have hth := bR1.there 0 26 (by simp)
 have hone := hC1.one
 clear hx1
 clear hB1 hrg
 go_wp2_with (refine wpList_store_mid rfl 35 _ _ rfl (w.heap.size + 2) 0 (k2.cells x1.c).toArray rfl rfl hth (by kernel_rfl) hone ?_; simp only [Act.put])
 obtain ⟨hF,bR3⟩ := fin26 (o := o) (r := .slice none 0 0) (us := []) hC1 hps (rsr_nil w1 R) bR1 rfl hm2 hRs hl1 (by omega)
 have hl := run_loadVar_row (P := Try.prog) _ (w.heap.size + 2) 35 35 _ (0,0) _ bR3 Try.underlying35 rfl (by kernel_rfl)
 exact bodyPost_ret (v := .tuple #[.agg (k2.cells x1.c).toArray,o]) (by rw [results_cell_tmp rfl]; simp [asAddr,hl]) rfl ⟨by rw [HBEG.out,HX.out]; exact ⟨k2,_,rfl,hF.1,hF.2.1⟩,hF.2.2.2⟩
theorem rbegin_5 (c : Cl) (k : Cv) (R0 : List (Option Nat)) (fi la ha : Nat) (vs : List Nat) (bad : Bool) (tb : Value) (now : Int) (w : World) (hC : Cr w R0 c k) (hb : BD w R0 tb vs) (hR0 : ∀ i,some i ∈ R0 → i < w.heap.size) :
 Calls Try.prog 36 #[.agg (k.cells c).toArray,.agg (tkc (⟨5,fi,la,ha,vs,0,[],bad⟩ : Tk) tb (.slice none 0 0)).toArray,.int .i64 now] w fun e w' => Out2 w' R0 e ((sp0 c now).begin (⟨5,fi,la,ha,vs,0,[],bad⟩ : Tk)) ∧ Below w.heap.size w w' := by
 obtain ⟨R,hRs,hm0,hm1,hm2,hRl,hRR,B0,bT0,bR0,hB0,hV3⟩ := pro3 hC hR0 (tkc (⟨5,fi,la,ha,vs,0,[],bad⟩ : Tk) tb (.slice none 0 0)) 26 [.int .i64 0,.int .i64 0,.int .i64 0,.int .u16 0,.int .u16 0,.int .u16 0,.slice none 0 0,.int .i64 0,.slice none 0 0,.bool false,.int .i64 0,.int .i64 0,.int .u16 0,.int .u16 0,.int .u64 0,.int .u64 0,.int .i64 0,.int .i64 0,.int .i64 0,.bool false,.slice none 0 0,.slice none 0 0,.bool false,.int .i64 0,.bool false,.slice none 0 0] 35
 have hb := hb.up hRR hB0
 have HV3 := Lib.hid hV3
 clear hC hR0 hRR hV3
 go_enter Try.func36,Try.ntmps36
 go_upto_region 1 with fail
 generalize hX : World.alloc (World.alloc (World.alloc w _) _) _ = V at B0 bT0 bR0 hB0 HV3 hb ⊢
 clear hX
 have hrt := bT0.range 0 (tkc (⟨5,fi,la,ha,vs,0,[],bad⟩ : Tk) tb (.slice none 0 0)) (fun j v hv => by rw [Nat.zero_add]; exact hv)
 have hth := B0.blk.there 2 8 (by simp [Cv.cells,clc])
 have hone : (tkc (⟨5,fi,la,ha,vs,0,[],bad⟩ : Tk) tb (.slice none 0 0)).toArray.all (·.oneCell') = true := by
  obtain ⟨a1,c1,e1⟩ := hb.1.form
  simp [tkc,e1,Value.oneCell']
 go_upto_region 2 with (first | (refine wpList_load_mid rfl 26 _ rfl (w.heap.size + 1) 0 rfl (tkc (⟨5,fi,la,ha,vs,0,[],bad⟩ : Tk) tb (.slice none 0 0)) _ hrt Try.underlying26 rfl (by kernel_rfl) ?_) | (refine wpList_store_mid rfl 26 _ _ rfl w.heap.size 2 (tkc (⟨5,fi,la,ha,vs,0,[],bad⟩ : Tk) tb (.slice none 0 0)).toArray rfl rfl hth (by kernel_rfl) hone ?_; simp only [Act.put]))
 have B1 := B0.put_tk (⟨5,fi,la,ha,vs,0,[],bad⟩ : Tk) hb (FD.nil V R)
 have hg1 := setCells_grown w.heap.size (tkc (⟨5,fi,la,ha,vs,0,[],bad⟩ : Tk) tb (.slice none 0 0)) 2 V
 have bT1 := bT0.kept hg1 (fun e => by injection e with e; omega)
 have bRc := bR0.kept hg1 (fun e => by injection e with e; omega)
 have hBc := hB0.grown hg1 hB0.size (fun k hk => by cases hk; exact Nat.le_refl _)
 generalize hW : World.setCells V w.heap.size 2 _ = V1
 have e1 : V.setCells w.heap.size 2 (tkc (⟨5,fi,la,ha,vs,0,[],bad⟩ : Tk) tb (.slice none 0 0)) = V1 := hW
 rw [e1] at B1 bT1 bRc hBc
 clear hW e1 hg1 hrt hth hone B0 bT0 bR0 hB0 hb
 obtain ⟨c1,hc1⟩ : ∃ c1 : Cl,{ c with tk := (⟨5,fi,la,ha,vs,0,[],bad⟩ : Tk) } = c1 := ⟨_,rfl⟩
 obtain ⟨k1,hk1⟩ : ∃ k1 : Cv,{ k with bv := tb,fv := .slice none 0 0 } = k1 := ⟨_,rfl⟩
 rw [hc1,hk1] at B1
 have hbeg : (sp0 c now).begin (⟨5,fi,la,ha,vs,0,[],bad⟩ : Tk) = (sp0 c1 now).send { pd0 with kd := 10,ha := ha } := by
  rw [← hc1]
  simp [Sp.begin,firstP,sp0]
 have hmx : c1.mx = c.mx := by rw [← hc1]
 have HBEG := Lib.hid hbeg
 clear hbeg hk1 hc1
 have hrg := B1.range
 have TB : Cells V1 (blk (w.heap.size + 1) 0 0 [.int .i64 5,.int .u16 fi,.int .u16 la,.int .u16 ha,tb,.int .i64 0,.slice none 0 0,.bool bad]) := bT1.cells
 have hOpen := TB
 simp only [Cells,blk,List.cons_append,List.nil_append,and_true,Nat.reduceAdd,Nat.add_zero,Nat.zero_add] at hOpen
 obtain ⟨q0,q1,q2,q3,q4,q5,q6,q7⟩ := hOpen
 go_wp2_with (refine wpList_load_mid rfl 35 _ rfl w.heap.size 0 rfl (k1.cells c1) _ hrg Try.underlying35 rfl (by kernel_rfl) ?_)
 refine (rsend2 c1 k1 R { pd0 with kd := 10,ha := ha } (.slice none 0 0) (.slice none 0 0) now _ B1.cr (BD.nil _ R) (SR.nil _ 5) (fun i hi => by have := hRl i hi; have := HV3.out; have := hBc.size; have := bRc.lt; omega)).mono ?_
 rintro e w1 ⟨⟨k2,o,rfl,hC1,hps⟩,hB1⟩
 obtain ⟨x1,hx1⟩ : ∃ x1 : Sp,(sp0 c1 now).send { pd0 with kd := 10,ha := ha } = x1 := ⟨_,rfl⟩
 rw [hx1] at hC1 hps ⊢
 have HX := Lib.hid hx1
 have bR1 := bRc.below hB1
 have hl1 := hBc.trans (hB1.mono hBc.size)
 have hth := bR1.there 0 26 (by simp)
 have hone := hC1.one
 clear hx1
 clear hB1 hrg
 go_wp2_with (refine wpList_store_mid rfl 35 _ _ rfl (w.heap.size + 2) 0 (k2.cells x1.c).toArray rfl rfl hth (by kernel_rfl) hone ?_; simp only [Act.put])
 obtain ⟨hF,bR3⟩ := fin26 (o := o) (r := .slice none 0 0) (us := []) hC1 hps (rsr_nil w1 R) bR1 rfl hm2 hRs hl1 (by omega)
 have hl := run_loadVar_row (P := Try.prog) _ (w.heap.size + 2) 35 35 _ (0,0) _ bR3 Try.underlying35 rfl (by kernel_rfl)
 exact bodyPost_ret (v := .tuple #[.agg (k2.cells x1.c).toArray,o]) (by rw [results_cell_tmp rfl]; simp [asAddr,hl]) rfl ⟨by rw [HBEG.out,HX.out]; exact ⟨k2,_,rfl,hF.1,hF.2.1⟩,hF.2.2.2⟩
theorem rbegin_6 (c : Cl) (k : Cv) (R0 : List (Option Nat)) (fi la ha : Nat) (vs : List Nat) (bad : Bool) (tb : Value) (now : Int) (w : World) (hC : Cr w R0 c k) (hb : BD w R0 tb vs) (hR0 : ∀ i,some i ∈ R0 → i < w.heap.size) :
 Calls Try.prog 36 #[.agg (k.cells c).toArray,.agg (tkc (⟨6,fi,la,ha,vs,0,[],bad⟩ : Tk) tb (.slice none 0 0)).toArray,.int .i64 now] w fun e w' => Out2 w' R0 e ((sp0 c now).begin (⟨6,fi,la,ha,vs,0,[],bad⟩ : Tk)) ∧ Below w.heap.size w w' := by
 obtain ⟨R,hRs,hm0,hm1,hm2,hRl,hRR,B0,bT0,bR0,hB0,hV3⟩ := pro3 hC hR0 (tkc (⟨6,fi,la,ha,vs,0,[],bad⟩ : Tk) tb (.slice none 0 0)) 26 [.int .i64 0,.int .i64 0,.int .i64 0,.int .u16 0,.int .u16 0,.int .u16 0,.slice none 0 0,.int .i64 0,.slice none 0 0,.bool false,.int .i64 0,.int .i64 0,.int .u16 0,.int .u16 0,.int .u64 0,.int .u64 0,.int .i64 0,.int .i64 0,.int .i64 0,.bool false,.slice none 0 0,.slice none 0 0,.bool false,.int .i64 0,.bool false,.slice none 0 0] 35
 have hb := hb.up hRR hB0
 have HV3 := Lib.hid hV3
 clear hC hR0 hRR hV3
 go_enter Try.func36,Try.ntmps36
 go_upto_region 1 with fail
 generalize hX : World.alloc (World.alloc (World.alloc w _) _) _ = V at B0 bT0 bR0 hB0 HV3 hb ⊢
 clear hX
 have hrt := bT0.range 0 (tkc (⟨6,fi,la,ha,vs,0,[],bad⟩ : Tk) tb (.slice none 0 0)) (fun j v hv => by rw [Nat.zero_add]; exact hv)
 have hth := B0.blk.there 2 8 (by simp [Cv.cells,clc])
 have hone : (tkc (⟨6,fi,la,ha,vs,0,[],bad⟩ : Tk) tb (.slice none 0 0)).toArray.all (·.oneCell') = true := by
  obtain ⟨a1,c1,e1⟩ := hb.1.form
  simp [tkc,e1,Value.oneCell']
 go_upto_region 2 with (first | (refine wpList_load_mid rfl 26 _ rfl (w.heap.size + 1) 0 rfl (tkc (⟨6,fi,la,ha,vs,0,[],bad⟩ : Tk) tb (.slice none 0 0)) _ hrt Try.underlying26 rfl (by kernel_rfl) ?_) | (refine wpList_store_mid rfl 26 _ _ rfl w.heap.size 2 (tkc (⟨6,fi,la,ha,vs,0,[],bad⟩ : Tk) tb (.slice none 0 0)).toArray rfl rfl hth (by kernel_rfl) hone ?_; simp only [Act.put]))
 have B1 := B0.put_tk (⟨6,fi,la,ha,vs,0,[],bad⟩ : Tk) hb (FD.nil V R)
 have hg1 := setCells_grown w.heap.size (tkc (⟨6,fi,la,ha,vs,0,[],bad⟩ : Tk) tb (.slice none 0 0)) 2 V
 have bT1 := bT0.kept hg1 (fun e => by injection e with e; omega)
 have bRc := bR0.kept hg1 (fun e => by injection e with e; omega)
 have hBc := hB0.grown hg1 hB0.size (fun k hk => by cases hk; exact Nat.le_refl _)
 generalize hW : World.setCells V w.heap.size 2 _ = V1
 have e1 : V.setCells w.heap.size 2 (tkc (⟨6,fi,la,ha,vs,0,[],bad⟩ : Tk) tb (.slice none 0 0)) = V1 := hW
 rw [e1] at B1 bT1 bRc hBc
 clear hW e1 hg1 hrt hth hone B0 bT0 bR0 hB0 hb
 obtain ⟨c1,hc1⟩ : ∃ c1 : Cl,{ c with tk := (⟨6,fi,la,ha,vs,0,[],bad⟩ : Tk) } = c1 := ⟨_,rfl⟩
 obtain ⟨k1,hk1⟩ : ∃ k1 : Cv,{ k with bv := tb,fv := .slice none 0 0 } = k1 := ⟨_,rfl⟩
 rw [hc1,hk1] at B1
 have hbeg : (sp0 c now).begin (⟨6,fi,la,ha,vs,0,[],bad⟩ : Tk) = (sp0 c1 now).send { pd0 with kd := 10,ha := ha } := by
  rw [← hc1]
  simp [Sp.begin,firstP,sp0]
 have hmx : c1.mx = c.mx := by rw [← hc1]
 have HBEG := Lib.hid hbeg
 clear hbeg hk1 hc1
 have hrg := B1.range
 have TB : Cells V1 (blk (w.heap.size + 1) 0 0 [.int .i64 6,.int .u16 fi,.int .u16 la,.int .u16 ha,tb,.int .i64 0,.slice none 0 0,.bool bad]) := bT1.cells
 have hOpen := TB
 simp only [Cells,blk,List.cons_append,List.nil_append,and_true,Nat.reduceAdd,Nat.add_zero,Nat.zero_add] at hOpen
 obtain ⟨q0,q1,q2,q3,q4,q5,q6,q7⟩ := hOpen
 go_wp2_with (refine wpList_load_mid rfl 35 _ rfl w.heap.size 0 rfl (k1.cells c1) _ hrg Try.underlying35 rfl (by kernel_rfl) ?_)
 refine (rsend2 c1 k1 R { pd0 with kd := 10,ha := ha } (.slice none 0 0) (.slice none 0 0) now _ B1.cr (BD.nil _ R) (SR.nil _ 5) (fun i hi => by have := hRl i hi; have := HV3.out; have := hBc.size; have := bRc.lt; omega)).mono ?_
 rintro e w1 ⟨⟨k2,o,rfl,hC1,hps⟩,hB1⟩
 obtain ⟨x1,hx1⟩ : ∃ x1 : Sp,(sp0 c1 now).send { pd0 with kd := 10,ha := ha } = x1 := ⟨_,rfl⟩
 rw [hx1] at hC1 hps ⊢
 have HX := Lib.hid hx1
 have bR1 := bRc.below hB1
 have hl1 := hBc.trans (hB1.mono hBc.size)
 have hth := bR1.there 0 26 (by simp)
 have hone := hC1.one
 clear hx1
 clear hB1 hrg
 go_wp2_with (refine wpList_store_mid rfl 35 _ _ rfl (w.heap.size + 2) 0 (k2.cells x1.c).toArray rfl rfl hth (by kernel_rfl) hone ?_; simp only [Act.put])
 obtain ⟨hF,bR3⟩ := fin26 (o := o) (r := .slice none 0 0) (us := []) hC1 hps (rsr_nil w1 R) bR1 rfl hm2 hRs hl1 (by omega)
 have hl := run_loadVar_row (P := Try.prog) _ (w.heap.size + 2) 35 35 _ (0,0) _ bR3 Try.underlying35 rfl (by kernel_rfl)
 exact bodyPost_ret (v := .tuple #[.agg (k2.cells x1.c).toArray,o]) (by rw [results_cell_tmp rfl]; simp [asAddr,hl]) rfl ⟨by rw [HBEG.out,HX.out]; exact ⟨k2,_,rfl,hF.1,hF.2.1⟩,hF.2.2.2⟩
theorem rbegin_2 (c : Cl) (k : Cv) (R0 : List (Option Nat)) (fi la ha : Nat) (vs : List Nat) (bad : Bool) (tb : Value) (now : Int) (w : World) (hC : Cr w R0 c k) (hb : BD w R0 tb vs) (hR0 : ∀ i,some i ∈ R0 → i < w.heap.size) :
 Calls Try.prog 36 #[.agg (k.cells c).toArray,.agg (tkc (⟨2,fi,la,ha,vs,0,[],bad⟩ : Tk) tb (.slice none 0 0)).toArray,.int .i64 now] w fun e w' => Out2 w' R0 e ((sp0 c now).begin (⟨2,fi,la,ha,vs,0,[],bad⟩ : Tk)) ∧ Below w.heap.size w w' := by
 obtain ⟨R,hRs,hm0,hm1,hm2,hRl,hRR,B0,bT0,bR0,hB0,hV3⟩ := pro3 hC hR0 (tkc (⟨2,fi,la,ha,vs,0,[],bad⟩ : Tk) tb (.slice none 0 0)) 26 [.int .i64 0,.int .i64 0,.int .i64 0,.int .u16 0,.int .u16 0,.int .u16 0,.slice none 0 0,.int .i64 0,.slice none 0 0,.bool false,.int .i64 0,.int .i64 0,.int .u16 0,.int .u16 0,.int .u64 0,.int .u64 0,.int .i64 0,.int .i64 0,.int .i64 0,.bool false,.slice none 0 0,.slice none 0 0,.bool false,.int .i64 0,.bool false,.slice none 0 0] 35
 have hb := hb.up hRR hB0
 have HV3 := Lib.hid hV3
 clear hC hR0 hRR hV3
 go_enter Try.func36,Try.ntmps36
 go_upto_region 1 with fail
 generalize hX : World.alloc (World.alloc (World.alloc w _) _) _ = V at B0 bT0 bR0 hB0 HV3 hb ⊢
 clear hX
 have hrt := bT0.range 0 (tkc (⟨2,fi,la,ha,vs,0,[],bad⟩ : Tk) tb (.slice none 0 0)) (fun j v hv => by rw [Nat.zero_add]; exact hv)
 have hth := B0.blk.there 2 8 (by simp [Cv.cells,clc])
 have hone : (tkc (⟨2,fi,la,ha,vs,0,[],bad⟩ : Tk) tb (.slice none 0 0)).toArray.all (·.oneCell') = true := by
  obtain ⟨a1,c1,e1⟩ := hb.1.form
  simp [tkc,e1,Value.oneCell']
 go_upto_region 2 with (first | (refine wpList_load_mid rfl 26 _ rfl (w.heap.size + 1) 0 rfl (tkc (⟨2,fi,la,ha,vs,0,[],bad⟩ : Tk) tb (.slice none 0 0)) _ hrt Try.underlying26 rfl (by kernel_rfl) ?_) | (refine wpList_store_mid rfl 26 _ _ rfl w.heap.size 2 (tkc (⟨2,fi,la,ha,vs,0,[],bad⟩ : Tk) tb (.slice none 0 0)).toArray rfl rfl hth (by kernel_rfl) hone ?_; simp only [Act.put]))
 have B1 := B0.put_tk (⟨2,fi,la,ha,vs,0,[],bad⟩ : Tk) hb (FD.nil V R)
 have hg1 := setCells_grown w.heap.size (tkc (⟨2,fi,la,ha,vs,0,[],bad⟩ : Tk) tb (.slice none 0 0)) 2 V
 have bT1 := bT0.kept hg1 (fun e => by injection e with e; omega)
 have bRc := bR0.kept hg1 (fun e => by injection e with e; omega)
 have hBc := hB0.grown hg1 hB0.size (fun k hk => by cases hk; exact Nat.le_refl _)
 generalize hW : World.setCells V w.heap.size 2 _ = V1
 have e1 : V.setCells w.heap.size 2 (tkc (⟨2,fi,la,ha,vs,0,[],bad⟩ : Tk) tb (.slice none 0 0)) = V1 := hW
 rw [e1] at B1 bT1 bRc hBc
 clear hW e1 hg1 hrt hth hone B0 bT0 bR0 hB0 hb
 obtain ⟨c1,hc1⟩ : ∃ c1 : Cl,{ c with tk := (⟨2,fi,la,ha,vs,0,[],bad⟩ : Tk) } = c1 := ⟨_,rfl⟩
 obtain ⟨k1,hk1⟩ : ∃ k1 : Cv,{ k with bv := tb,fv := .slice none 0 0 } = k1 := ⟨_,rfl⟩
 rw [hc1,hk1] at B1
 have hbeg : (sp0 c now).begin (⟨2,fi,la,ha,vs,0,[],bad⟩ : Tk) = (sp0 c1 now).send { pd0 with kd := 16,ha := 1,la := 65535,hi := 43980465115136,lo := 9223372588214596859 } := by
  rw [← hc1]
  simp [Sp.begin,firstP,sp0]
 have hmx : c1.mx = c.mx := by rw [← hc1]
 have HBEG := Lib.hid hbeg
 clear hbeg hk1 hc1
 have hrg := B1.range
 have TB : Cells V1 (blk (w.heap.size + 1) 0 0 [.int .i64 2,.int .u16 fi,.int .u16 la,.int .u16 ha,tb,.int .i64 0,.slice none 0 0,.bool bad]) := bT1.cells
 have hsh : ∀ W,Calls Try.prog 78 #[.int .u16 10240] W fun e w' => e = .returned (.agg #[.int .u64 43980465115136,.int .u64 9223372588214596859]) ∧ Below W.heap.size W w' := fun W => rshort_any 10240 (by decide) W
 have HSH := Lib.hid hsh
 clear hsh
 have hOpen := TB
 simp only [Cells,blk,List.cons_append,List.nil_append,and_true,Nat.reduceAdd,Nat.add_zero,Nat.zero_add] at hOpen
 obtain ⟨q0,q1,q2,q3,q4,q5,q6,q7⟩ := hOpen
 go_upto_region 6 with fail
 clear q0 q1 q2 q3 q4 q5 q6 q7
 have Bd := B1.drew
 have bTd := bT1.drew
 have bRd := bRc.drew
 have hBd := hBc.drew
 clear B1 bT1 bRc hBc hrg TB
 refine wp_region_held_drew (S := (fun W' : World => W'.rangeAt w.heap.size 0 (k1.cells c1))) (by kernel_rfl) (Bd.range) (fun hHeld => ?_)
 generalize World.drew _ = wd at hHeld Bd bTd bRd hBd ⊢
 refine tkN 0 35 w.heap.size 0 (k1.cells c1) (fun _ h => h) Try.underlying35 ?_
 refine tkU 3 ?_
 refine rd1 1 fun K hK => ?_
 go_simp
 go_at_call 78
 refine (HSH.out _).mono ?_
 rintro e w2 ⟨rfl,hB2⟩
 have B2 := Bd.below hB2
 have bT2 := bTd.below hB2
 have bRc := bRd.below hB2
 have hBc := hBd.trans (hB2.mono hBd.size)
 clear Bd bTd bRd hBd hB2
 clear hHeld
 refine hK.out _ _ (B2.range) (fun hHeld => ?_)
 clear hK K
 try simp only [Act.put,List.setIfInBounds_toArray,List.set_cons_zero,List.set_cons_succ]
 refine tkU 2 ?_
 refine rd1 4 fun K hK => ?_
 go_simp
 go_at_call 77
 refine (rsend2 c1 k1 R { pd0 with kd := 16,ha := 1,la := 65535,hi := 43980465115136,lo := 9223372588214596859 } (.slice none 0 0) (.slice none 0 0) now _ B2.cr (BD.nil _ R) (SR.nil _ 5) (fun i hi => by have := hRl i hi; have := bRc.lt; omega)).mono ?_
 rintro e w1 ⟨⟨k2,o,rfl,hC1,hps⟩,hB1⟩
 obtain ⟨x1,hx1⟩ : ∃ x1 : Sp,(sp0 c1 now).send { pd0 with kd := 16,ha := 1,la := 65535,hi := 43980465115136,lo := 9223372588214596859 } = x1 := ⟨_,rfl⟩
 rw [hx1] at hC1 hps ⊢
 have HX := Lib.hid hx1
 have bR1 := bRc.below hB1
 have hl1 := hBc.trans (hB1.mono hBc.size)
 have hth := bR1.there 0 26 (by simp)
 have hone := hC1.one
 clear hx1
 have bT3 := bT2.below hB1
 have B3 := B2.below hB1
 clear hHeld
 refine hK.out _ _ (B3.range) (fun hHeld => ?_)
 clear hK K
 try simp only [Act.put,List.setIfInBounds_toArray,List.set_cons_zero,List.set_cons_succ]
 refine tkU 5 ?_
 refine tkU 6 ?_
 refine rd1 7 fun K hK => ?_
 refine step_store_mid (by rfl) 35 _ _ (by rfl) (w.heap.size + 2) 0 (k2.cells x1.c).toArray (by rfl) (by rfl) hth (by kernel_rfl) hone ?_
 have hg9 := setCells_grown (w.heap.size + 2) (k2.cells x1.c) 0 w1
 have B4 := B3.other hg9 (by omega) hm2
 have bT4 := bT3.kept hg9 (fun e => by injection e with e; omega)
 obtain ⟨hF,bR3⟩ := fin26 (o := o) (r := .slice none 0 0) (us := []) hC1 hps (rsr_nil w1 R) bR1 rfl hm2 hRs hl1 (by omega)
 generalize hX : World.setCells _ (w.heap.size + 2) 0 _ = w9
 have e1 : w1.setCells (w.heap.size + 2) 0 (k2.cells x1.c) = w9 := hX
 rw [e1] at hF bR3 B4 bT4
 clear hX e1 hg9
 clear hHeld
 refine hK.out _ _ (B4.range) (fun hHeld => ?_)
 clear hK K
 try simp only [Act.put,List.setIfInBounds_toArray,List.set_cons_zero,List.set_cons_succ]
 refine tkU 8 ?_
 refine wpAnyH_done (by kernel_rfl) ?_ _
 go_wp2_with fail
 have hl := run_loadVar_row (P := Try.prog) _ (w.heap.size + 2) 35 35 _ (0,0) _ bR3 Try.underlying35 rfl (by kernel_rfl)
 exact bodyPost_ret (v := .tuple #[.agg (k2.cells x1.c).toArray,o]) (by rw [results_cell_tmp rfl]; simp [asAddr,hl]) rfl ⟨by rw [HBEG.out,HX.out]; exact ⟨k2,_,rfl,hF.1,hF.2.1⟩,hF.2.2.2⟩
theorem rbegin_3 (c : Cl) (k : Cv) (R0 : List (Option Nat)) (fi la ha : Nat) (vs : List Nat) (bad : Bool) (tb : Value) (now : Int) (w : World) (hC : Cr w R0 c k) (hb : BD w R0 tb vs) (hR0 : ∀ i,some i ∈ R0 → i < w.heap.size) :
 Calls Try.prog 36 #[.agg (k.cells c).toArray,.agg (tkc (⟨3,fi,la,ha,vs,0,[],bad⟩ : Tk) tb (.slice none 0 0)).toArray,.int .i64 now] w fun e w' => Out2 w' R0 e ((sp0 c now).begin (⟨3,fi,la,ha,vs,0,[],bad⟩ : Tk)) ∧ Below w.heap.size w w' := by
 obtain ⟨R,hRs,hm0,hm1,hm2,hRl,hRR,B0,bT0,bR0,hB0,hV3⟩ := pro3 hC hR0 (tkc (⟨3,fi,la,ha,vs,0,[],bad⟩ : Tk) tb (.slice none 0 0)) 26 [.int .i64 0,.int .i64 0,.int .i64 0,.int .u16 0,.int .u16 0,.int .u16 0,.slice none 0 0,.int .i64 0,.slice none 0 0,.bool false,.int .i64 0,.int .i64 0,.int .u16 0,.int .u16 0,.int .u64 0,.int .u64 0,.int .i64 0,.int .i64 0,.int .i64 0,.bool false,.slice none 0 0,.slice none 0 0,.bool false,.int .i64 0,.bool false,.slice none 0 0] 35
 have hb := hb.up hRR hB0
 have HV3 := Lib.hid hV3
 clear hC hR0 hRR hV3
 go_enter Try.func36,Try.ntmps36
 go_upto_region 1 with fail
 generalize hX : World.alloc (World.alloc (World.alloc w _) _) _ = V at B0 bT0 bR0 hB0 HV3 hb ⊢
 clear hX
 have hrt := bT0.range 0 (tkc (⟨3,fi,la,ha,vs,0,[],bad⟩ : Tk) tb (.slice none 0 0)) (fun j v hv => by rw [Nat.zero_add]; exact hv)
 have hth := B0.blk.there 2 8 (by simp [Cv.cells,clc])
 have hone : (tkc (⟨3,fi,la,ha,vs,0,[],bad⟩ : Tk) tb (.slice none 0 0)).toArray.all (·.oneCell') = true := by
  obtain ⟨a1,c1,e1⟩ := hb.1.form
  simp [tkc,e1,Value.oneCell']
 go_upto_region 2 with (first | (refine wpList_load_mid rfl 26 _ rfl (w.heap.size + 1) 0 rfl (tkc (⟨3,fi,la,ha,vs,0,[],bad⟩ : Tk) tb (.slice none 0 0)) _ hrt Try.underlying26 rfl (by kernel_rfl) ?_) | (refine wpList_store_mid rfl 26 _ _ rfl w.heap.size 2 (tkc (⟨3,fi,la,ha,vs,0,[],bad⟩ : Tk) tb (.slice none 0 0)).toArray rfl rfl hth (by kernel_rfl) hone ?_; simp only [Act.put]))
 have B1 := B0.put_tk (⟨3,fi,la,ha,vs,0,[],bad⟩ : Tk) hb (FD.nil V R)
 have hg1 := setCells_grown w.heap.size (tkc (⟨3,fi,la,ha,vs,0,[],bad⟩ : Tk) tb (.slice none 0 0)) 2 V
 have bT1 := bT0.kept hg1 (fun e => by injection e with e; omega)
 have bRc := bR0.kept hg1 (fun e => by injection e with e; omega)
 have hBc := hB0.grown hg1 hB0.size (fun k hk => by cases hk; exact Nat.le_refl _)
 generalize hW : World.setCells V w.heap.size 2 _ = V1
 have e1 : V.setCells w.heap.size 2 (tkc (⟨3,fi,la,ha,vs,0,[],bad⟩ : Tk) tb (.slice none 0 0)) = V1 := hW
 rw [e1] at B1 bT1 bRc hBc
 clear hW e1 hg1 hrt hth hone B0 bT0 bR0 hB0 hb
 obtain ⟨c1,hc1⟩ : ∃ c1 : Cl,{ c with tk := (⟨3,fi,la,ha,vs,0,[],bad⟩ : Tk) } = c1 := ⟨_,rfl⟩
 obtain ⟨k1,hk1⟩ : ∃ k1 : Cv,{ k with bv := tb,fv := .slice none 0 0 } = k1 := ⟨_,rfl⟩
 rw [hc1,hk1] at B1
 have hbeg : (sp0 c now).begin (⟨3,fi,la,ha,vs,0,[],bad⟩ : Tk) = (sp0 c1 now).send { pd0 with kd := 8,ha := fi,la := la,hi := 43993350017024,lo := 9223372588214596859 } := by
  rw [← hc1]
  simp [Sp.begin,firstP,sp0]
 have hmx : c1.mx = c.mx := by rw [← hc1]
 have HBEG := Lib.hid hbeg
 clear hbeg hk1 hc1
 have hrg := B1.range
 have TB : Cells V1 (blk (w.heap.size + 1) 0 0 [.int .i64 3,.int .u16 fi,.int .u16 la,.int .u16 ha,tb,.int .i64 0,.slice none 0 0,.bool bad]) := bT1.cells
 have hsh : ∀ W,Calls Try.prog 78 #[.int .u16 10243] W fun e w' => e = .returned (.agg #[.int .u64 43993350017024,.int .u64 9223372588214596859]) ∧ Below W.heap.size W w' := fun W => rshort_any 10243 (by decide) W
 have HSH := Lib.hid hsh
 clear hsh
 have hOpen := TB
 simp only [Cells,blk,List.cons_append,List.nil_append,and_true,Nat.reduceAdd,Nat.add_zero,Nat.zero_add] at hOpen
 obtain ⟨q0,q1,q2,q3,q4,q5,q6,q7⟩ := hOpen
 go_upto_region 8 with fail
 clear q0 q1 q2 q3 q4 q5 q6 q7
 have Bd := B1.drew
 have bTd := bT1.drew
 have bRd := bRc.drew
 have hBd := hBc.drew
 clear B1 bT1 bRc hBc hrg TB
 refine wp_region_held_drew (S := (fun W' : World => W'.rangeAt w.heap.size 0 (k1.cells c1) ∧ Cells W' (blk (w.heap.size + 1) 0 0 [.int .i64 3,.int .u16 fi,.int .u16 la,.int .u16 ha]))) (by kernel_rfl) (⟨Bd.range,by have h := bTd.cells; exact ⟨h.1,h.2.1,h.2.2.1,h.2.2.2.1,trivial⟩⟩) (fun hHeld => ?_)
 generalize World.drew _ = wd at hHeld Bd bTd bRd hBd ⊢
 refine tkN 0 35 w.heap.size 0 (k1.cells c1) (fun _ h => h.1) Try.underlying35 ?_
 refine tkU 1 ?_
 refine tkU 2 ?_
 refine tkU 3 ?_
 refine tkU 4 ?_
 refine tkU 7 ?_
 refine rd1 5 fun K hK => ?_
 go_simp
 go_at_call 78
 refine (HSH.out _).mono ?_
 rintro e w2 ⟨rfl,hB2⟩
 have B2 := Bd.below hB2
 have bT2 := bTd.below hB2
 have bRc := bRd.below hB2
 have hBc := hBd.trans (hB2.mono hBd.size)
 clear Bd bTd bRd hBd hB2
 clear hHeld
 refine hK.out _ _ (⟨B2.range,by have h := bT2.cells; exact ⟨h.1,h.2.1,h.2.2.1,h.2.2.2.1,trivial⟩⟩) (fun hHeld => ?_)
 clear hK K
 try simp only [Act.put,List.setIfInBounds_toArray,List.set_cons_zero,List.set_cons_succ]
 refine tkU 6 ?_
 refine rd1 8 fun K hK => ?_
 go_simp
 go_at_call 77
 refine (rsend2 c1 k1 R { pd0 with kd := 8,ha := fi,la := la,hi := 43993350017024,lo := 9223372588214596859 } (.slice none 0 0) (.slice none 0 0) now _ B2.cr (BD.nil _ R) (SR.nil _ 5) (fun i hi => by have := hRl i hi; have := bRc.lt; omega)).mono ?_
 rintro e w1 ⟨⟨k2,o,rfl,hC1,hps⟩,hB1⟩
 obtain ⟨x1,hx1⟩ : ∃ x1 : Sp,(sp0 c1 now).send { pd0 with kd := 8,ha := fi,la := la,hi := 43993350017024,lo := 9223372588214596859 } = x1 := ⟨_,rfl⟩
 rw [hx1] at hC1 hps ⊢
 have HX := Lib.hid hx1
 have bR1 := bRc.below hB1
 have hl1 := hBc.trans (hB1.mono hBc.size)
 have hth := bR1.there 0 26 (by simp)
 have hone := hC1.one
 clear hx1
 have bT3 := bT2.below hB1
 have B3 := B2.below hB1
 clear hHeld
 refine hK.out _ _ (⟨B3.range,by have h := bT3.cells; exact ⟨h.1,h.2.1,h.2.2.1,h.2.2.2.1,trivial⟩⟩) (fun hHeld => ?_)
 clear hK K
 try simp only [Act.put,List.setIfInBounds_toArray,List.set_cons_zero,List.set_cons_succ]
 refine tkU 9 ?_
 refine tkU 10 ?_
 refine rd1 11 fun K hK => ?_
 refine step_store_mid (by rfl) 35 _ _ (by rfl) (w.heap.size + 2) 0 (k2.cells x1.c).toArray (by rfl) (by rfl) hth (by kernel_rfl) hone ?_
 have hg9 := setCells_grown (w.heap.size + 2) (k2.cells x1.c) 0 w1
 have B4 := B3.other hg9 (by omega) hm2
 have bT4 := bT3.kept hg9 (fun e => by injection e with e; omega)
 obtain ⟨hF,bR3⟩ := fin26 (o := o) (r := .slice none 0 0) (us := []) hC1 hps (rsr_nil w1 R) bR1 rfl hm2 hRs hl1 (by omega)
 generalize hX : World.setCells _ (w.heap.size + 2) 0 _ = w9
 have e1 : w1.setCells (w.heap.size + 2) 0 (k2.cells x1.c) = w9 := hX
 rw [e1] at hF bR3 B4 bT4
 clear hX e1 hg9
 clear hHeld
 refine hK.out _ _ (⟨B4.range,by have h := bT4.cells; exact ⟨h.1,h.2.1,h.2.2.1,h.2.2.2.1,trivial⟩⟩) (fun hHeld => ?_)
 clear hK K
 try simp only [Act.put,List.setIfInBounds_toArray,List.set_cons_zero,List.set_cons_succ]
 refine tkU 12 ?_
 refine wpAnyH_done (by kernel_rfl) ?_ _
 go_wp2_with fail
 have hl := run_loadVar_row (P := Try.prog) _ (w.heap.size + 2) 35 35 _ (0,0) _ bR3 Try.underlying35 rfl (by kernel_rfl)
 exact bodyPost_ret (v := .tuple #[.agg (k2.cells x1.c).toArray,o]) (by rw [results_cell_tmp rfl]; simp [asAddr,hl]) rfl ⟨by rw [HBEG.out,HX.out]; exact ⟨k2,_,rfl,hF.1,hF.2.1⟩,hF.2.2.2⟩
theorem rbegin_9 (c : Cl) (k : Cv) (R0 : List (Option Nat)) (fi la ha : Nat) (vs : List Nat) (bad : Bool) (tb : Value) (now : Int) (w : World) (hC : Cr w R0 c k) (hb : BD w R0 tb vs) (hR0 : ∀ i,some i ∈ R0 → i < w.heap.size) :
 Calls Try.prog 36 #[.agg (k.cells c).toArray,.agg (tkc (⟨9,fi,la,ha,vs,0,[],bad⟩ : Tk) tb (.slice none 0 0)).toArray,.int .i64 now] w fun e w' => Out2 w' R0 e ((sp0 c now).begin (⟨9,fi,la,ha,vs,0,[],bad⟩ : Tk)) ∧ Below w.heap.size w w' := by
 obtain ⟨R,hRs,hm0,hm1,hm2,hRl,hRR,B0,bT0,bR0,hB0,hV3⟩ := pro3 hC hR0 (tkc (⟨9,fi,la,ha,vs,0,[],bad⟩ : Tk) tb (.slice none 0 0)) 26 [.int .i64 0,.int .i64 0,.int .i64 0,.int .u16 0,.int .u16 0,.int .u16 0,.slice none 0 0,.int .i64 0,.slice none 0 0,.bool false,.int .i64 0,.int .i64 0,.int .u16 0,.int .u16 0,.int .u64 0,.int .u64 0,.int .i64 0,.int .i64 0,.int .i64 0,.bool false,.slice none 0 0,.slice none 0 0,.bool false,.int .i64 0,.bool false,.slice none 0 0] 35
 have hb := hb.up hRR hB0
 have HV3 := Lib.hid hV3
 clear hC hR0 hRR hV3
 go_enter Try.func36,Try.ntmps36
 go_upto_region 1 with fail
 generalize hX : World.alloc (World.alloc (World.alloc w _) _) _ = V at B0 bT0 bR0 hB0 HV3 hb ⊢
 clear hX
 have hrt := bT0.range 0 (tkc (⟨9,fi,la,ha,vs,0,[],bad⟩ : Tk) tb (.slice none 0 0)) (fun j v hv => by rw [Nat.zero_add]; exact hv)
 have hth := B0.blk.there 2 8 (by simp [Cv.cells,clc])
 have hone : (tkc (⟨9,fi,la,ha,vs,0,[],bad⟩ : Tk) tb (.slice none 0 0)).toArray.all (·.oneCell') = true := by
  obtain ⟨a1,c1,e1⟩ := hb.1.form
  simp [tkc,e1,Value.oneCell']
 go_upto_region 2 with (first | (refine wpList_load_mid rfl 26 _ rfl (w.heap.size + 1) 0 rfl (tkc (⟨9,fi,la,ha,vs,0,[],bad⟩ : Tk) tb (.slice none 0 0)) _ hrt Try.underlying26 rfl (by kernel_rfl) ?_) | (refine wpList_store_mid rfl 26 _ _ rfl w.heap.size 2 (tkc (⟨9,fi,la,ha,vs,0,[],bad⟩ : Tk) tb (.slice none 0 0)).toArray rfl rfl hth (by kernel_rfl) hone ?_; simp only [Act.put]))
 have B1 := B0.put_tk (⟨9,fi,la,ha,vs,0,[],bad⟩ : Tk) hb (FD.nil V R)
 have hg1 := setCells_grown w.heap.size (tkc (⟨9,fi,la,ha,vs,0,[],bad⟩ : Tk) tb (.slice none 0 0)) 2 V
 have bT1 := bT0.kept hg1 (fun e => by injection e with e; omega)
 have bRc := bR0.kept hg1 (fun e => by injection e with e; omega)
 have hBc := hB0.grown hg1 hB0.size (fun k hk => by cases hk; exact Nat.le_refl _)
 generalize hW : World.setCells V w.heap.size 2 _ = V1
 have e1 : V.setCells w.heap.size 2 (tkc (⟨9,fi,la,ha,vs,0,[],bad⟩ : Tk) tb (.slice none 0 0)) = V1 := hW
 rw [e1] at B1 bT1 bRc hBc
 clear hW e1 hg1 hrt hth hone B0 bT0 bR0 hB0 hb
 obtain ⟨c1,hc1⟩ : ∃ c1 : Cl,{ c with tk := (⟨9,fi,la,ha,vs,0,[],bad⟩ : Tk) } = c1 := ⟨_,rfl⟩
 obtain ⟨k1,hk1⟩ : ∃ k1 : Cv,{ k with bv := tb,fv := .slice none 0 0 } = k1 := ⟨_,rfl⟩
 rw [hc1,hk1] at B1
 have hbeg : (sp0 c now).begin (⟨9,fi,la,ha,vs,0,[],bad⟩ : Tk) = (sp0 c1 now).send { pd0 with kd := 8,ha := 1,la := 65535,hi := 47459388624896,lo := 9223372588214596859 } := by
  rw [← hc1]
  simp [Sp.begin,firstP,sp0]
 have hmx : c1.mx = c.mx := by rw [← hc1]
 have HBEG := Lib.hid hbeg
 clear hbeg hk1 hc1
 have hrg := B1.range
 have TB : Cells V1 (blk (w.heap.size + 1) 0 0 [.int .i64 9,.int .u16 fi,.int .u16 la,.int .u16 ha,tb,.int .i64 0,.slice none 0 0,.bool bad]) := bT1.cells
 have hsh : ∀ W,Calls Try.prog 78 #[.int .u16 11050] W fun e w' => e = .returned (.agg #[.int .u64 47459388624896,.int .u64 9223372588214596859]) ∧ Below W.heap.size W w' := fun W => rshort_any 11050 (by decide) W
 have HSH := Lib.hid hsh
 clear hsh
 have hOpen := TB
 simp only [Cells,blk,List.cons_append,List.nil_append,and_true,Nat.reduceAdd,Nat.add_zero,Nat.zero_add] at hOpen
 obtain ⟨q0,q1,q2,q3,q4,q5,q6,q7⟩ := hOpen
 go_upto_region 15 with fail
 clear q0 q1 q2 q3 q4 q5 q6 q7
 have Bd := B1.drew
 have bTd := bT1.drew
 have bRd := bRc.drew
 have hBd := hBc.drew
 clear B1 bT1 bRc hBc hrg TB
 refine wp_region_held_drew (S := (fun W' : World => W'.rangeAt w.heap.size 0 (k1.cells c1))) (by kernel_rfl) (Bd.range) (fun hHeld => ?_)
 generalize World.drew _ = wd at hHeld Bd bTd bRd hBd ⊢
 refine tkN 0 35 w.heap.size 0 (k1.cells c1) (fun _ h => h) Try.underlying35 ?_
 refine tkU 3 ?_
 refine rd1 1 fun K hK => ?_
 go_simp
 go_at_call 78
 refine (HSH.out _).mono ?_
 rintro e w2 ⟨rfl,hB2⟩
 have B2 := Bd.below hB2
 have bT2 := bTd.below hB2
 have bRc := bRd.below hB2
 have hBc := hBd.trans (hB2.mono hBd.size)
 clear Bd bTd bRd hBd hB2
 clear hHeld
 refine hK.out _ _ (B2.range) (fun hHeld => ?_)
 clear hK K
 try simp only [Act.put,List.setIfInBounds_toArray,List.set_cons_zero,List.set_cons_succ]
 refine tkU 2 ?_
 refine rd1 4 fun K hK => ?_
 go_simp
 go_at_call 77
 refine (rsend2 c1 k1 R { pd0 with kd := 8,ha := 1,la := 65535,hi := 47459388624896,lo := 9223372588214596859 } (.slice none 0 0) (.slice none 0 0) now _ B2.cr (BD.nil _ R) (SR.nil _ 5) (fun i hi => by have := hRl i hi; have := bRc.lt; omega)).mono ?_
 rintro e w1 ⟨⟨k2,o,rfl,hC1,hps⟩,hB1⟩
 obtain ⟨x1,hx1⟩ : ∃ x1 : Sp,(sp0 c1 now).send { pd0 with kd := 8,ha := 1,la := 65535,hi := 47459388624896,lo := 9223372588214596859 } = x1 := ⟨_,rfl⟩
 rw [hx1] at hC1 hps ⊢
 have HX := Lib.hid hx1
 have bR1 := bRc.below hB1
 have hl1 := hBc.trans (hB1.mono hBc.size)
 have hth := bR1.there 0 26 (by simp)
 have hone := hC1.one
 clear hx1
 have bT3 := bT2.below hB1
 have B3 := B2.below hB1
 clear hHeld
 refine hK.out _ _ (B3.range) (fun hHeld => ?_)
 clear hK K
 try simp only [Act.put,List.setIfInBounds_toArray,List.set_cons_zero,List.set_cons_succ]
 refine tkU 5 ?_
 refine tkU 6 ?_
 refine rd1 7 fun K hK => ?_
 refine step_store_mid (by rfl) 35 _ _ (by rfl) (w.heap.size + 2) 0 (k2.cells x1.c).toArray (by rfl) (by rfl) hth (by kernel_rfl) hone ?_
 have hg9 := setCells_grown (w.heap.size + 2) (k2.cells x1.c) 0 w1
 have B4 := B3.other hg9 (by omega) hm2
 have bT4 := bT3.kept hg9 (fun e => by injection e with e; omega)
 obtain ⟨hF,bR3⟩ := fin26 (o := o) (r := .slice none 0 0) (us := []) hC1 hps (rsr_nil w1 R) bR1 rfl hm2 hRs hl1 (by omega)
 generalize hX : World.setCells _ (w.heap.size + 2) 0 _ = w9
 have e1 : w1.setCells (w.heap.size + 2) 0 (k2.cells x1.c) = w9 := hX
 rw [e1] at hF bR3 B4 bT4
 clear hX e1 hg9
 clear hHeld
 refine hK.out _ _ (B4.range) (fun hHeld => ?_)
 clear hK K
 try simp only [Act.put,List.setIfInBounds_toArray,List.set_cons_zero,List.set_cons_succ]
 refine tkU 8 ?_
 refine wpAnyH_done (by kernel_rfl) ?_ _
 go_wp2_with fail
 have hl := run_loadVar_row (P := Try.prog) _ (w.heap.size + 2) 35 35 _ (0,0) _ bR3 Try.underlying35 rfl (by kernel_rfl)
 exact bodyPost_ret (v := .tuple #[.agg (k2.cells x1.c).toArray,o]) (by rw [results_cell_tmp rfl]; simp [asAddr,hl]) rfl ⟨by rw [HBEG.out,HX.out]; exact ⟨k2,_,rfl,hF.1,hF.2.1⟩,hF.2.2.2⟩
theorem rbegin_7s (c : Cl) (k : Cv) (R0 : List (Option Nat)) (fi la ha : Nat) (vs : List Nat) (bad : Bool) (tb : Value) (now : Int) (w : World) (hC : Cr w R0 c k) (hb : BD w R0 tb vs) (hR0 : ∀ i,some i ∈ R0 → i < w.heap.size) (hm : vs.length ≤ 1000000) (hrm : (vs.length : Int) ≤ roomI 18 c.mt) :
 Calls Try.prog 36 #[.agg (k.cells c).toArray,.agg (tkc (⟨7,fi,la,ha,vs,0,[],bad⟩ : Tk) tb (.slice none 0 0)).toArray,.int .i64 now] w fun e w' => Out2 w' R0 e ((sp0 c now).begin (⟨7,fi,la,ha,vs,0,[],bad⟩ : Tk)) ∧ Below w.heap.size w w' := by
 obtain ⟨i0,hi0,hi1,hi2,hi3⟩ := info_parts Try.info_u8
 obtain ⟨ta,tc,rfl⟩ := hb.1.form
 have hbeg0 : ∀ c1 : Cl,{ c with tk := (⟨7,fi,la,ha,vs,0,[],bad⟩ : Tk) } = c1 → (sp0 c now).begin (⟨7,fi,la,ha,vs,0,[],bad⟩ : Tk) = (sp0 c1 now).send { pd0 with kd := 18,ha := ha,vs := vs } := fun c1 e => by
  rw [← e]
  simp [Sp.begin,firstP,sp0,hrm]
 obtain ⟨RR,hRR0⟩ : ∃ r : Nat,roomI 18 c.mt = (r : Int) := ⟨(roomI 18 c.mt).toNat,by unfold roomI mtuI; omega⟩
 obtain ⟨L,hL⟩ : ∃ L,vs.length = L := ⟨_,rfl⟩
 rw [hL] at hb hm ⊢
 rw [hL,hRR0] at hrm
 have g1 : decide (L ≤ RR) = true := by simpa using hrm
 have g2 : decide ((L : Int) ≤ (RR : Int)) = true := by simpa using hrm
 clear hrm
 have HL := Lib.hid hL
 have HM := Lib.hid hm
 obtain ⟨R,hRs,hm0,hm1,hm2,hRl,hRR,B0,bT0,bR0,hB0,hV3⟩ := pro3 hC hR0 (tkc (⟨7,fi,la,ha,vs,0,[],bad⟩ : Tk) (.slice ta L tc) (.slice none 0 0)) 26 [.int .i64 0,.int .i64 0,.int .i64 0,.int .u16 0,.int .u16 0,.int .u16 0,.slice none 0 0,.int .i64 0,.slice none 0 0,.bool false,.int .i64 0,.int .i64 0,.int .u16 0,.int .u16 0,.int .u64 0,.int .u64 0,.int .i64 0,.int .i64 0,.int .i64 0,.bool false,.slice none 0 0,.slice none 0 0,.bool false,.int .i64 0,.bool false,.slice none 0 0] 35
 have hb := hb.up hRR hB0
 have HV3 := Lib.hid hV3
 clear hC hR0 hRR hV3 hL hm
 go_enter Try.func36,Try.ntmps36
 go_upto_region 1 with fail
 generalize hX : World.alloc (World.alloc (World.alloc w _) _) _ = V at B0 bT0 bR0 hB0 HV3 hb ⊢
 clear hX
 have hrt := bT0.range 0 (tkc (⟨7,fi,la,ha,vs,0,[],bad⟩ : Tk) (.slice ta L tc) (.slice none 0 0)) (fun j v hv => by rw [Nat.zero_add]; exact hv)
 have hth := B0.blk.there 2 8 (by simp [Cv.cells,clc])
 have hone : (tkc (⟨7,fi,la,ha,vs,0,[],bad⟩ : Tk) (.slice ta L tc) (.slice none 0 0)).toArray.all (·.oneCell') = true := by
  simp [tkc,Value.oneCell']
 go_upto_region 2 with (first | (refine wpList_load_mid rfl 26 _ rfl (w.heap.size + 1) 0 rfl (tkc (⟨7,fi,la,ha,vs,0,[],bad⟩ : Tk) (.slice ta L tc) (.slice none 0 0)) _ hrt Try.underlying26 rfl (by kernel_rfl) ?_) | (refine wpList_store_mid rfl 26 _ _ rfl w.heap.size 2 (tkc (⟨7,fi,la,ha,vs,0,[],bad⟩ : Tk) (.slice ta L tc) (.slice none 0 0)).toArray rfl rfl hth (by kernel_rfl) hone ?_; simp only [Act.put]))
 have B1 := B0.put_tk (⟨7,fi,la,ha,vs,0,[],bad⟩ : Tk) hb (FD.nil V R)
 have hg1 := setCells_grown w.heap.size (tkc (⟨7,fi,la,ha,vs,0,[],bad⟩ : Tk) (.slice ta L tc) (.slice none 0 0)) 2 V
 have bT1 := bT0.kept hg1 (fun e => by injection e with e; omega)
 have bRc := bR0.kept hg1 (fun e => by injection e with e; omega)
 have hBc := hB0.grown hg1 hB0.size (fun k hk => by cases hk; exact Nat.le_refl _)
 have hb := hb.turned hg1 (fun k hk => .inl (by rw [← hk]; exact hm0))
 generalize hW : World.setCells V w.heap.size 2 _ = V1
 have e1 : V.setCells w.heap.size 2 (tkc (⟨7,fi,la,ha,vs,0,[],bad⟩ : Tk) (.slice ta L tc) (.slice none 0 0)) = V1 := hW
 rw [e1] at B1 bT1 bRc hBc hb
 clear hW e1 hg1 hrt hth hone B0 bT0 bR0 hB0
 obtain ⟨c1,hc1⟩ : ∃ c1 : Cl,{ c with tk := (⟨7,fi,la,ha,vs,0,[],bad⟩ : Tk) } = c1 := ⟨_,rfl⟩
 obtain ⟨k1,hk1⟩ : ∃ k1 : Cv,{ k with bv := (.slice ta L tc),fv := .slice none 0 0 } = k1 := ⟨_,rfl⟩
 rw [hc1,hk1] at B1
 have HBEG := Lib.hid (hbeg0 c1 hc1)
 have hmt : roomI 18 c1.mt = (RR : Int) := by rw [← hc1]; exact hRR0
 have hroom := fun W => rroom_any 18 c1.mt W
 simp only [hmt] at hroom
 have HRM := Lib.hid hroom
 have HOF := Lib.hid (show c1.tk.of = ((0 : Nat) : Int) by rw [← hc1]; rfl)
 have HVL := Lib.hid (show c1.tk.vs.length ≤ 1000000 by rw [← hc1]; exact HL.out ▸ HM.out)
 have m0 := B1.blk.cell (j := 0) (v := .int .i64 c1.mt) rfl
 clear hbeg0 hk1 hc1 hmt hroom hRR0
 have TB1 : Cells V1 ((w.heap.size,0,.int .i64 c1.mt) :: blk (w.heap.size + 1) 0 0 [.int .i64 7,.int .u16 fi,.int .u16 la,.int .u16 ha,(.slice ta L tc),.int .i64 0,.slice none 0 0,.bool bad]) := ⟨m0,bT1.cells⟩
 have TB := bT1.cells
 have hOpen := TB1
 simp only [Cells,blk,List.cons_append,List.nil_append,and_true,Nat.reduceAdd,Nat.add_zero,Nat.zero_add] at hOpen
 obtain ⟨m0,q0,q1,q2,q3,q4,q5,q6,q7⟩ := hOpen
 go_upto_region 16 with fail
 clear m0 q0 q1 q2 q3 q4 q5 q6 q7 TB
 have Bd := B1.drew
 have bTd := bT1.drew
 have bRd := bRc.drew
 have hBd := hBc.drew
 have hbd := hb.below (Below.refl _ V1).drew
 have TBd := TB1.drew
 clear B1 bT1 bRc hBc hb TB1
 refine wp_region_held_drew (S := (fun W' : World => Cells W' ((w.heap.size,0,.int .i64 c1.mt) :: blk (w.heap.size + 1) 0 0 [.int .i64 7,.int .u16 fi,.int .u16 la,.int .u16 ha,(.slice ta L tc),.int .i64 0,.slice none 0 0,.bool bad]))) (by kernel_rfl) (TBd) (fun hHeld => ?_)
 generalize World.drew _ = wd at hHeld Bd bTd bRd hBd hbd TBd ⊢
 refine tkU 0 ?_
 refine tkU 1 ?_
 refine tkU 2 ?_
 refine tkU 3 ?_
 refine tkU 4 ?_
 refine tkU 5 ?_
 refine tkU 6 ?_
 refine tkU 7 ?_
 refine tkU 8 ?_
 refine rd1 9 fun K hK => ?_
 go_simp
 go_at_call 79
 refine (HRM.out _).mono ?_
 rintro e w2 ⟨rfl,rfl⟩
 clear hHeld
 refine hK.out _ _ (TBd) (fun hHeld => ?_)
 clear hK K
 try simp only [Act.put,List.setIfInBounds_toArray,List.set_cons_zero,List.set_cons_succ]
 refine tkU 10 ?_
 refine tkU 11 ?_
 refine wpAnyH_done (by kernel_rfl) ?_ _
 go_upto_region 17 with fail
 clear TBd hHeld
 have B2 := Bd.drew
 have bT2 := bTd.drew
 have bR2 := bRd.drew
 have hB2 := hBd.drew
 have hb2 := hbd.below (Below.refl _ wd).drew
 clear Bd bTd bRd hBd hbd
 refine wp_region_held_drew (S := (fun W' : World => W'.rangeAt w.heap.size 0 (k1.cells c1) ∧ Cells W' (blk (w.heap.size + 1) 0 0 [.int .i64 7,.int .u16 fi,.int .u16 la,.int .u16 ha,(.slice ta L tc),.int .i64 0,.slice none 0 0,.bool bad]))) (by kernel_rfl) (⟨B2.range,bT2.cells⟩) (fun hHeld => ?_)
 generalize World.drew _ = wd at hHeld B2 bT2 bR2 hB2 hb2 ⊢
 refine tkN 0 35 w.heap.size 0 (k1.cells c1) (fun _ h => h.1) Try.underlying35 ?_
 refine tkU 1 ?_
 refine tkU 2 ?_
 refine tkU 4 ?_
 refine tkU 5 ?_
 refine tkU 8 ?_
 refine rd1 3 fun K hK => ?_
 go_simp
 generalize hX : World.alloc _ (.cells _ 5) = w3
 obtain ⟨_,hB3a,hz3⟩ := alloc_named hX
 have B3 := B2.below hB3a
 have bT3 := bT2.below hB3a
 have bR3 := bR2.below hB3a
 have hB3 := hB2.trans (hB3a.mono hB2.size)
 have hb3 := hb2.below hB3a
 have hsr := hb3.1.sr
 rw [HL.out] at hsr
 have hn2 := HM.out
 have hgn : w.heap.size + 3 ≤ wd.heap.size := bR2.lt
 have hgn3 : w.heap.size + 3 ≤ w3.heap.size := by omega
 clear hX hB3a B2 bT2 bR2 hB2 hb2 hz3
 clear hHeld
 refine hK.out _ _ (⟨B3.range,bT3.cells⟩) (fun hHeld => ?_)
 clear hK K
 try simp only [Act.put,List.setIfInBounds_toArray,List.set_cons_zero,List.set_cons_succ]
 refine rd1 6 fun K hK => ?_
 refine step_app0 (by rfl) _ _ 23 (by rfl) 5 i0 _ 1 1 Try.underlying23 hi0 hi1 hi2 hi3 rfl (by decide) _ (by rfl) (.slice ta L tc) L (bcells vs) (by rfl) hsr (by omega) ?_
 intro b4 c4 w4 hsr4 hc4 hB4 ho4
 have hpv : BD w4 R (.slice b4 L c4) vs := bd_new hsr4 HL.out hc4 hn2 hb3.lt ho4 (fun hm => by have := hRl _ hm; omega) (fun hm => by have := hRl _ hm; omega)
 have B4 := B3.below hB4
 have bT4 := bT3.below hB4
 have bRc := bR3.below hB4
 have hBc := hB3.trans (hB4.mono hB3.size)
 clear hsr4 hc4 hB4 ho4 hsr hb3 bT3 bR3 hB3 B3
 clear hHeld
 refine hK.out _ _ (⟨B4.range,bT4.cells⟩) (fun hHeld => ?_)
 clear hK K
 try simp only [Act.put,List.setIfInBounds_toArray,List.set_cons_zero,List.set_cons_succ]
 refine tkU 7 ?_
 refine rd1 9 fun K hK => ?_
 go_simp
 go_at_call 77
 refine (rsend2 c1 k1 R { pd0 with kd := 18,ha := ha,vs := vs } (.slice b4 L c4) (.slice none 0 0) now _ B4.cr hpv (SR.nil _ 5) (fun i hi => by have := hRl i hi; have := bRc.lt; omega)).mono ?_
 rintro e w1 ⟨⟨k2,o,rfl,hC1,hps⟩,hB1⟩
 obtain ⟨x1,hx1⟩ : ∃ x1 : Sp,(sp0 c1 now).send { pd0 with kd := 18,ha := ha,vs := vs } = x1 := ⟨_,rfl⟩
 rw [hx1] at hC1 hps ⊢
 have HX := Lib.hid hx1
 have bR1 := bRc.below hB1
 have hl1 := hBc.trans (hB1.mono hBc.size)
 have hth := bR1.there 0 26 (by simp)
 have hone := hC1.one
 clear hx1
 have bT5 := bT4.below hB1
 have B5 := B4.below hB1
 clear hHeld
 refine hK.out _ _ (⟨B5.range,bT5.cells⟩) (fun hHeld => ?_)
 clear hK K
 try simp only [Act.put,List.setIfInBounds_toArray,List.set_cons_zero,List.set_cons_succ]
 refine tkU 10 ?_
 refine tkU 11 ?_
 refine rd1 12 fun K hK => ?_
 refine step_store_mid (by rfl) 35 _ _ (by rfl) (w.heap.size + 2) 0 (k2.cells x1.c).toArray (by rfl) (by rfl) hth (by kernel_rfl) hone ?_
 have hg9 := setCells_grown (w.heap.size + 2) (k2.cells x1.c) 0 w1
 have B6 := B5.other hg9 (by omega) hm2
 have bT6 := bT5.kept hg9 (fun e => by injection e with e; omega)
 obtain ⟨hF,bR3⟩ := fin26 (o := o) (r := .slice none 0 0) (us := []) hC1 hps (rsr_nil w1 R) bR1 rfl hm2 hRs hl1 (by omega)
 generalize hX : World.setCells _ (w.heap.size + 2) 0 _ = w9
 have e1 : w1.setCells (w.heap.size + 2) 0 (k2.cells x1.c) = w9 := hX
 rw [e1] at hF bR3 B6 bT6
 clear hX e1 hg9
 clear hHeld
 refine hK.out _ _ (⟨B6.range,bT6.cells⟩) (fun hHeld => ?_)
 clear hK K
 try simp only [Act.put,List.setIfInBounds_toArray,List.set_cons_zero,List.set_cons_succ]
 refine tkU 13 ?_
 refine wpAnyH_done (by kernel_rfl) ?_ _
 go_wp2_with fail
 have hl := run_loadVar_row (P := Try.prog) _ (w.heap.size + 2) 35 35 _ (0,0) _ bR3 Try.underlying35 rfl (by kernel_rfl)
 exact bodyPost_ret (v := .tuple #[.agg (k2.cells x1.c).toArray,o]) (by rw [results_cell_tmp rfl]; simp [asAddr,hl]) rfl ⟨by rw [HBEG.out,HX.out]; exact ⟨k2,_,rfl,hF.1,hF.2.1⟩,hF.2.2.2⟩
theorem rbegin_7l (c : Cl) (k : Cv) (R0 : List (Option Nat)) (fi la ha : Nat) (vs : List Nat) (bad : Bool) (tb : Value) (now : Int) (w : World) (hC : Cr w R0 c k) (hb : BD w R0 tb vs) (hR0 : ∀ i,some i ∈ R0 → i < w.heap.size) (hm : vs.length ≤ 1000000) (hrm : ¬ (vs.length : Int) ≤ roomI 18 c.mt) :
 Calls Try.prog 36 #[.agg (k.cells c).toArray,.agg (tkc (⟨7,fi,la,ha,vs,0,[],bad⟩ : Tk) tb (.slice none 0 0)).toArray,.int .i64 now] w fun e w' => Out2 w' R0 e ((sp0 c now).begin (⟨7,fi,la,ha,vs,0,[],bad⟩ : Tk)) ∧ Below w.heap.size w w' := by
 obtain ⟨i0,hi0,hi1,hi2,hi3⟩ := info_parts Try.info_u8
 obtain ⟨ta,tc,rfl⟩ := hb.1.form
 have hbeg0 : ∀ c1 : Cl,{ c with tk := (⟨7,fi,la,ha,vs,0,[],bad⟩ : Tk) } = c1 → (sp0 c now).begin (⟨7,fi,la,ha,vs,0,[],bad⟩ : Tk) = (sp0 c1 now).send (pieceP c1.mt c1.tk) := fun c1 e => by
  rw [← e]
  simp [Sp.begin,firstP,sp0,hrm]
 obtain ⟨RR,hRR0⟩ : ∃ r : Nat,roomI 18 c.mt = (r : Int) := ⟨(roomI 18 c.mt).toNat,by unfold roomI mtuI; omega⟩
 obtain ⟨L,hL⟩ : ∃ L,vs.length = L := ⟨_,rfl⟩
 rw [hL] at hb hm ⊢
 rw [hL,hRR0] at hrm
 have g1 : decide (L ≤ RR) = false := by simpa using hrm
 have g2 : decide ((L : Int) ≤ (RR : Int)) = false := by simpa using hrm
 clear hrm
 have HL := Lib.hid hL
 have HM := Lib.hid hm
 obtain ⟨R,hRs,hm0,hm1,hm2,hRl,hRR,B0,bT0,bR0,hB0,hV3⟩ := pro3 hC hR0 (tkc (⟨7,fi,la,ha,vs,0,[],bad⟩ : Tk) (.slice ta L tc) (.slice none 0 0)) 26 [.int .i64 0,.int .i64 0,.int .i64 0,.int .u16 0,.int .u16 0,.int .u16 0,.slice none 0 0,.int .i64 0,.slice none 0 0,.bool false,.int .i64 0,.int .i64 0,.int .u16 0,.int .u16 0,.int .u64 0,.int .u64 0,.int .i64 0,.int .i64 0,.int .i64 0,.bool false,.slice none 0 0,.slice none 0 0,.bool false,.int .i64 0,.bool false,.slice none 0 0] 35
 have hb := hb.up hRR hB0
 have HV3 := Lib.hid hV3
 clear hC hR0 hRR hV3 hL hm
 go_enter Try.func36,Try.ntmps36
 go_upto_region 1 with fail
 generalize hX : World.alloc (World.alloc (World.alloc w _) _) _ = V at B0 bT0 bR0 hB0 HV3 hb ⊢
 clear hX
 have hrt := bT0.range 0 (tkc (⟨7,fi,la,ha,vs,0,[],bad⟩ : Tk) (.slice ta L tc) (.slice none 0 0)) (fun j v hv => by rw [Nat.zero_add]; exact hv)
 have hth := B0.blk.there 2 8 (by simp [Cv.cells,clc])
 have hone : (tkc (⟨7,fi,la,ha,vs,0,[],bad⟩ : Tk) (.slice ta L tc) (.slice none 0 0)).toArray.all (·.oneCell') = true := by
  simp [tkc,Value.oneCell']
 go_upto_region 2 with (first | (refine wpList_load_mid rfl 26 _ rfl (w.heap.size + 1) 0 rfl (tkc (⟨7,fi,la,ha,vs,0,[],bad⟩ : Tk) (.slice ta L tc) (.slice none 0 0)) _ hrt Try.underlying26 rfl (by kernel_rfl) ?_) | (refine wpList_store_mid rfl 26 _ _ rfl w.heap.size 2 (tkc (⟨7,fi,la,ha,vs,0,[],bad⟩ : Tk) (.slice ta L tc) (.slice none 0 0)).toArray rfl rfl hth (by kernel_rfl) hone ?_; simp only [Act.put]))
 have B1 := B0.put_tk (⟨7,fi,la,ha,vs,0,[],bad⟩ : Tk) hb (FD.nil V R)
 have hg1 := setCells_grown w.heap.size (tkc (⟨7,fi,la,ha,vs,0,[],bad⟩ : Tk) (.slice ta L tc) (.slice none 0 0)) 2 V
 have bT1 := bT0.kept hg1 (fun e => by injection e with e; omega)
 have bRc := bR0.kept hg1 (fun e => by injection e with e; omega)
 have hBc := hB0.grown hg1 hB0.size (fun k hk => by cases hk; exact Nat.le_refl _)
 have hb := hb.turned hg1 (fun k hk => .inl (by rw [← hk]; exact hm0))
 generalize hW : World.setCells V w.heap.size 2 _ = V1
 have e1 : V.setCells w.heap.size 2 (tkc (⟨7,fi,la,ha,vs,0,[],bad⟩ : Tk) (.slice ta L tc) (.slice none 0 0)) = V1 := hW
 rw [e1] at B1 bT1 bRc hBc hb
 clear hW e1 hg1 hrt hth hone B0 bT0 bR0 hB0
 obtain ⟨c1,hc1⟩ : ∃ c1 : Cl,{ c with tk := (⟨7,fi,la,ha,vs,0,[],bad⟩ : Tk) } = c1 := ⟨_,rfl⟩
 obtain ⟨k1,hk1⟩ : ∃ k1 : Cv,{ k with bv := (.slice ta L tc),fv := .slice none 0 0 } = k1 := ⟨_,rfl⟩
 rw [hc1,hk1] at B1
 have HBEG := Lib.hid (hbeg0 c1 hc1)
 have hmt : roomI 18 c1.mt = (RR : Int) := by rw [← hc1]; exact hRR0
 have hroom := fun W => rroom_any 18 c1.mt W
 simp only [hmt] at hroom
 have HRM := Lib.hid hroom
 have HOF := Lib.hid (show c1.tk.of = ((0 : Nat) : Int) by rw [← hc1]; rfl)
 have HVL := Lib.hid (show c1.tk.vs.length ≤ 1000000 by rw [← hc1]; exact HL.out ▸ HM.out)
 have m0 := B1.blk.cell (j := 0) (v := .int .i64 c1.mt) rfl
 clear hbeg0 hk1 hc1 hmt hroom hRR0
 have TB1 : Cells V1 ((w.heap.size,0,.int .i64 c1.mt) :: blk (w.heap.size + 1) 0 0 [.int .i64 7,.int .u16 fi,.int .u16 la,.int .u16 ha,(.slice ta L tc),.int .i64 0,.slice none 0 0,.bool bad]) := ⟨m0,bT1.cells⟩
 have TB := bT1.cells
 have hOpen := TB1
 simp only [Cells,blk,List.cons_append,List.nil_append,and_true,Nat.reduceAdd,Nat.add_zero,Nat.zero_add] at hOpen
 obtain ⟨m0,q0,q1,q2,q3,q4,q5,q6,q7⟩ := hOpen
 go_upto_region 16 with fail
 clear m0 q0 q1 q2 q3 q4 q5 q6 q7 TB
 have Bd := B1.drew
 have bTd := bT1.drew
 have bRd := bRc.drew
 have hBd := hBc.drew
 have hbd := hb.below (Below.refl _ V1).drew
 have TBd := TB1.drew
 clear B1 bT1 bRc hBc hb TB1
 refine wp_region_held_drew (S := (fun W' : World => Cells W' ((w.heap.size,0,.int .i64 c1.mt) :: blk (w.heap.size + 1) 0 0 [.int .i64 7,.int .u16 fi,.int .u16 la,.int .u16 ha,(.slice ta L tc),.int .i64 0,.slice none 0 0,.bool bad]))) (by kernel_rfl) (TBd) (fun hHeld => ?_)
 generalize World.drew _ = wd at hHeld Bd bTd bRd hBd hbd TBd ⊢
 refine tkU 0 ?_
 refine tkU 1 ?_
 refine tkU 2 ?_
 refine tkU 3 ?_
 refine tkU 4 ?_
 refine tkU 5 ?_
 refine tkU 6 ?_
 refine tkU 7 ?_
 refine tkU 8 ?_
 refine rd1 9 fun K hK => ?_
 go_simp
 go_at_call 79
 refine (HRM.out _).mono ?_
 rintro e w2 ⟨rfl,rfl⟩
 clear hHeld
 refine hK.out _ _ (TBd) (fun hHeld => ?_)
 clear hK K
 try simp only [Act.put,List.setIfInBounds_toArray,List.set_cons_zero,List.set_cons_succ]
 refine tkU 10 ?_
 refine tkU 11 ?_
 refine wpAnyH_done (by kernel_rfl) ?_ _
 go_upto_region 18 with fail
 clear TBd hHeld
 have B2 := Bd.drew
 have bT2 := bTd.drew
 have bR2 := bRd.drew
 have hB2 := hBd.drew
 have hb2 := hbd.below (Below.refl _ wd).drew
 clear Bd bTd bRd hBd hbd
 refine wp_region_held_drew (S := (fun W' : World => W'.rangeAt w.heap.size 0 (k1.cells c1))) (by kernel_rfl) (B2.range) (fun hHeld => ?_)
 generalize World.drew _ = wd at hHeld B2 bT2 bR2 hB2 hb2 ⊢
 refine tkN 0 35 w.heap.size 0 (k1.cells c1) (fun _ h => h) Try.underlying35 ?_
 refine tkN 1 35 w.heap.size 0 (k1.cells c1) (fun _ h => h) Try.underlying35 ?_
 refine tkU 3 ?_
 refine rd1 2 fun K hK => ?_
 go_simp
 go_at_call 80
 refine (rpiece_any c1 k1 R 0 _ B2.cr (fun i hi => by have := hRl i hi; have := bR2.lt; omega) HOF.out (Nat.zero_le _) HVL.out).mono ?_
 rintro e w3 ⟨pv,rfl,hpv,hB3⟩
 have B4 := B2.below hB3
 have bT4 := bT2.below hB3
 have bRc := bR2.below hB3
 have hBc := hB2.trans (hB3.mono hB2.size)
 clear B2 bT2 bR2 hB2 hb2 hB3
 clear hHeld
 refine hK.out _ _ (B4.range) (fun hHeld => ?_)
 clear hK K
 try simp only [Act.put,List.setIfInBounds_toArray,List.set_cons_zero,List.set_cons_succ]
 refine rd1 4 fun K hK => ?_
 go_simp
 go_at_call 77
 refine (rsend2 c1 k1 R (pieceP c1.mt c1.tk) pv (.slice none 0 0) now _ B4.cr hpv (SR.nil _ 5) (fun i hi => by have := hRl i hi; have := bRc.lt; omega)).mono ?_
 rintro e w1 ⟨⟨k2,o,rfl,hC1,hps⟩,hB1⟩
 obtain ⟨x1,hx1⟩ : ∃ x1 : Sp,(sp0 c1 now).send (pieceP c1.mt c1.tk) = x1 := ⟨_,rfl⟩
 rw [hx1] at hC1 hps ⊢
 have HX := Lib.hid hx1
 have bR1 := bRc.below hB1
 have hl1 := hBc.trans (hB1.mono hBc.size)
 have hth := bR1.there 0 26 (by simp)
 have hone := hC1.one
 clear hx1
 have bT5 := bT4.below hB1
 have B5 := B4.below hB1
 clear hHeld
 refine hK.out _ _ (B5.range) (fun hHeld => ?_)
 clear hK K
 try simp only [Act.put,List.setIfInBounds_toArray,List.set_cons_zero,List.set_cons_succ]
 refine tkU 5 ?_
 refine tkU 6 ?_
 refine rd1 7 fun K hK => ?_
 refine step_store_mid (by rfl) 35 _ _ (by rfl) (w.heap.size + 2) 0 (k2.cells x1.c).toArray (by rfl) (by rfl) hth (by kernel_rfl) hone ?_
 have hg9 := setCells_grown (w.heap.size + 2) (k2.cells x1.c) 0 w1
 have B6 := B5.other hg9 (by omega) hm2
 have bT6 := bT5.kept hg9 (fun e => by injection e with e; omega)
 obtain ⟨hF,bR3⟩ := fin26 (o := o) (r := .slice none 0 0) (us := []) hC1 hps (rsr_nil w1 R) bR1 rfl hm2 hRs hl1 (by omega)
 generalize hX : World.setCells _ (w.heap.size + 2) 0 _ = w9
 have e1 : w1.setCells (w.heap.size + 2) 0 (k2.cells x1.c) = w9 := hX
 rw [e1] at hF bR3 B6 bT6
 clear hX e1 hg9
 clear hHeld
 refine hK.out _ _ (B6.range) (fun hHeld => ?_)
 clear hK K
 try simp only [Act.put,List.setIfInBounds_toArray,List.set_cons_zero,List.set_cons_succ]
 refine tkU 8 ?_
 refine wpAnyH_done (by kernel_rfl) ?_ _
 go_wp2_with fail
 have hl := run_loadVar_row (P := Try.prog) _ (w.heap.size + 2) 35 35 _ (0,0) _ bR3 Try.underlying35 rfl (by kernel_rfl)
 exact bodyPost_ret (v := .tuple #[.agg (k2.cells x1.c).toArray,o]) (by rw [results_cell_tmp rfl]; simp [asAddr,hl]) rfl ⟨by rw [HBEG.out,HX.out]; exact ⟨k2,_,rfl,hF.1,hF.2.1⟩,hF.2.2.2⟩
theorem rbegin_8 (c : Cl) (k : Cv) (R0 : List (Option Nat)) (fi la ha : Nat) (vs : List Nat) (bad : Bool) (tb : Value) (now : Int) (w : World) (hC : Cr w R0 c k) (hb : BD w R0 tb vs) (hR0 : ∀ i,some i ∈ R0 → i < w.heap.size) (hm : vs.length ≤ 1000000) :
 Calls Try.prog 36 #[.agg (k.cells c).toArray,.agg (tkc (⟨8,fi,la,ha,vs,0,[],bad⟩ : Tk) tb (.slice none 0 0)).toArray,.int .i64 now] w fun e w' => Out2 w' R0 e ((sp0 c now).begin (⟨8,fi,la,ha,vs,0,[],bad⟩ : Tk)) ∧ Below w.heap.size w w' := by
 obtain ⟨i0,hi0,hi1,hi2,hi3⟩ := info_parts Try.info_u8
 obtain ⟨ta,tc,rfl⟩ := hb.1.form
 have hbeg0 : ∀ c1 : Cl,{ c with tk := (⟨8,fi,la,ha,vs,0,[],bad⟩ : Tk) } = c1 → (sp0 c now).begin (⟨8,fi,la,ha,vs,0,[],bad⟩ : Tk) = (sp0 c1 now).send (pieceP c1.mt c1.tk) := fun c1 e => by
  rw [← e]
  simp [Sp.begin,firstP,sp0]
 obtain ⟨RR,hRR0⟩ : ∃ r : Nat,roomI 18 c.mt = (r : Int) := ⟨(roomI 18 c.mt).toNat,by unfold roomI mtuI; omega⟩
 obtain ⟨L,hL⟩ : ∃ L,vs.length = L := ⟨_,rfl⟩
 rw [hL] at hb hm ⊢
 have HL := Lib.hid hL
 have HM := Lib.hid hm
 obtain ⟨R,hRs,hm0,hm1,hm2,hRl,hRR,B0,bT0,bR0,hB0,hV3⟩ := pro3 hC hR0 (tkc (⟨8,fi,la,ha,vs,0,[],bad⟩ : Tk) (.slice ta L tc) (.slice none 0 0)) 26 [.int .i64 0,.int .i64 0,.int .i64 0,.int .u16 0,.int .u16 0,.int .u16 0,.slice none 0 0,.int .i64 0,.slice none 0 0,.bool false,.int .i64 0,.int .i64 0,.int .u16 0,.int .u16 0,.int .u64 0,.int .u64 0,.int .i64 0,.int .i64 0,.int .i64 0,.bool false,.slice none 0 0,.slice none 0 0,.bool false,.int .i64 0,.bool false,.slice none 0 0] 35
 have hb := hb.up hRR hB0
 have HV3 := Lib.hid hV3
 clear hC hR0 hRR hV3 hL hm
 go_enter Try.func36,Try.ntmps36
 go_upto_region 1 with fail
 generalize hX : World.alloc (World.alloc (World.alloc w _) _) _ = V at B0 bT0 bR0 hB0 HV3 hb ⊢
 clear hX
 have hrt := bT0.range 0 (tkc (⟨8,fi,la,ha,vs,0,[],bad⟩ : Tk) (.slice ta L tc) (.slice none 0 0)) (fun j v hv => by rw [Nat.zero_add]; exact hv)
 have hth := B0.blk.there 2 8 (by simp [Cv.cells,clc])
 have hone : (tkc (⟨8,fi,la,ha,vs,0,[],bad⟩ : Tk) (.slice ta L tc) (.slice none 0 0)).toArray.all (·.oneCell') = true := by
  simp [tkc,Value.oneCell']
 go_upto_region 2 with (first | (refine wpList_load_mid rfl 26 _ rfl (w.heap.size + 1) 0 rfl (tkc (⟨8,fi,la,ha,vs,0,[],bad⟩ : Tk) (.slice ta L tc) (.slice none 0 0)) _ hrt Try.underlying26 rfl (by kernel_rfl) ?_) | (refine wpList_store_mid rfl 26 _ _ rfl w.heap.size 2 (tkc (⟨8,fi,la,ha,vs,0,[],bad⟩ : Tk) (.slice ta L tc) (.slice none 0 0)).toArray rfl rfl hth (by kernel_rfl) hone ?_; simp only [Act.put]))
 have B1 := B0.put_tk (⟨8,fi,la,ha,vs,0,[],bad⟩ : Tk) hb (FD.nil V R)
 have hg1 := setCells_grown w.heap.size (tkc (⟨8,fi,la,ha,vs,0,[],bad⟩ : Tk) (.slice ta L tc) (.slice none 0 0)) 2 V
 have bT1 := bT0.kept hg1 (fun e => by injection e with e; omega)
 have bRc := bR0.kept hg1 (fun e => by injection e with e; omega)
 have hBc := hB0.grown hg1 hB0.size (fun k hk => by cases hk; exact Nat.le_refl _)
 have hb := hb.turned hg1 (fun k hk => .inl (by rw [← hk]; exact hm0))
 generalize hW : World.setCells V w.heap.size 2 _ = V1
 have e1 : V.setCells w.heap.size 2 (tkc (⟨8,fi,la,ha,vs,0,[],bad⟩ : Tk) (.slice ta L tc) (.slice none 0 0)) = V1 := hW
 rw [e1] at B1 bT1 bRc hBc hb
 clear hW e1 hg1 hrt hth hone B0 bT0 bR0 hB0
 obtain ⟨c1,hc1⟩ : ∃ c1 : Cl,{ c with tk := (⟨8,fi,la,ha,vs,0,[],bad⟩ : Tk) } = c1 := ⟨_,rfl⟩
 obtain ⟨k1,hk1⟩ : ∃ k1 : Cv,{ k with bv := (.slice ta L tc),fv := .slice none 0 0 } = k1 := ⟨_,rfl⟩
 rw [hc1,hk1] at B1
 have HBEG := Lib.hid (hbeg0 c1 hc1)
 have hmt : roomI 18 c1.mt = (RR : Int) := by rw [← hc1]; exact hRR0
 have hroom := fun W => rroom_any 18 c1.mt W
 simp only [hmt] at hroom
 have HRM := Lib.hid hroom
 have HOF := Lib.hid (show c1.tk.of = ((0 : Nat) : Int) by rw [← hc1]; rfl)
 have HVL := Lib.hid (show c1.tk.vs.length ≤ 1000000 by rw [← hc1]; exact HL.out ▸ HM.out)
 have m0 := B1.blk.cell (j := 0) (v := .int .i64 c1.mt) rfl
 clear hbeg0 hk1 hc1 hmt hroom hRR0
 have TB1 : Cells V1 ((w.heap.size,0,.int .i64 c1.mt) :: blk (w.heap.size + 1) 0 0 [.int .i64 8,.int .u16 fi,.int .u16 la,.int .u16 ha,(.slice ta L tc),.int .i64 0,.slice none 0 0,.bool bad]) := ⟨m0,bT1.cells⟩
 have TB := bT1.cells
 have hOpen := TB1
 simp only [Cells,blk,List.cons_append,List.nil_append,and_true,Nat.reduceAdd,Nat.add_zero,Nat.zero_add] at hOpen
 obtain ⟨m0,q0,q1,q2,q3,q4,q5,q6,q7⟩ := hOpen
 go_upto_region 16 with fail
 clear m0 q0 q1 q2 q3 q4 q5 q6 q7 TB
 have Bd := B1.drew
 have bTd := bT1.drew
 have bRd := bRc.drew
 have hBd := hBc.drew
 have hbd := hb.below (Below.refl _ V1).drew
 have TBd := TB1.drew
 clear B1 bT1 bRc hBc hb TB1
 refine wp_region_held_drew (S := (fun W' : World => Cells W' ((w.heap.size,0,.int .i64 c1.mt) :: blk (w.heap.size + 1) 0 0 [.int .i64 8,.int .u16 fi,.int .u16 la,.int .u16 ha,(.slice ta L tc),.int .i64 0,.slice none 0 0,.bool bad]))) (by kernel_rfl) (TBd) (fun hHeld => ?_)
 generalize World.drew _ = wd at hHeld Bd bTd bRd hBd hbd TBd ⊢
 refine tkU 0 ?_
 refine tkU 1 ?_
 refine tkU 2 ?_
 refine tkU 3 ?_
 refine tkV 4 ?_
 refine tkV 5 ?_
 refine tkV 6 ?_
 refine tkV 7 ?_
 refine tkV 8 ?_
 refine tkV 9 ?_
 refine tkV 10 ?_
 refine tkU 11 ?_
 refine wpAnyH_done (by kernel_rfl) ?_ _
 go_upto_region 18 with fail
 clear TBd hHeld
 have B2 := Bd.drew
 have bT2 := bTd.drew
 have bR2 := bRd.drew
 have hB2 := hBd.drew
 have hb2 := hbd.below (Below.refl _ wd).drew
 clear Bd bTd bRd hBd hbd
 refine wp_region_held_drew (S := (fun W' : World => W'.rangeAt w.heap.size 0 (k1.cells c1))) (by kernel_rfl) (B2.range) (fun hHeld => ?_)
 generalize World.drew _ = wd at hHeld B2 bT2 bR2 hB2 hb2 ⊢
 refine tkN 0 35 w.heap.size 0 (k1.cells c1) (fun _ h => h) Try.underlying35 ?_
 refine tkN 1 35 w.heap.size 0 (k1.cells c1) (fun _ h => h) Try.underlying35 ?_
 refine tkU 3 ?_
 refine rd1 2 fun K hK => ?_
 go_simp
 go_at_call 80
 refine (rpiece_any c1 k1 R 0 _ B2.cr (fun i hi => by have := hRl i hi; have := bR2.lt; omega) HOF.out (Nat.zero_le _) HVL.out).mono ?_
 rintro e w3 ⟨pv,rfl,hpv,hB3⟩
 have B4 := B2.below hB3
 have bT4 := bT2.below hB3
 have bRc := bR2.below hB3
 have hBc := hB2.trans (hB3.mono hB2.size)
 clear B2 bT2 bR2 hB2 hb2 hB3
 clear hHeld
 refine hK.out _ _ (B4.range) (fun hHeld => ?_)
 clear hK K
 try simp only [Act.put,List.setIfInBounds_toArray,List.set_cons_zero,List.set_cons_succ]
 refine rd1 4 fun K hK => ?_
 go_simp
 go_at_call 77
 refine (rsend2 c1 k1 R (pieceP c1.mt c1.tk) pv (.slice none 0 0) now _ B4.cr hpv (SR.nil _ 5) (fun i hi => by have := hRl i hi; have := bRc.lt; omega)).mono ?_
 rintro e w1 ⟨⟨k2,o,rfl,hC1,hps⟩,hB1⟩
 obtain ⟨x1,hx1⟩ : ∃ x1 : Sp,(sp0 c1 now).send (pieceP c1.mt c1.tk) = x1 := ⟨_,rfl⟩
 rw [hx1] at hC1 hps ⊢
 have HX := Lib.hid hx1
 have bR1 := bRc.below hB1
 have hl1 := hBc.trans (hB1.mono hBc.size)
 have hth := bR1.there 0 26 (by simp)
 have hone := hC1.one
 clear hx1
 have bT5 := bT4.below hB1
 have B5 := B4.below hB1
 clear hHeld
 refine hK.out _ _ (B5.range) (fun hHeld => ?_)
 clear hK K
 try simp only [Act.put,List.setIfInBounds_toArray,List.set_cons_zero,List.set_cons_succ]
 refine tkU 5 ?_
 refine tkU 6 ?_
 refine rd1 7 fun K hK => ?_
 refine step_store_mid (by rfl) 35 _ _ (by rfl) (w.heap.size + 2) 0 (k2.cells x1.c).toArray (by rfl) (by rfl) hth (by kernel_rfl) hone ?_
 have hg9 := setCells_grown (w.heap.size + 2) (k2.cells x1.c) 0 w1
 have B6 := B5.other hg9 (by omega) hm2
 have bT6 := bT5.kept hg9 (fun e => by injection e with e; omega)
 obtain ⟨hF,bR3⟩ := fin26 (o := o) (r := .slice none 0 0) (us := []) hC1 hps (rsr_nil w1 R) bR1 rfl hm2 hRs hl1 (by omega)
 generalize hX : World.setCells _ (w.heap.size + 2) 0 _ = w9
 have e1 : w1.setCells (w.heap.size + 2) 0 (k2.cells x1.c) = w9 := hX
 rw [e1] at hF bR3 B6 bT6
 clear hX e1 hg9
 clear hHeld
 refine hK.out _ _ (B6.range) (fun hHeld => ?_)
 clear hK K
 try simp only [Act.put,List.setIfInBounds_toArray,List.set_cons_zero,List.set_cons_succ]
 refine tkU 8 ?_
 refine wpAnyH_done (by kernel_rfl) ?_ _
 go_wp2_with fail
 have hl := run_loadVar_row (P := Try.prog) _ (w.heap.size + 2) 35 35 _ (0,0) _ bR3 Try.underlying35 rfl (by kernel_rfl)
 exact bodyPost_ret (v := .tuple #[.agg (k2.cells x1.c).toArray,o]) (by rw [results_cell_tmp rfl]; simp [asAddr,hl]) rfl ⟨by rw [HBEG.out,HX.out]; exact ⟨k2,_,rfl,hF.1,hF.2.1⟩,hF.2.2.2⟩
theorem rbegin_any (c : Cl) (k : Cv) (R0 : List (Option Nat)) (t : Tk) (tb : Value) (now : Int) (w : World) (hC : Cr w R0 c k) (hb : BD w R0 tb t.vs) (hT : TkOk t) (hk : 1 ≤ t.kd ∧ t.kd ≤ 9) (hR0 : ∀ i,some i ∈ R0 → i < w.heap.size) :
 Calls Try.prog 36 #[.agg (k.cells c).toArray,.agg (tkc t tb (.slice none 0 0)).toArray,.int .i64 now] w fun e w' => Out2 w' R0 e ((sp0 c now).begin t) ∧ Below w.heap.size w w' := by
 obtain ⟨kd,fi,la,ha,vs,of,fo,bad⟩ := t
 obtain ⟨h1,h2,hl,_⟩ := hT
 simp only at hb h1 h2 hl hk
 subst h1
 subst h2
 have h9 : kd = 1 ∨ kd = 2 ∨ kd = 3 ∨ kd = 4 ∨ kd = 5 ∨ kd = 6 ∨ kd = 7 ∨ kd = 8 ∨ kd = 9 := by omega
 rcases h9 with rfl | rfl | rfl | rfl | rfl | rfl | rfl | rfl | rfl
 ·exact rbegin_1 c k R0 fi la ha vs bad tb now w hC hb hR0
 ·exact rbegin_2 c k R0 fi la ha vs bad tb now w hC hb hR0
 ·exact rbegin_3 c k R0 fi la ha vs bad tb now w hC hb hR0
 ·exact rbegin_4 c k R0 fi la ha vs bad tb now w hC hb hR0
 ·exact rbegin_5 c k R0 fi la ha vs bad tb now w hC hb hR0
 ·exact rbegin_6 c k R0 fi la ha vs bad tb now w hC hb hR0
 ·by_cases hr : (vs.length : Int) ≤ roomI 18 c.mt
  ·exact rbegin_7s c k R0 fi la ha vs bad tb now w hC hb hR0 hl hr
  ·exact rbegin_7l c k R0 fi la ha vs bad tb now w hC hb hR0 hl hr
 ·exact rbegin_8 c k R0 fi la ha vs bad tb now w hC hb hR0 hl
 ·exact rbegin_9 c k R0 fi la ha vs bad tb now w hC hb hR0
end Go.Proofs.Ytldcihjddebciaa
