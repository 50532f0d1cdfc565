/- client's reference: Start, Expire. -/
import Derived.Test.YtldcihjddebciaaPCmL
import Derived.Test.YtldcihjddebciaaPCmN
set_option linter.unusedSimpArgs false
set_option linter.unusedVariables false
set_option maxRecDepth 100000
set_option maxHeartbeats 4000000
namespace Go.Proofs.Ytldcihjddebciaa
open Go.RowKit
/-- what Start hands back -/
def OutS (w' : World) (R0 : List (Option Nat)) (e : Ending) (x : Sp) (E : Int) : Prop := ∃ k' o,e = .returned (.tuple #[.agg (k'.cells x.c).toArray,o,.int .i64 E]) ∧ Cr w' R0 x.c k' ∧ PsR w' R0 o x.ps
theorem rstart_dead (c : Cl) (k : Cv) (R0 : List (Option Nat)) (t : Tk) (tb tf : Value) (now : Int) (w : World) (hC : Cr w R0 c k) (hR0 : ∀ i,some i ∈ R0 → i < w.heap.size) (hb : BV w tb t.vs) (hd : c.dead = true) :
 Calls Try.prog 16 #[.agg (k.cells c).toArray,.agg (tkc t tb tf).toArray,.int .i64 now] w fun e w' => OutS w' R0 e (sp0 c now) 9 ∧ Below w.heap.size w w' := by
 obtain ⟨R,hRs,hm0,hm1,hm2,hRl,hRR,B0,bT0,bR0,hB0,hV3⟩ := pro3 hC hR0 (tkc t tb tf) 26 [.int .i64 0,.int .i64 0,.int .i64 0,.int .u16 0,.int .u16 0,.int .u16 0,.slice none 0 0,.int .i64 0,.slice none 0 0,.bool false,.int .i64 0,.int .i64 0,.int .u16 0,.int .u16 0,.int .u64 0,.int .u64 0,.int .i64 0,.int .i64 0,.int .i64 0,.bool false,.slice none 0 0,.slice none 0 0,.bool false,.int .i64 0,.bool false,.slice none 0 0] 35
 have HV3 := Lib.hid hV3
 have HBV := Lib.hid (hb.below hB0)
 clear hC hR0 hRR hV3 hb
 go_enter Try.func16,Try.ntmps16
 go_upto_region 1 with fail
 generalize hX : World.alloc (World.alloc (World.alloc w _) _) _ = V at B0 bT0 bR0 hB0 HV3 HBV ⊢
 clear hX
 have m24 := B0.blk.cell (j := 24) (v := .bool true) (by rw [← hd]; rfl)
 clear hd
 have hrg := B0.range
 have hth := bR0.there 0 26 (by simp)
 have hone := B0.cr.one
 go_wp2_with (first | (refine wpList_load_mid rfl 35 _ rfl w.heap.size 0 rfl (k.cells c) _ hrg Try.underlying35 rfl (by kernel_rfl) ?_) | (refine wpList_store_mid rfl 35 _ _ rfl (w.heap.size + 2) 0 (k.cells c).toArray rfl rfl hth (by kernel_rfl) hone ?_; simp only [Act.put]; generalize hW : World.setCells V (w.heap.size + 2) 0 _ = w2; have HW := Lib.hid hW; clear hW))
 obtain ⟨hF,bR4⟩ := fin26 (o := .slice none 0 0) (r := .slice none 0 0) (ps := []) (us := []) B0.cr (psr_nil V R) (rsr_nil V R) bR0 rfl hm2 hRs hB0 (by omega)
 rw [show V.setCells (w.heap.size + 2) 0 (k.cells c) = w2 from HW.out] at hF bR4
 have hl := run_loadVar_row (P := Try.prog) _ (w.heap.size + 2) 35 35 _ (0,0) _ bR4 Try.underlying35 rfl (by kernel_rfl)
 exact bodyPost_ret (v := .tuple #[.agg (k.cells c).toArray,.slice none 0 0,.int .i64 9]) (by rw [results_cell_tmp2 rfl]; simp [asAddr,hl]) rfl ⟨⟨k,_,rfl,hF.1,hF.2.1⟩,hF.2.2.2⟩
theorem rstart_err (c : Cl) (k : Cv) (R0 : List (Option Nat)) (t : Tk) (tb tf : Value) (now : Int) (w : World) (hC : Cr w R0 c k) (hR0 : ∀ i,some i ∈ R0 → i < w.heap.size) (hb : BV w tb t.vs) (hd : c.dead = false) (he : ¬ (rchk t).2 = 0) :
 Calls Try.prog 16 #[.agg (k.cells c).toArray,.agg (tkc t tb tf).toArray,.int .i64 now] w fun e w' => OutS w' R0 e (sp0 c now) (rchk t).2 ∧ Below w.heap.size w w' := by
 have HE := Lib.hid he
 clear he
 obtain ⟨R,hRs,hm0,hm1,hm2,hRl,hRR,B0,bT0,bR0,hB0,hV3⟩ := pro3 hC hR0 (tkc t tb tf) 26 [.int .i64 0,.int .i64 0,.int .i64 0,.int .u16 0,.int .u16 0,.int .u16 0,.slice none 0 0,.int .i64 0,.slice none 0 0,.bool false,.int .i64 0,.int .i64 0,.int .u16 0,.int .u16 0,.int .u64 0,.int .u64 0,.int .i64 0,.int .i64 0,.int .i64 0,.bool false,.slice none 0 0,.slice none 0 0,.bool false,.int .i64 0,.bool false,.slice none 0 0] 35
 have HV3 := Lib.hid hV3
 have HBV := Lib.hid (hb.below hB0)
 clear hC hR0 hRR hV3 hb
 go_enter Try.func16,Try.ntmps16
 go_upto_region 1 with fail
 generalize hX : World.alloc (World.alloc (World.alloc w _) _) _ = V at B0 bT0 bR0 hB0 HV3 HBV ⊢
 clear hX
 have m24 := B0.blk.cell (j := 24) (v := .bool false) (by rw [← hd]; rfl)
 clear hd
 have hrt := bT0.range 0 (tkc t tb tf) (fun j v hv => by rw [Nat.zero_add]; exact hv)
 go_wp2_with (refine wpList_load_mid rfl 26 _ rfl (w.heap.size + 1) 0 rfl (tkc t tb tf) _ hrt Try.underlying26 rfl (by kernel_rfl) ?_)
 refine (rcheck_any t tb tf R V HBV.out (fun i hi => by have := hRl i hi; have := bR0.lt; omega)).mono ?_
 rintro e w2 ⟨cb,rfl,hcb,hBx⟩
 obtain ⟨t2,ht2⟩ : ∃ x,(rchk t).1 = x := ⟨_,rfl⟩
 obtain ⟨E2,hE2⟩ : ∃ x,(rchk t).2 = x := ⟨_,rfl⟩
 rw [ht2] at hcb
 rw [ht2,hE2]
 have HT2 := Lib.hid (And.intro ht2 hE2)
 have hone2 : (tkc t2 cb (.slice none 0 0)).toArray.all (·.oneCell') = true := by
  obtain ⟨a1,c1,e1⟩ := hcb.1.form
  simp [tkc,e1,Value.oneCell']
 have B2 := B0.below hBx
 have bR2 := bR0.below hBx
 have bT2 := bT0.below hBx
 have hB2 := hB0.trans (hBx.mono hB0.size)
 have hth2 := bT2.there 0 8 (by simp [tkc])
 clear hBx ht2 hE2 hrt B0 bR0 bT0 hB0 HBV
 go_upto_region 4 with (refine wpList_store_mid rfl 26 _ _ rfl (w.heap.size + 1) 0 (tkc t2 cb (.slice none 0 0)).toArray rfl rfl hth2 (by kernel_rfl) hone2 ?_; simp only [Act.put]; generalize hW : World.setCells w2 (w.heap.size + 1) 0 _ = w3; have HW := Lib.hid hW; clear hW)
 have hg3 := setCells_grown (w.heap.size + 1) (tkc t2 cb (.slice none 0 0)) 0 w2
 have bT3 := bT2.putAll (vs := tkc t2 cb (.slice none 0 0)) rfl
 rw [show w2.setCells (w.heap.size + 1) 0 (tkc t2 cb (.slice none 0 0)) = w3 from HW.out] at hg3 bT3
 have B3 := B2.other hg3 (by omega) hm1
 have bR3 := bR2.kept hg3 (fun e => by injection e with e; omega)
 have hB3 := hB2.grown hg3 hB2.size (fun k hk => by cases hk; omega)
 have hcb3 := hcb.turned hg3 (fun k hk => .inl (by rw [← hk]; exact hm1))
 clear HW hg3 hth2 hone2 B2 bR2 bT2 hB2 hcb
 have hE0 : (E2 != 0) = true := by have h := HE.out; rw [HT2.out.2] at h; simp [h]
 have hrg := B3.range
 have hth := bR3.there 0 26 (by simp)
 have hone := B3.cr.one
 go_wp2_with (first | (refine wpList_load_mid rfl 35 _ rfl w.heap.size 0 rfl (k.cells c) _ hrg Try.underlying35 rfl (by kernel_rfl) ?_) | (refine wpList_store_mid rfl 35 _ _ rfl (w.heap.size + 2) 0 (k.cells c).toArray rfl rfl hth (by kernel_rfl) hone ?_; simp only [Act.put]; generalize hW : World.setCells w3 (w.heap.size + 2) 0 _ = w2; have HW := Lib.hid hW; clear hW))
 obtain ⟨hF,bR4⟩ := fin26 (o := .slice none 0 0) (r := .slice none 0 0) (ps := []) (us := []) B3.cr (psr_nil w3 R) (rsr_nil w3 R) bR3 rfl hm2 hRs hB3 (by omega)
 rw [show w3.setCells (w.heap.size + 2) 0 (k.cells c) = w2 from HW.out] at hF bR4
 have hl := run_loadVar_row (P := Try.prog) _ (w.heap.size + 2) 35 35 _ (0,0) _ bR4 Try.underlying35 rfl (by kernel_rfl)
 exact bodyPost_ret (v := .tuple #[.agg (k.cells c).toArray,.slice none 0 0,.int .i64 E2]) (by rw [results_cell_tmp2 rfl]; simp [asAddr,hl]) rfl ⟨by rw [HT2.out.2]; exact ⟨k,_,rfl,hF.1,hF.2.1⟩,hF.2.2.2⟩
theorem rstart_full (c : Cl) (k : Cv) (R0 : List (Option Nat)) (t : Tk) (tb tf : Value) (now : Int) (w : World) (hC : Cr w R0 c k) (hR0 : ∀ i,some i ∈ R0 → i < w.heap.size) (hb : BV w tb t.vs) (hd : c.dead = false) (he : (rchk t).2 = 0) (hbz : c.busy = true) (hw8 : 8 ≤ c.wt.length) :
 Calls Try.prog 16 #[.agg (k.cells c).toArray,.agg (tkc t tb tf).toArray,.int .i64 now] w fun e w' => OutS w' R0 e (sp0 c now) 8 ∧ Below w.heap.size w w' := by
 have HE := Lib.hid he
 clear he
 obtain ⟨R,hRs,hm0,hm1,hm2,hRl,hRR,B0,bT0,bR0,hB0,hV3⟩ := pro3 hC hR0 (tkc t tb tf) 26 [.int .i64 0,.int .i64 0,.int .i64 0,.int .u16 0,.int .u16 0,.int .u16 0,.slice none 0 0,.int .i64 0,.slice none 0 0,.bool false,.int .i64 0,.int .i64 0,.int .u16 0,.int .u16 0,.int .u64 0,.int .u64 0,.int .i64 0,.int .i64 0,.int .i64 0,.bool false,.slice none 0 0,.slice none 0 0,.bool false,.int .i64 0,.bool false,.slice none 0 0] 35
 have HV3 := Lib.hid hV3
 have HBV := Lib.hid (hb.below hB0)
 clear hC hR0 hRR hV3 hb
 go_enter Try.func16,Try.ntmps16
 go_upto_region 1 with fail
 generalize hX : World.alloc (World.alloc (World.alloc w _) _) _ = V at B0 bT0 bR0 hB0 HV3 HBV ⊢
 clear hX
 have m24 := B0.blk.cell (j := 24) (v := .bool false) (by rw [← hd]; rfl)
 clear hd
 have hrt := bT0.range 0 (tkc t tb tf) (fun j v hv => by rw [Nat.zero_add]; exact hv)
 go_wp2_with (refine wpList_load_mid rfl 26 _ rfl (w.heap.size + 1) 0 rfl (tkc t tb tf) _ hrt Try.underlying26 rfl (by kernel_rfl) ?_)
 refine (rcheck_any t tb tf R V HBV.out (fun i hi => by have := hRl i hi; have := bR0.lt; omega)).mono ?_
 rintro e w2 ⟨cb,rfl,hcb,hBx⟩
 obtain ⟨t2,ht2⟩ : ∃ x,(rchk t).1 = x := ⟨_,rfl⟩
 obtain ⟨E2,hE2⟩ : ∃ x,(rchk t).2 = x := ⟨_,rfl⟩
 rw [ht2] at hcb
 rw [ht2,hE2]
 have HT2 := Lib.hid (And.intro ht2 hE2)
 have hone2 : (tkc t2 cb (.slice none 0 0)).toArray.all (·.oneCell') = true := by
  obtain ⟨a1,c1,e1⟩ := hcb.1.form
  simp [tkc,e1,Value.oneCell']
 have B2 := B0.below hBx
 have bR2 := bR0.below hBx
 have bT2 := bT0.below hBx
 have hB2 := hB0.trans (hBx.mono hB0.size)
 have hth2 := bT2.there 0 8 (by simp [tkc])
 clear hBx ht2 hE2 hrt B0 bR0 bT0 hB0 HBV
 go_upto_region 4 with (refine wpList_store_mid rfl 26 _ _ rfl (w.heap.size + 1) 0 (tkc t2 cb (.slice none 0 0)).toArray rfl rfl hth2 (by kernel_rfl) hone2 ?_; simp only [Act.put]; generalize hW : World.setCells w2 (w.heap.size + 1) 0 _ = w3; have HW := Lib.hid hW; clear hW)
 have hg3 := setCells_grown (w.heap.size + 1) (tkc t2 cb (.slice none 0 0)) 0 w2
 have bT3 := bT2.putAll (vs := tkc t2 cb (.slice none 0 0)) rfl
 rw [show w2.setCells (w.heap.size + 1) 0 (tkc t2 cb (.slice none 0 0)) = w3 from HW.out] at hg3 bT3
 have B3 := B2.other hg3 (by omega) hm1
 have bR3 := bR2.kept hg3 (fun e => by injection e with e; omega)
 have hB3 := hB2.grown hg3 hB2.size (fun k hk => by cases hk; omega)
 have hcb3 := hcb.turned hg3 (fun k hk => .inl (by rw [← hk]; exact hm1))
 clear HW hg3 hth2 hone2 B2 bR2 bT2 hB2 hcb
 have hE0 : (E2 != 0) = false := by have h := HE.out; rw [HT2.out.2] at h; simp [h]
 have m22 := B3.blk.cell (j := 22) (v := .bool true) (by rw [← hbz]; rfl)
 obtain ⟨wa,wc,ewv⟩ := B3.cr.wv.form
 obtain ⟨QN,hQN⟩ : ∃ x,k.qs.length = x := ⟨_,rfl⟩
 have hqw : QN = c.wt.length := by rw [← hQN,← B3.cr.wt]; simp
 rw [hQN] at ewv
 have m25 := B3.blk.cell (j := 25) (v := .slice wa QN wc) (by rw [← ewv]; rfl)
 have g1 : decide (8 ≤ QN) = true := by simp; omega
 have g2 : decide ((8 : Int) ≤ (QN : Int)) = true := by simp; omega
 clear ewv hQN hqw hbz hw8
 have hrg := B3.range
 have hth := bR3.there 0 26 (by simp)
 have hone := B3.cr.one
 go_wp2_with (first | (refine wpList_load_mid rfl 35 _ rfl w.heap.size 0 rfl (k.cells c) _ hrg Try.underlying35 rfl (by kernel_rfl) ?_) | (refine wpList_store_mid rfl 35 _ _ rfl (w.heap.size + 2) 0 (k.cells c).toArray rfl rfl hth (by kernel_rfl) hone ?_; simp only [Act.put]; generalize hW : World.setCells w3 (w.heap.size + 2) 0 _ = w2; have HW := Lib.hid hW; clear hW))
 obtain ⟨hF,bR4⟩ := fin26 (o := .slice none 0 0) (r := .slice none 0 0) (ps := []) (us := []) B3.cr (psr_nil w3 R) (rsr_nil w3 R) bR3 rfl hm2 hRs hB3 (by omega)
 rw [show w3.setCells (w.heap.size + 2) 0 (k.cells c) = w2 from HW.out] at hF bR4
 have hl := run_loadVar_row (P := Try.prog) _ (w.heap.size + 2) 35 35 _ (0,0) _ bR4 Try.underlying35 rfl (by kernel_rfl)
 exact bodyPost_ret (v := .tuple #[.agg (k.cells c).toArray,.slice none 0 0,.int .i64 8]) (by rw [results_cell_tmp2 rfl]; simp [asAddr,hl]) rfl ⟨⟨k,_,rfl,hF.1,hF.2.1⟩,hF.2.2.2⟩
theorem rstart_begin (c : Cl) (k : Cv) (R0 : List (Option Nat)) (t : Tk) (tb tf : Value) (now : Int) (w : World) (hC : Cr w R0 c k) (hR0 : ∀ i,some i ∈ R0 → i < w.heap.size) (hb : BV w tb t.vs) (hd : c.dead = false) (he : (rchk t).2 = 0) (hbz : c.busy = false) (hT : TkOk (rchk t).1) (hk9 : 1 ≤ (rchk t).1.kd ∧ (rchk t).1.kd ≤ 9) :
 Calls Try.prog 16 #[.agg (k.cells c).toArray,.agg (tkc t tb tf).toArray,.int .i64 now] w fun e w' => OutS w' R0 e ((sp0 c now).begin (rchk t).1) 0 ∧ Below w.heap.size w w' := by
 have HE := Lib.hid he
 have HTK := Lib.hid (And.intro hT hk9)
 clear he hT hk9
 obtain ⟨R,hRs,hm0,hm1,hm2,hRl,hRR,B0,bT0,bR0,hB0,hV3⟩ := pro3 hC hR0 (tkc t tb tf) 26 [.int .i64 0,.int .i64 0,.int .i64 0,.int .u16 0,.int .u16 0,.int .u16 0,.slice none 0 0,.int .i64 0,.slice none 0 0,.bool false,.int .i64 0,.int .i64 0,.int .u16 0,.int .u16 0,.int .u64 0,.int .u64 0,.int .i64 0,.int .i64 0,.int .i64 0,.bool false,.slice none 0 0,.slice none 0 0,.bool false,.int .i64 0,.bool false,.slice none 0 0] 35
 have HV3 := Lib.hid hV3
 have HBV := Lib.hid (hb.below hB0)
 clear hC hR0 hRR hV3 hb
 go_enter Try.func16,Try.ntmps16
 go_upto_region 1 with fail
 generalize hX : World.alloc (World.alloc (World.alloc w _) _) _ = V at B0 bT0 bR0 hB0 HV3 HBV ⊢
 clear hX
 have m24 := B0.blk.cell (j := 24) (v := .bool false) (by rw [← hd]; rfl)
 clear hd
 have hrt := bT0.range 0 (tkc t tb tf) (fun j v hv => by rw [Nat.zero_add]; exact hv)
 go_wp2_with (refine wpList_load_mid rfl 26 _ rfl (w.heap.size + 1) 0 rfl (tkc t tb tf) _ hrt Try.underlying26 rfl (by kernel_rfl) ?_)
 refine (rcheck_any t tb tf R V HBV.out (fun i hi => by have := hRl i hi; have := bR0.lt; omega)).mono ?_
 rintro e w2 ⟨cb,rfl,hcb,hBx⟩
 obtain ⟨t2,ht2⟩ : ∃ x,(rchk t).1 = x := ⟨_,rfl⟩
 obtain ⟨E2,hE2⟩ : ∃ x,(rchk t).2 = x := ⟨_,rfl⟩
 rw [ht2] at hcb
 rw [ht2,hE2]
 have HT2 := Lib.hid (And.intro ht2 hE2)
 have hone2 : (tkc t2 cb (.slice none 0 0)).toArray.all (·.oneCell') = true := by
  obtain ⟨a1,c1,e1⟩ := hcb.1.form
  simp [tkc,e1,Value.oneCell']
 have B2 := B0.below hBx
 have bR2 := bR0.below hBx
 have bT2 := bT0.below hBx
 have hB2 := hB0.trans (hBx.mono hB0.size)
 have hth2 := bT2.there 0 8 (by simp [tkc])
 clear hBx ht2 hE2 hrt B0 bR0 bT0 hB0 HBV
 go_upto_region 4 with (refine wpList_store_mid rfl 26 _ _ rfl (w.heap.size + 1) 0 (tkc t2 cb (.slice none 0 0)).toArray rfl rfl hth2 (by kernel_rfl) hone2 ?_; simp only [Act.put]; generalize hW : World.setCells w2 (w.heap.size + 1) 0 _ = w3; have HW := Lib.hid hW; clear hW)
 have hg3 := setCells_grown (w.heap.size + 1) (tkc t2 cb (.slice none 0 0)) 0 w2
 have bT3 := bT2.putAll (vs := tkc t2 cb (.slice none 0 0)) rfl
 rw [show w2.setCells (w.heap.size + 1) 0 (tkc t2 cb (.slice none 0 0)) = w3 from HW.out] at hg3 bT3
 have B3 := B2.other hg3 (by omega) hm1
 have bR3 := bR2.kept hg3 (fun e => by injection e with e; omega)
 have hB3 := hB2.grown hg3 hB2.size (fun k hk => by cases hk; omega)
 have hcb3 := hcb.turned hg3 (fun k hk => .inl (by rw [← hk]; exact hm1))
 clear HW hg3 hth2 hone2 B2 bR2 bT2 hB2 hcb
 have hE0 : (E2 != 0) = false := by have h := HE.out; rw [HT2.out.2] at h; simp [h]
 have m22 := B3.blk.cell (j := 22) (v := .bool false) (by rw [← hbz]; rfl)
 have hTK := HTK.out
 rw [HT2.out.1] at hTK
 clear hbz
 have hrg := B3.range
 have hrt := bT3.range 0 (tkc t2 cb (.slice none 0 0)) (fun j v hv => by rw [Nat.zero_add]; exact hv)
 go_wp2_with (first | (refine wpList_load_mid rfl 35 _ rfl w.heap.size 0 rfl (k.cells c) _ hrg Try.underlying35 rfl (by kernel_rfl) ?_) | (refine wpList_load_mid rfl 26 _ rfl (w.heap.size + 1) 0 rfl (tkc t2 cb (.slice none 0 0)) _ hrt Try.underlying26 rfl (by kernel_rfl) ?_))
 refine (rbegin_any c k R t2 cb now w3 B3.cr hcb3 hTK.1 hTK.2 (fun i hi => by have := hRl i hi; have := bR3.lt; omega)).mono ?_
 rintro e w8 ⟨⟨k2,o,rfl,hC1,hps⟩,hB8⟩
 obtain ⟨x1,hx1⟩ : ∃ x1 : Sp,(sp0 c now).begin t2 = x1 := ⟨_,rfl⟩
 rw [hx1] at hC1 hps ⊢
 have HX := Lib.hid hx1
 have B8 := B3.below hB8
 have bR8 := bR3.below hB8
 have hl8 := hB3.trans (hB8.mono hB3.size)
 clear hx1 hrg hrt B3 bR3 hB3 hcb3 hB8 bT3
 have hth := B8.blk.there 0 26 (by simp [Cv.cells,clc])
 have hone := hC1.one
 go_upto_region 12 with (refine wpList_store_mid rfl 35 _ _ rfl w.heap.size 0 (k2.cells x1.c).toArray rfl rfl hth (by kernel_rfl) hone ?_; simp only [Act.put]; generalize hW : World.setCells w8 w.heap.size 0 _ = w9; have HW := Lib.hid hW; clear hW)
 have B9 := B8.put_cl hC1
 have hg9 := setCells_grown w.heap.size (k2.cells x1.c) 0 w8
 have hps9 := hps.turned hg9 (fun k hk => .inl (by rw [← hk]; exact hm0))
 have bR9 := bR8.kept hg9 (fun e => by injection e with e; omega)
 have hl9 := hl8.grown hg9 hl8.size (fun k hk => by cases hk; exact Nat.le_refl _)
 have e1 : w8.setCells w.heap.size 0 (k2.cells x1.c) = w9 := HW.out
 rw [e1] at B9 hps9 bR9 hl9
 clear HW e1 hg9 B8 hps bR8 hl8 hth
 have hrg := B9.range
 have hth := bR9.there 0 26 (by simp)
 go_wp2_with (first | (refine wpList_load_mid rfl 35 _ rfl w.heap.size 0 rfl (k2.cells x1.c) _ hrg Try.underlying35 rfl (by kernel_rfl) ?_) | (refine wpList_store_mid rfl 35 _ _ rfl (w.heap.size + 2) 0 (k2.cells x1.c).toArray rfl rfl hth (by kernel_rfl) hone ?_; simp only [Act.put]; generalize hW : World.setCells w9 (w.heap.size + 2) 0 _ = w10; have HW := Lib.hid hW; clear hW))
 obtain ⟨hF,bR10⟩ := fin26 (r := .slice none 0 0) (us := []) B9.cr hps9 (rsr_nil w9 R) bR9 rfl hm2 hRs hl9 (by omega)
 rw [show w9.setCells (w.heap.size + 2) 0 (k2.cells x1.c) = w10 from HW.out] at hF bR10
 have hl := run_loadVar_row (P := Try.prog) _ (w.heap.size + 2) 35 35 _ (0,0) _ bR10 Try.underlying35 rfl (by kernel_rfl)
 exact bodyPost_ret (v := .tuple #[.agg (k2.cells x1.c).toArray,o,.int .i64 0]) (by rw [results_cell_tmp2 rfl]; simp [asAddr,hl]) rfl ⟨by rw [HT2.out.1,HX.out]; exact ⟨k2,_,rfl,hF.1,hF.2.1⟩,hF.2.2.2⟩
theorem run_app_zero {P : Program} (w : World) (base : Nat) (t ty e : TypeId) (i : TypeInfo) (z : Value) (size bytes : Nat) (ht : P.underlying t = some (.slice e)) (hi : P.info? e = some i) (hz : i.zero = some z)
 (hsize : i.size = size) (hby : i.bytes = bytes) (hzs : z.cells.size = size) (hsz : 0 < size) (g : Nat) (hown : w.ownsRow base e size (.slice (some ⟨g,0,none⟩) 0 0) 0 [])
 (sv : Value) (m : Nat) (cs : List Value) (hsr : SR w sv m size cs) (hbytes : m * bytes ≤ 140737488355328) (hbase : base ≤ w.heap.size) :
 ∃ v' w',(Builtin.append_ #[t,t] ty #[.slice (some ⟨g,0,none⟩) 0 0,sv]).run P w = .ok v' w' ∧ w'.ownsRow base e size v' m cs ∧ Below w.heap.size w w' := by
 obtain ⟨v1,w1,hr1,h1,_⟩ := run_app_own (P := P) w base t ty e i z size bytes ht hi hz hsize hby hzs hsz _ 0 [] hown sv m cs hsr (by have := hsr.1; omega) (by simpa using hbytes) hbase
 obtain ⟨a,c,w2,hr2,_,_,h2,_⟩ := run_append_empty2 (P := P) w t ty e i z size bytes ht hi hz hsize hby hzs hsz g sv m cs hsr hbytes
 have e := hr1.symm.trans hr2
 injection e with e1 e2
 subst e2
 exact ⟨v1,w1,hr1,by simpa using h1,h2⟩
theorem step_app_zero {P : Program} {w : World} {ops : Array Oper} {o : Oper} {a : Act} {K : Act → World → Prop} {Q : Exit → Act → World → Prop} {E : Prop} (hgd : o.guard = none) (s x : Operand) (t : TypeId)
 (ho : o.op = .call { callee := .builtin .append,args := #[s,x],argTypes := #[t,t] })
 (base : Nat) (e : TypeId) (i : TypeInfo) (z : Value) (size bytes : Nat) (ht : P.underlying t = some (.slice e)) (hi : P.info? e = some i) (hz : i.zero = some z)
 (hsize : i.size = size) (hby : i.bytes = bytes) (hzs : z.cells.size = size) (hsz : 0 < size) (g : Nat) (hs : a.eval s = .slice (some ⟨g,0,none⟩) 0 0) (hown : w.ownsRow base e size (.slice (some ⟨g,0,none⟩) 0 0) 0 [])
 (sv : Value) (m : Nat) (cs : List Value) (hx : a.eval x = sv) (hsr : SR w sv m size cs) (hbytes : m * bytes ≤ 140737488355328) (hbase : base ≤ w.heap.size)
 (h : ∀ v' w',w'.ownsRow base e size v' m cs → Below w.heap.size w w' → K (a.put o.dst v') w') : if Region.wanted o (yielded ops a.tmps) = true then Oper.wp P o a w K Q else E := by
 have hw : Region.wanted o (yielded ops a.tmps) = true := by simp [Region.wanted,hgd]
 rw [if_pos hw]
 obtain ⟨v',w',hr,h1,h2⟩ := run_app_zero (P := P) w base t o.type e i z size bytes ht hi hz hsize hby hzs hsz g hown sv m cs hsr hbytes hbase
 unfold Oper.wp execOp
 simp only [ho,resolve,invoke,builtin,Sem.run_bind,Sem.run_pure,Result.andThen_ok,List.map_toArray,List.map_cons,List.map_nil,hs,hx,hr]
 exact h v' w' h1 h2
theorem sr_oneblk {w : World} {b size : Nat} {t : TypeId} {cs : List Value} (h : Blk w b t cs) (hl : cs.length = size) (h1 : ∀ u ∈ cs,u.oneCell' = true) : SR w (.slice (some ⟨b,0,none⟩) 1 1) 1 size cs :=
 ⟨by unfold maxLen; omega,by rw [hl,Nat.one_mul],h1,some ⟨b,0,none⟩,1,rfl,(fun e => (by cases e)),(fun _ => ⟨b,0,rfl,h.lt,(fun j u hj => (by rw [Nat.zero_add]; exact h.cell hj))⟩)⟩
theorem own_capO {w : World} {base e size n : Nat} {v : Value} {xs : List Value} (h : w.ownsRow base e size v n xs) : n ≤ capV v := by
 rcases h.2 with ⟨rfl,h0⟩ | ⟨g,cap,cur,rfl,_,_,hc,_⟩
 ·omega
 ·exact hc
theorem rstart_wait (c : Cl) (k : Cv) (R0 : List (Option Nat)) (t : Tk) (tb tf : Value) (now : Int) (w : World) (hC : Cr w R0 c k) (hR0 : ∀ i,some i ∈ R0 → i < w.heap.size) (hb : BV w tb t.vs) (hd : c.dead = false) (he : (rchk t).2 = 0) (hbz : c.busy = true) (hw8 : ¬ 8 ≤ c.wt.length) (hT : TkOk (rchk t).1) :
 Calls Try.prog 16 #[.agg (k.cells c).toArray,.agg (tkc t tb tf).toArray,.int .i64 now] w fun e w' => OutS w' R0 e ((⟨{ c with wt := c.wt ++ [(rchk t).1] },now,[],[]⟩ : Sp)) 0 ∧ Below w.heap.size w w' := by
 obtain ⟨i0,hi0,hi1,hi2,hi3⟩ := info_parts Try.info_Task
 have HE := Lib.hid he
 have HTK := Lib.hid hT
 clear he hT
 obtain ⟨R,hRs,hm0,hm1,hm2,hRl,hRR,B0,bT0,bR0,hB0,hV3⟩ := pro3 hC hR0 (tkc t tb tf) 26 [.int .i64 0,.int .i64 0,.int .i64 0,.int .u16 0,.int .u16 0,.int .u16 0,.slice none 0 0,.int .i64 0,.slice none 0 0,.bool false,.int .i64 0,.int .i64 0,.int .u16 0,.int .u16 0,.int .u64 0,.int .u64 0,.int .i64 0,.int .i64 0,.int .i64 0,.bool false,.slice none 0 0,.slice none 0 0,.bool false,.int .i64 0,.bool false,.slice none 0 0] 35
 have HV3 := Lib.hid hV3
 have HBV := Lib.hid (hb.below hB0)
 clear hC hR0 hRR hV3 hb
 go_enter Try.func16,Try.ntmps16
 go_upto_region 1 with fail
 generalize hX : World.alloc (World.alloc (World.alloc w _) _) _ = V at B0 bT0 bR0 hB0 HV3 HBV ⊢
 clear hX
 have m24 := B0.blk.cell (j := 24) (v := .bool false) (by rw [← hd]; rfl)
 clear hd
 have hrt := bT0.range 0 (tkc t tb tf) (fun j v hv => by rw [Nat.zero_add]; exact hv)
 go_wp2_with (refine wpList_load_mid rfl 26 _ rfl (w.heap.size + 1) 0 rfl (tkc t tb tf) _ hrt Try.underlying26 rfl (by kernel_rfl) ?_)
 refine (rcheck_any t tb tf R V HBV.out (fun i hi => by have := hRl i hi; have := bR0.lt; omega)).mono ?_
 rintro e w2 ⟨cb,rfl,hcb,hBx⟩
 obtain ⟨t2,ht2⟩ : ∃ x,(rchk t).1 = x := ⟨_,rfl⟩
 obtain ⟨E2,hE2⟩ : ∃ x,(rchk t).2 = x := ⟨_,rfl⟩
 rw [ht2] at hcb
 rw [ht2,hE2]
 have HT2 := Lib.hid (And.intro ht2 hE2)
 have hone2 : (tkc t2 cb (.slice none 0 0)).toArray.all (·.oneCell') = true := by
  obtain ⟨a1,c1,e1⟩ := hcb.1.form
  simp [tkc,e1,Value.oneCell']
 have B2 := B0.below hBx
 have bR2 := bR0.below hBx
 have bT2 := bT0.below hBx
 have hB2 := hB0.trans (hBx.mono hB0.size)
 have hth2 := bT2.there 0 8 (by simp [tkc])
 clear hBx ht2 hE2 hrt B0 bR0 bT0 hB0 HBV
 go_upto_region 4 with (refine wpList_store_mid rfl 26 _ _ rfl (w.heap.size + 1) 0 (tkc t2 cb (.slice none 0 0)).toArray rfl rfl hth2 (by kernel_rfl) hone2 ?_; simp only [Act.put]; generalize hW : World.setCells w2 (w.heap.size + 1) 0 _ = w3; have HW := Lib.hid hW; clear hW)
 have hg3 := setCells_grown (w.heap.size + 1) (tkc t2 cb (.slice none 0 0)) 0 w2
 have bT3 := bT2.putAll (vs := tkc t2 cb (.slice none 0 0)) rfl
 rw [show w2.setCells (w.heap.size + 1) 0 (tkc t2 cb (.slice none 0 0)) = w3 from HW.out] at hg3 bT3
 have B3 := B2.other hg3 (by omega) hm1
 have bR3 := bR2.kept hg3 (fun e => by injection e with e; omega)
 have hB3 := hB2.grown hg3 hB2.size (fun k hk => by cases hk; omega)
 have hcb3 := hcb.turned hg3 (fun k hk => .inl (by rw [← hk]; exact hm1))
 clear HW hg3 hth2 hone2 B2 bR2 bT2 hB2 hcb
 have hE0 : (E2 != 0) = false := by have h := HE.out; rw [HT2.out.2] at h; simp [h]
 have m22 := B3.blk.cell (j := 22) (v := .bool true) (by rw [← hbz]; rfl)
 obtain ⟨wa,wc,ewv⟩ := B3.cr.wv.form
 obtain ⟨QN,hQN⟩ : ∃ x,k.qs.length = x := ⟨_,rfl⟩
 have hqw : QN = c.wt.length := by rw [← hQN,← B3.cr.wt]; simp
 rw [hQN] at ewv
 have m25 := B3.blk.cell (j := 25) (v := .slice wa QN wc) (by rw [← ewv]; rfl)
 have g1 : decide (8 ≤ QN) = false := by simp; omega
 have g2 : decide ((8 : Int) ≤ (QN : Int)) = false := by simp; omega
 have hQ8 : QN < 8 := by omega
 have HEW := Lib.hid (And.intro ewv hQN)
 have HQ8 := Lib.hid hQ8
 have hTK := HTK.out
 rw [HT2.out.1] at hTK
 replace HTK := Lib.hid hTK
 obtain ⟨ca,cc,rfl⟩ := hcb3.1.form
 obtain ⟨CL,hCL⟩ : ∃ x,t2.vs.length = x := ⟨_,rfl⟩
 rw [hCL] at hcb3 bT3 ⊢
 have bTc : Blk w3 (w.heap.size + 1) 26 [.int .i64 t2.kd,.int .u16 t2.fi,.int .u16 t2.la,.int .u16 t2.ha,.slice ca CL cc,.int .i64 t2.of,.slice none 0 0,.bool t2.bad] := bT3
 clear ewv hQN hqw hbz hw8 hTK hQ8 hCL bT3
 go_upto_region 9 with fail
 go_cut [] (fun wx => ∃ k6,Bx wx w.heap.size R { c with wt := c.wt ++ [t2] } k6 ∧ Blk wx (w.heap.size + 2) 35 [.int .i64 0,.int .i64 0,.int .i64 0,.int .u16 0,.int .u16 0,.int .u16 0,.slice none 0 0,.int .i64 0,.slice none 0 0,.bool false,.int .i64 0,.int .i64 0,.int .u16 0,.int .u16 0,.int .u64 0,.int .u64 0,.int .i64 0,.int .i64 0,.int .i64 0,.bool false,.slice none 0 0,.slice none 0 0,.bool false,.int .i64 0,.bool false,.slice none 0 0] ∧ Below w.heap.size w wx)
 case first =>
  have Bd := B3.drew
  have bRd := bR3.drew
  have bTd := bTc.drew
  have hB0d := hB3.drew
  have hcbd := hcb3.below (Below.refl _ w3).drew
  have m25d := kc m25 (Below.refl _ w3).drew
  have m25 := m25d
  have hBd := Below.refl w3.drew.heap.size w3.drew
  clear B3 bR3 hB3 hcb3 m22 m24 g1 g2 hE0 bTc
  have z25 := Bd.blk.frozen 25
  refine wp_region_held_drew (S := (fun W' : World => W'.rangeAt (w.heap.size + 1) 0 [.int .i64 t2.kd,.int .u16 t2.fi,.int .u16 t2.la,.int .u16 t2.ha,.slice ca CL cc,.int .i64 t2.of,.slice none 0 0,.bool t2.bad])) (by kernel_rfl) ((bTd.below hBd).range 0 [.int .i64 t2.kd,.int .u16 t2.fi,.int .u16 t2.la,.int .u16 t2.ha,.slice ca CL cc,.int .i64 t2.of,.slice none 0 0,.bool t2.bad] (fun j v hv => by rw [Nat.zero_add]; exact hv)) (fun hHeld => ?_)
  generalize World.drew _ = wd at hHeld Bd bRd bTd hB0d hcbd m25d m25 hBd z25 ⊢
  repeat' first
   |refine tkU 1 ?_
   |refine tkN 4 26 (w.heap.size + 1) 0 [.int .i64 t2.kd,.int .u16 t2.fi,.int .u16 t2.la,.int .u16 t2.ha,.slice ca CL cc,.int .i64 t2.of,.slice none 0 0,.bool t2.bad] (fun _ h => h) Try.underlying26 ?_
   |refine tkU 7 ?_
   |(refine opn 0 fun K hK => ?_
     go_simp
     generalize hX : World.alloc _ (.cells _ 26) = w4
     have hoz : w4.ownsRow wd.heap.size 26 8 (.slice (some ⟨_,0,none⟩) 0 0) 0 [] := hX ▸ own_zero _ _ 8 wd.heap.size hBd.size
     obtain ⟨-,hBx,-⟩ := alloc_named hX
     try have bN := bN.below hBx
     have hBd := hBd.trans (hBx.mono hBd.size)
     clear m25 z25
     have m25 := kc m25d hBd
     have z25 := (Bd.below hBd).blk.frozen 25
     clear hX hBx
     refine hK.out _ _ ((bTd.below hBd).range 0 [.int .i64 t2.kd,.int .u16 t2.fi,.int .u16 t2.la,.int .u16 t2.ha,.slice ca CL cc,.int .i64 t2.of,.slice none 0 0,.bool t2.bad] (fun j v hv => by rw [Nat.zero_add]; exact hv)) (fun h => ?_)
     replace hHeld := h
     clear hK K h
     try simp only [Act.put,List.setIfInBounds_toArray,List.set_cons_zero,List.set_cons_succ])
   |(refine opn 2 fun K hK => ?_
     go_simp
     refine hK.out _ _ ((bTd.below hBd).range 0 [.int .i64 t2.kd,.int .u16 t2.fi,.int .u16 t2.la,.int .u16 t2.ha,.slice ca CL cc,.int .i64 t2.of,.slice none 0 0,.bool t2.bad] (fun j v hv => by rw [Nat.zero_add]; exact hv)) (fun h => ?_)
     replace hHeld := h
     clear hK K h
     try simp only [Act.put,List.setIfInBounds_toArray,List.set_cons_zero,List.set_cons_succ])
   |(refine opn 3 fun K hK => ?_
     refine step_app_zero (by rfl) _ _ 33 (by rfl) wd.heap.size 26 i0 _ 8 80 Try.underlying33 hi0 hi1 hi2 hi3 rfl (by decide) _ (by rfl) hoz (.slice wa QN wc) QN (k.qs.flatMap wenc) (by rfl) (by have h := (Bd.below hBd).cr.wv; rw [HEW.out.1,HEW.out.2] at h; exact h) (by have := HQ8.out; omega) hBd.size ?_
     intro v5 w5 hown hBx
     try have bN := bN.below hBx
     have hBd := hBd.trans (hBx.mono hBd.size)
     clear m25 z25
     have m25 := kc m25d hBd
     have z25 := (Bd.below hBd).blk.frozen 25
     clear hBx hoz
     refine hK.out _ _ ((bTd.below hBd).range 0 [.int .i64 t2.kd,.int .u16 t2.fi,.int .u16 t2.la,.int .u16 t2.ha,.slice ca CL cc,.int .i64 t2.of,.slice none 0 0,.bool t2.bad] (fun j v hv => by rw [Nat.zero_add]; exact hv)) (fun h => ?_)
     replace hHeld := h
     clear hK K h
     try simp only [Act.put,List.setIfInBounds_toArray,List.set_cons_zero,List.set_cons_succ])
   |(refine opn 5 fun K hK => ?_
     go_simp
     generalize hX : World.alloc _ (.cells _ 26) = w6
     obtain ⟨hnb,hBx,-⟩ := alloc_named hX
     have bN : Blk w6 _ 26 [.int .i64 t2.kd,.int .u16 t2.fi,.int .u16 t2.la,.int .u16 t2.ha,.slice ca CL cc,.int .i64 t2.of,.slice none 0 0,.bool t2.bad] := hnb
     try have hoz := own_below hoz hBx
     try have hown := own_below hown hBx
     have hBd := hBd.trans (hBx.mono hBd.size)
     clear m25 z25
     have m25 := kc m25d hBd
     have z25 := (Bd.below hBd).blk.frozen 25
     clear hX hBx hnb
     refine hK.out _ _ ((bTd.below hBd).range 0 [.int .i64 t2.kd,.int .u16 t2.fi,.int .u16 t2.la,.int .u16 t2.ha,.slice ca CL cc,.int .i64 t2.of,.slice none 0 0,.bool t2.bad] (fun j v hv => by rw [Nat.zero_add]; exact hv)) (fun h => ?_)
     replace hHeld := h
     clear hK K h
     try simp only [Act.put,List.setIfInBounds_toArray,List.set_cons_zero,List.set_cons_succ])
   |(refine opn 6 fun K hK => ?_
     refine step_app_own (by rfl) _ _ 33 (by rfl) wd.heap.size 26 i0 _ 8 80 Try.underlying33 hi0 hi1 hi2 hi3 rfl (by decide) v5 QN (k.qs.flatMap wenc) (by rfl) hown (.slice (some ⟨_,0,none⟩) 1 1) 1 [.int .i64 t2.kd,.int .u16 t2.fi,.int .u16 t2.la,.int .u16 t2.ha,.slice ca CL cc,.int .i64 t2.of,.slice none 0 0,.bool t2.bad] (by rfl) (sr_oneblk bN rfl (by simp [Value.oneCell'])) (by have := HQ8.out; unfold maxLen; omega) (by have := HQ8.out; omega) hBd.size ?_
     intro v7 w7 hown7 hg7
     obtain ⟨va7,vc7,rfl⟩ := own_form hown7
     obtain ⟨Q1,hQ1⟩ : ∃ x,QN + 1 = x := ⟨_,rfl⟩
     rw [hQ1] at hown7 ⊢
     have hQl : (k.qs ++ [(t2,(.slice ca CL cc : Value))]).length = Q1 := by rw [List.length_append,HEW.out.2]; exact hQ1
     have hQ1b : Q1 ≤ 8 := by have := HQ8.out; omega
     have hBx : Below wd.heap.size _ w7 := own_low hown hg7 hBd.size
     have hBd := hBd.trans hBx
     clear m25 z25
     have m25 := kc m25d hBd
     have z25 := (Bd.below hBd).blk.frozen 25
     have hsr7 : SR w7 (.slice va7 Q1 vc7) (k.qs ++ [(t2,(.slice ca CL cc : Value))]).length 8 ((k.qs ++ [(t2,(.slice ca CL cc : Value))]).flatMap wenc) := by
      rw [hQl,List.flatMap_append]
      have hTL : [(t2,(.slice ca CL cc : Value))].flatMap wenc = [.int .i64 t2.kd,.int .u16 t2.fi,.int .u16 t2.la,.int .u16 t2.ha,.slice ca CL cc,.int .i64 t2.of,.slice none 0 0,.bool t2.bad] := rfl
      rw [hTL]
      refine SR.of_own hown7 (fun u hu => ?_) (by unfold maxLen; omega)
      rcases List.mem_append.1 hu with h | h
      ·exact Bd.cr.wv.2.2.1 u h
      ·simp only [List.mem_cons,List.not_mem_nil,or_false] at h
       rcases h with rfl | rfl | rfl | rfl | rfl | rfl | rfl | rfl <;> rfl
     have hap7 : (k.qs ++ [(t2,(.slice ca CL cc : Value))]).length = 0 ∨ Apart R (.slice va7 Q1 vc7) := .inr fun kk hk hm => by
      have h1 := (World.ownsRow.lt hown7 kk hk).1
      have h2 := hRl kk hm
      have h3 := bRd.lt
      omega
     have hcap7 : (k.qs ++ [(t2,(.slice ca CL cc : Value))]).length ≤ capV (.slice va7 Q1 vc7) := by
      rw [hQl]
      exact own_capO hown7
     clear hBx hown hown7 hg7 bN hQ1 hQl hQ1b
     refine hK.out _ _ ((bTd.below hBd).range 0 [.int .i64 t2.kd,.int .u16 t2.fi,.int .u16 t2.la,.int .u16 t2.ha,.slice ca CL cc,.int .i64 t2.of,.slice none 0 0,.bool t2.bad] (fun j v hv => by rw [Nat.zero_add]; exact hv)) (fun h => ?_)
     replace hHeld := h
     clear hK K h
     try simp only [Act.put,List.setIfInBounds_toArray,List.set_cons_zero,List.set_cons_succ])
   |(refine opn 8 fun K hK => ?_
     go_simp
     have B9 := (Bd.below hBd).put_wt (v := (.slice va7 Q1 vc7)) (qs := k.qs ++ [(t2,(.slice ca CL cc : Value))]) hsr7 hap7 (fun q hq => by
      rcases List.mem_append.1 hq with h | h
      ·exact (Bd.below hBd).cr.wi q h
      ·rw [List.mem_singleton.1 h]
       exact ⟨hcbd.below hBd,HTK.out.fo⟩) hcap7
     have hg9 := set1 w7 ⟨w.heap.size,25,none⟩ (.slice va7 Q1 vc7)
     have bR9 := (bRd.below hBd).kept hg9 (fun e => by injection e with e; simp only at e; omega)
     have bT9 := (bTd.below hBd).kept hg9 (fun e => by injection e with e; simp only at e; omega)
     have hB9 := (hB0d.trans (hBd.mono hB0d.size)).grown hg9 (by have := hB0d.size; have := hBd.size; omega) (fun k hk => by cases hk; exact Nat.le_refl _)
     have m9 := B9.blk.cell (j := 25) (v := (.slice va7 Q1 vc7)) rfl
     generalize hX : World.setCell _ _ _ = w9 at B9 bR9 bT9 hB9 m9 ⊢
     clear hX hg9 hsr7 hap7 hcap7
     refine hK.out _ _ (bT9.range 0 [.int .i64 t2.kd,.int .u16 t2.fi,.int .u16 t2.la,.int .u16 t2.ha,.slice ca CL cc,.int .i64 t2.of,.slice none 0 0,.bool t2.bad] (fun j v hv => by rw [Nat.zero_add]; exact hv)) (fun h => ?_)
     replace hHeld := h
     clear hK K h
     try simp only [Act.put,List.setIfInBounds_toArray,List.set_cons_zero,List.set_cons_succ])
   |refine rd3 0 2 5 ?_ ?_ ?_
   |refine rd2 2 5 ?_ ?_
   |refine rd2 3 5 ?_ ?_
   |refine rd1 5 ?_
   |refine rd1 6 ?_
   |refine rd1 8 ?_
   |refine rd1 3 ?_
   |refine rd1 2 ?_
   |refine rd2 0 5 ?_ ?_
   |refine rd1 0 ?_
   |refine rd2 0 2 ?_ ?_
   |(refine wpAnyH_done (by kernel_rfl) ?_ _
     go_wp2_with fail
     go_meet
     exact ⟨_,by rw [show c.wt ++ [t2] = (k.qs ++ [(t2,(.slice ca CL cc : Value))]).map (·.1) by rw [List.map_append,Bd.cr.wt]; rfl]; exact B9,bR9,hB9⟩)
 case rest =>
  obtain ⟨k6,B6,bR6,hB6⟩ := hcut
  have HT1 := HT2.out.1
  have hrg := B6.range
  have hth := bR6.there 0 26 (by simp)
  have hone := B6.cr.one
  go_wp2_with (first | (refine wpList_load_mid rfl 35 _ rfl w.heap.size 0 rfl (k6.cells { c with wt := c.wt ++ [t2] }) _ hrg Try.underlying35 rfl (by kernel_rfl) ?_) | (refine wpList_store_mid rfl 35 _ _ rfl (w.heap.size + 2) 0 (k6.cells { c with wt := c.wt ++ [t2] }).toArray rfl rfl hth (by kernel_rfl) hone ?_; simp only [Act.put]; generalize hW : World.setCells wc (w.heap.size + 2) 0 _ = w2; have HW := Lib.hid hW; clear hW))
  obtain ⟨hF,bR4⟩ := fin26 (o := .slice none 0 0) (r := .slice none 0 0) (ps := []) (us := []) B6.cr (psr_nil wc R) (rsr_nil wc R) bR6 rfl hm2 hRs hB6 (by omega)
  rw [show wc.setCells (w.heap.size + 2) 0 (k6.cells { c with wt := c.wt ++ [t2] }) = w2 from HW.out] at hF bR4
  have hl := run_loadVar_row (P := Try.prog) _ (w.heap.size + 2) 35 35 _ (0,0) _ bR4 Try.underlying35 rfl (by kernel_rfl)
  exact bodyPost_ret (v := .tuple #[.agg (k6.cells { c with wt := c.wt ++ [t2] }).toArray,.slice none 0 0,.int .i64 0]) (by rw [results_cell_tmp2 rfl]; simp [asAddr,hl]) rfl ⟨by rw [HT2.out.1]; exact ⟨k6,_,rfl,hF.1,hF.2.1⟩,hF.2.2.2⟩
theorem own_ok {t : Tk} (hm : t.vs.length ≤ 1000000) (hkd : (Lit.int .i64 t.kd).wf = true) : TkOk (ownP t) := by
 unfold ownP
 split
 ·exact ⟨rfl,rfl,Nat.zero_le _,hkd⟩
 ·split
  ·exact ⟨rfl,rfl,Nat.zero_le _,hkd⟩
  ·split
   ·exact ⟨rfl,rfl,hm,hkd⟩
   ·exact ⟨rfl,rfl,Nat.zero_le _,hkd⟩
theorem rstart_any (c : Cl) (k : Cv) (R0 : List (Option Nat)) (t : Tk) (tb tf : Value) (now : Int) (w : World) (hC : Cr w R0 c k) (hR0 : ∀ i,some i ∈ R0 → i < w.heap.size) (hb : BV w tb t.vs) (hm : t.vs.length ≤ 1000000) (hkd : (Lit.int .i64 t.kd).wf = true) :
 Calls Try.prog 16 #[.agg (k.cells c).toArray,.agg (tkc t tb tf).toArray,.int .i64 now] w fun e w' => OutS w' R0 e ((startP c t now).1) (startP c t now).2 ∧ Below w.heap.size w w' := by
 unfold startP
 by_cases hd : c.dead = true
 ·rw [if_pos hd]
  exact rstart_dead c k R0 t tb tf now w hC hR0 hb hd
 rw [if_neg hd]
 have hd' : c.dead = false := by simpa using hd
 by_cases hk : 1 ≤ t.kd ∧ t.kd ≤ 9
 ·rw [if_neg (fun h => h hk)]
  have hr2 : (rchk t).2 = chkP t := by unfold rchk; rw [if_pos hk]
  by_cases he : chkP t = 0
  ·have hr1 : (rchk t).1 = ownP t := by unfold rchk; rw [if_pos hk,if_pos he]
   rw [if_neg (fun h => h he)]
   have he2 : (rchk t).2 = 0 := hr2.trans he
   have hT : TkOk (rchk t).1 := by rw [hr1]; exact own_ok hm hkd
   by_cases hbz : c.busy = true
   ·rw [if_neg (fun h => h hbz)]
    by_cases hw8 : 8 ≤ c.wt.length
    ·rw [if_pos hw8]
     exact rstart_full c k R0 t tb tf now w hC hR0 hb hd' he2 hbz hw8
    ·rw [if_neg hw8,← hr1]
     exact rstart_wait c k R0 t tb tf now w hC hR0 hb hd' he2 hbz hw8 hT
   ·rw [if_pos hbz,← hr1]
    exact rstart_begin c k R0 t tb tf now w hC hR0 hb hd' he2 (by simpa using hbz) hT (by rw [hr1,own_kd]; exact hk)
  ·rw [if_pos he,← hr2]
   exact rstart_err c k R0 t tb tf now w hC hR0 hb hd' (by rw [hr2]; exact he)
 ·rw [if_pos hk]
  have hr2 : (rchk t).2 = 12 := by unfold rchk; rw [if_neg hk]
  rw [← hr2]
  exact rstart_err c k R0 t tb tf now w hC hR0 hb hd' (by rw [hr2]; decide)
theorem rexp_idle (c : Cl) (k : Cv) (R0 : List (Option Nat)) (now : Int) (w : World) (hC : Cr w R0 c k) (hR0 : ∀ i,some i ∈ R0 → i < w.heap.size) (hwr : IntKind.i64.wrap (now - c.since) = now - c.since) (hbz : c.busy = false) :
 Calls Try.prog 21 #[.agg (k.cells c).toArray,.int .i64 now] w fun e w' => (∃ k' r,e = .returned (.tuple #[.agg (k'.cells (expireP c now).c).toArray,r]) ∧ Cr w' R0 (expireP c now).c k' ∧ RsR w' R0 r (expireP c now).us) ∧ Below w.heap.size w w' := by
 have hx : expireP c now = (⟨c,now,[],[]⟩ : Sp) := by
  unfold expireP
  rw [if_pos (.inl hbz)]
 have HXP := Lib.hid hx
 have HW := Lib.hid hwr
 obtain ⟨R,hRs,hm0,hm1,hRl,hRR,B0,bR0,hB0,hV3⟩ := pro2 hC hR0 [.int .i64 0,.int .i64 0,.int .i64 0,.int .u16 0,.int .u16 0,.int .u16 0,.slice none 0 0,.int .i64 0,.slice none 0 0,.bool false,.int .i64 0,.int .i64 0,.int .u16 0,.int .u16 0,.int .u64 0,.int .u64 0,.int .i64 0,.int .i64 0,.int .i64 0,.bool false,.slice none 0 0,.slice none 0 0,.bool false,.int .i64 0,.bool false,.slice none 0 0] 35
 have HV3 := Lib.hid hV3
 have m22 := B0.blk.cell (j := 22) (v := .bool false) (by rw [← hbz]; rfl)
 have m23 := B0.blk.cell (j := 23) (v := .int .i64 c.since) rfl
 clear hC hR0 hRR hV3 hx hbz
 go_enter Try.func21,Try.ntmps21
 go_upto_region 1 with fail
 generalize hX : World.alloc (World.alloc w _) _ = V at B0 bR0 hB0 HV3 m22 m23 ⊢
 clear hX
 have hrg := B0.range
 have hth := bR0.there 0 26 (by simp)
 have hone := B0.cr.one
 go_wp2_with (first | (refine wpList_load_mid rfl 35 _ rfl w.heap.size 0 rfl (k.cells c) _ hrg Try.underlying35 rfl (by kernel_rfl) ?_) | (refine wpList_store_mid rfl 35 _ _ rfl (w.heap.size + 1) 0 (k.cells c).toArray rfl rfl hth (by kernel_rfl) hone ?_; simp only [Act.put]; generalize hW : World.setCells V (w.heap.size + 1) 0 _ = w2; have HW2 := Lib.hid hW; clear hW))
 obtain ⟨hF,bR4⟩ := fin26 (o := .slice none 0 0) (r := .slice none 0 0) (ps := []) (us := []) B0.cr (psr_nil V R) (rsr_nil V R) bR0 rfl hm1 hRs hB0 (by omega)
 rw [show V.setCells (w.heap.size + 1) 0 (k.cells c) = w2 from HW2.out] at hF bR4
 have hl := run_loadVar_row (P := Try.prog) _ (w.heap.size + 1) 35 35 _ (0,0) _ bR4 Try.underlying35 rfl (by kernel_rfl)
 exact bodyPost_ret (v := .tuple #[.agg (k.cells c).toArray,.slice none 0 0]) (by rw [results_cell_tmp rfl]; simp [asAddr,hl]) rfl ⟨by rw [HXP.out]; exact ⟨k,_,rfl,hF.1,hF.2.2.1⟩,hF.2.2.2⟩
theorem rexp_early (c : Cl) (k : Cv) (R0 : List (Option Nat)) (now : Int) (w : World) (hC : Cr w R0 c k) (hR0 : ∀ i,some i ∈ R0 → i < w.heap.size) (hwr : IntKind.i64.wrap (now - c.since) = now - c.since) (hbz : c.busy = true) (hle : now - c.since ≤ 30000000) :
 Calls Try.prog 21 #[.agg (k.cells c).toArray,.int .i64 now] w fun e w' => (∃ k' r,e = .returned (.tuple #[.agg (k'.cells (expireP c now).c).toArray,r]) ∧ Cr w' R0 (expireP c now).c k' ∧ RsR w' R0 r (expireP c now).us) ∧ Below w.heap.size w w' := by
 have hx : expireP c now = (⟨c,now,[],[]⟩ : Sp) := by
  unfold expireP
  rw [if_pos (.inr hle)]
 have HXP := Lib.hid hx
 have g1 : decide (now - c.since ≤ 30000000) = true := by simpa using hle
 have HW := Lib.hid hwr
 obtain ⟨R,hRs,hm0,hm1,hRl,hRR,B0,bR0,hB0,hV3⟩ := pro2 hC hR0 [.int .i64 0,.int .i64 0,.int .i64 0,.int .u16 0,.int .u16 0,.int .u16 0,.slice none 0 0,.int .i64 0,.slice none 0 0,.bool false,.int .i64 0,.int .i64 0,.int .u16 0,.int .u16 0,.int .u64 0,.int .u64 0,.int .i64 0,.int .i64 0,.int .i64 0,.bool false,.slice none 0 0,.slice none 0 0,.bool false,.int .i64 0,.bool false,.slice none 0 0] 35
 have HV3 := Lib.hid hV3
 have m22 := B0.blk.cell (j := 22) (v := .bool true) (by rw [← hbz]; rfl)
 have m23 := B0.blk.cell (j := 23) (v := .int .i64 c.since) rfl
 clear hC hR0 hRR hV3 hx hbz hle
 go_enter Try.func21,Try.ntmps21
 go_upto_region 1 with fail
 generalize hX : World.alloc (World.alloc w _) _ = V at B0 bR0 hB0 HV3 m22 m23 ⊢
 clear hX
 have hrg := B0.range
 have hth := bR0.there 0 26 (by simp)
 have hone := B0.cr.one
 go_wp2_with (first | (refine wpList_load_mid rfl 35 _ rfl w.heap.size 0 rfl (k.cells c) _ hrg Try.underlying35 rfl (by kernel_rfl) ?_) | (refine wpList_store_mid rfl 35 _ _ rfl (w.heap.size + 1) 0 (k.cells c).toArray rfl rfl hth (by kernel_rfl) hone ?_; simp only [Act.put]; generalize hW : World.setCells V (w.heap.size + 1) 0 _ = w2; have HW2 := Lib.hid hW; clear hW))
 obtain ⟨hF,bR4⟩ := fin26 (o := .slice none 0 0) (r := .slice none 0 0) (ps := []) (us := []) B0.cr (psr_nil V R) (rsr_nil V R) bR0 rfl hm1 hRs hB0 (by omega)
 rw [show V.setCells (w.heap.size + 1) 0 (k.cells c) = w2 from HW2.out] at hF bR4
 have hl := run_loadVar_row (P := Try.prog) _ (w.heap.size + 1) 35 35 _ (0,0) _ bR4 Try.underlying35 rfl (by kernel_rfl)
 exact bodyPost_ret (v := .tuple #[.agg (k.cells c).toArray,.slice none 0 0]) (by rw [results_cell_tmp rfl]; simp [asAddr,hl]) rfl ⟨by rw [HXP.out]; exact ⟨k,_,rfl,hF.1,hF.2.2.1⟩,hF.2.2.2⟩
theorem rexp_late (c : Cl) (k : Cv) (R0 : List (Option Nat)) (now : Int) (w : World) (hC : Cr w R0 c k) (hR0 : ∀ i,some i ∈ R0 → i < w.heap.size) (hwr : IntKind.i64.wrap (now - c.since) = now - c.since) (hbz : c.busy = true) (hle : ¬ now - c.since ≤ 30000000) :
 Calls Try.prog 21 #[.agg (k.cells c).toArray,.int .i64 now] w fun e w' => (∃ k' r,e = .returned (.tuple #[.agg (k'.cells (expireP c now).c).toArray,r]) ∧ Cr w' R0 (expireP c now).c k' ∧ RsR w' R0 r (expireP c now).us) ∧ Below w.heap.size w w' := by
 have hx : expireP c now = (⟨({ c with dead := true,busy := false,tk := tk0,ad := pd0,wt := [] } : Cl),now,[],[⟨8,c.tk.kd,0,[],[],0⟩]⟩ : Sp) := by
  unfold expireP
  rw [if_neg (fun h => h.elim (fun h => by rw [hbz] at h; cases h) hle)]
 have HXP := Lib.hid hx
 have g1 : decide (now - c.since ≤ 30000000) = false := by simpa using hle
 have HW := Lib.hid hwr
 obtain ⟨R,hRs,hm0,hm1,hRl,hRR,B0,bR0,hB0,hV3⟩ := pro2 hC hR0 [.int .i64 0,.int .i64 0,.int .i64 0,.int .u16 0,.int .u16 0,.int .u16 0,.slice none 0 0,.int .i64 0,.slice none 0 0,.bool false,.int .i64 0,.int .i64 0,.int .u16 0,.int .u16 0,.int .u64 0,.int .u64 0,.int .i64 0,.int .i64 0,.int .i64 0,.bool false,.slice none 0 0,.slice none 0 0,.bool false,.int .i64 0,.bool false,.slice none 0 0] 35
 have HV3 := Lib.hid hV3
 have m22 := B0.blk.cell (j := 22) (v := .bool true) (by rw [← hbz]; rfl)
 have m23 := B0.blk.cell (j := 23) (v := .int .i64 c.since) rfl
 clear hC hR0 hRR hV3 hx hbz hle
 go_enter Try.func21,Try.ntmps21
 go_upto_region 1 with fail
 generalize hX : World.alloc (World.alloc w _) _ = V at B0 bR0 hB0 HV3 m22 m23 ⊢
 clear hX
 have m2 := B0.blk.cell (j := 2) (v := .int .i64 c.tk.kd) rfl
 have bO0 := Blk.new V 64 [.int .i64 0,.int .i64 0,.int .u16 0,.slice none 0 0,.slice none 0 0,.int .i64 0]
 have hth := bO0.there 0 6 (by simp)
 go_upto_region 4 with (refine wpList_store_mid rfl 64 _ _ rfl V.heap.size 0 #[.int .i64 8,.int .i64 c.tk.kd,.int .u16 0,.slice none 0 0,.slice none 0 0,.int .i64 0] rfl rfl hth (by kernel_rfl) (by simp [Value.oneCell']) ?_; simp only [Act.put]; generalize hW : World.setCells _ V.heap.size 0 _ = V1; have HW2 := Lib.hid hW; clear hW)
 have bO1 := bO0.putAll (vs := [.int .i64 8,.int .i64 c.tk.kd,.int .u16 0,.slice none 0 0,.slice none 0 0,.int .i64 0]) rfl
 have hg1 := setCells_grown V.heap.size [.int .i64 8,.int .i64 c.tk.kd,.int .u16 0,.slice none 0 0,.slice none 0 0,.int .i64 0] 0 (V.alloc (.cells #[.int .i64 0,.int .i64 0,.int .u16 0,.slice none 0 0,.slice none 0 0,.int .i64 0] 64))
 rw [show World.setCells _ V.heap.size 0 [.int .i64 8,.int .i64 c.tk.kd,.int .u16 0,.slice none 0 0,.slice none 0 0,.int .i64 0] = V1 from HW2.out] at bO1 hg1
 have hBV : Below V.heap.size V V1 := ((Below.refl V.heap.size V).alloc (Nat.le_refl _) _).grown hg1 (by simp) (fun k hk => by cases hk; exact Nat.le_refl _)
 have B1 := B0.below hBV
 have bR1 := bR0.below hBV
 have hB1 := hB0.trans (hBV.mono hB0.size)
 have hRB := bR0.lt
 obtain ⟨RB,hRBe⟩ : ∃ x,V.heap.size = x := ⟨_,rfl⟩
 rw [hRBe] at bO1 hRB ⊢
 clear hth HW2 bO0 hg1 hBV hRBe B0 bR0 hB0 m2 m22 m23 g1
 have m24 := B1.blk.cell (j := 24) (v := .bool c.dead) rfl
 have z24 := B1.blk.frozen 24
 go_upto_region 5 with fail
 have B2 := B1.put_dead true
 have hg2 := set1 V1 ⟨w.heap.size,24,none⟩ (.bool true)
 have bR2 := bR1.kept hg2 (fun e => by injection e with e; simp only at e; omega)
 have bO2 := bO1.kept hg2 (fun e => by injection e with e; simp only at e; omega)
 have hB2 := hB1.grown hg2 hB1.size (fun k hk => by cases hk; exact Nat.le_refl _)
 generalize hW : World.setCell V1 _ _ = V2 at B2 bR2 bO2 hB2 ⊢
 clear hW hg2 m24 z24 B1 bR1 bO1 hB1
 have m22 := B2.blk.cell (j := 22) (v := .bool c.busy) rfl
 have z22 := B2.blk.frozen 22
 go_upto_region 6 with fail
 have B3 := B2.put_busy false
 have hg3 := set1 V2 ⟨w.heap.size,22,none⟩ (.bool false)
 have bR3 := bR2.kept hg3 (fun e => by injection e with e; simp only at e; omega)
 have bO3 := bO2.kept hg3 (fun e => by injection e with e; simp only at e; omega)
 have hB3 := hB2.grown hg3 hB2.size (fun k hk => by cases hk; exact Nat.le_refl _)
 generalize hW : World.setCell V2 _ _ = V3 at B3 bR3 bO3 hB3 ⊢
 clear hW hg3 m22 z22 B2 bR2 bO2 hB2
 have hth := B3.blk.there 2 8 (by simp [Cv.cells,clc])
 go_upto_region 7 with (refine wpList_store_mid rfl 26 _ _ rfl w.heap.size 2 #[.int .i64 0,.int .u16 0,.int .u16 0,.int .u16 0,.slice none 0 0,.int .i64 0,.slice none 0 0,.bool false] rfl rfl hth (by kernel_rfl) (by simp [Value.oneCell']) ?_; simp only [Act.put]; generalize hW : World.setCells V3 w.heap.size 2 _ = V4; have HW2 := Lib.hid hW; clear hW)
 have B4 := B3.put_tk tk0 (BD.nil V3 R) (FD.nil V3 R)
 have hg4 := setCells_grown w.heap.size (tkc tk0 (.slice none 0 0) (.slice none 0 0)) 2 V3
 rw [show V3.setCells w.heap.size 2 (tkc tk0 (.slice none 0 0) (.slice none 0 0)) = V4 from HW2.out] at B4 hg4
 have bR4 := bR3.kept hg4 (fun e => by injection e with e; omega)
 have bO4 := bO3.kept hg4 (fun e => by injection e with e; omega)
 have hB4 := hB3.grown hg4 hB3.size (fun k hk => by cases hk; exact Nat.le_refl _)
 clear HW2 hth hg4 B3 bR3 bO3 hB3
 have hth := B4.blk.there 10 12 (by simp [Cv.cells,clc])
 go_upto_region 8 with (refine wpList_store_mid rfl 32 _ _ rfl w.heap.size 10 #[.int .i64 0,.int .i64 0,.int .u16 0,.int .u16 0,.int .u64 0,.int .u64 0,.int .i64 0,.int .i64 0,.int .i64 0,.bool false,.slice none 0 0,.slice none 0 0] rfl rfl hth (by kernel_rfl) (by simp [Value.oneCell']) ?_; simp only [Act.put]; generalize hW : World.setCells V4 w.heap.size 10 _ = V5; have HW2 := Lib.hid hW; clear hW)
 have B5 := B4.put_ad pd0 (BD.nil V4 R) (SR.nil V4 5)
 have hg5 := setCells_grown w.heap.size (pdc pd0 (.slice none 0 0) (.slice none 0 0)) 10 V4
 rw [show V4.setCells w.heap.size 10 (pdc pd0 (.slice none 0 0) (.slice none 0 0)) = V5 from HW2.out] at B5 hg5
 have bR5 := bR4.kept hg5 (fun e => by injection e with e; omega)
 have bO5 := bO4.kept hg5 (fun e => by injection e with e; omega)
 have hB5 := hB4.grown hg5 hB4.size (fun k hk => by cases hk; exact Nat.le_refl _)
 clear HW2 hth hg5 B4 bR4 bO4 hB4
 obtain ⟨wa,wc,ewv⟩ := B5.cr.wv.form
 have m25 := B5.blk.cell (j := 25) (v := k.wv) rfl
 have z25 := B5.blk.frozen 25
 clear ewv
 go_upto_region 9 with fail
 have B6 := B5.put_wt (v := .slice none 0 0) (qs := []) (SR.nil V5 8) (.inl rfl) (fun q hq => by cases hq) (Nat.zero_le _)
 have hg6 := set1 V5 ⟨w.heap.size,25,none⟩ (.slice none 0 0)
 have bR6 := bR5.kept hg6 (fun e => by injection e with e; simp only at e; omega)
 have bO6 := bO5.kept hg6 (fun e => by injection e with e; simp only at e; omega)
 have hB6 := hB5.grown hg6 hB5.size (fun k hk => by cases hk; exact Nat.le_refl _)
 generalize hW : World.setCell V5 _ _ = V6 at B6 bR6 bO6 hB6 ⊢
 clear hW hg6 m25 z25 B5 bR5 bO5 hB5
 obtain ⟨c8,hc8⟩ : ∃ x : Cl,({ c with dead := true,busy := false,tk := tk0,ad := pd0,wt := [] } : Cl) = x := ⟨_,rfl⟩
 obtain ⟨k8,hk8⟩ : ∃ x : Cv,({ bv := .slice none 0 0,fv := .slice none 0 0,ab := .slice none 0 0,ai := .slice none 0 0,wv := .slice none 0 0,qs := [] } : Cv) = x := ⟨_,rfl⟩
 replace B6 : Bx V6 w.heap.size R c8 k8 := by rw [← hc8,← hk8]; exact B6
 have HC8 := Lib.hid hc8
 clear hc8 hk8
 have Bc := B6.drew
 have bRc := bR6.drew
 have bO := bO6.drew
 have hBc := hB6.drew
 clear B6 bR6 bO6 hB6
 refine wp_region_held_drew (S := (fun W' : World => W'.rangeAt w.heap.size 0 (k8.cells c8) ∧ W'.rangeAt RB 0 [.int .i64 8,.int .i64 c.tk.kd,.int .u16 0,.slice none 0 0,.slice none 0 0,.int .i64 0])) (by kernel_rfl) (⟨Bc.range,bO.range 0 [.int .i64 8,.int .i64 c.tk.kd,.int .u16 0,.slice none 0 0,.slice none 0 0,.int .i64 0] (fun j v hv => by rw [Nat.zero_add]; exact hv)⟩) (fun hHeld => ?_)
 generalize World.drew _ = wd at hHeld Bc bRc bO hBc ⊢
 repeat' first
  |refine tkN 0 35 w.heap.size 0 (k8.cells c8) (fun _ h => h.1) Try.underlying35 ?_
  |refine tkN 1 64 RB 0 [.int .i64 8,.int .i64 c.tk.kd,.int .u16 0,.slice none 0 0,.slice none 0 0,.int .i64 0] (fun _ h => h.2) Try.underlying64 ?_
  |refine tkU 4 ?_
  |(refine opn 2 fun K hK => ?_
    go_simp
    generalize hX : World.alloc _ (.cells _ 64) = w5
    have hgr := bRc.lt
    obtain ⟨hnb,hBx,hz5⟩ := alloc_named hX
    have bN : Blk w5 _ 64 (rsc ⟨8,c.tk.kd,0,[],[],0⟩ (.slice none 0 0) (.slice none 0 0)) := hnb
    have Bc := Bc.below hBx
    have bRc := bRc.below hBx
    have bO := bO.below hBx
    have hBc := hBc.trans (hBx.mono hBc.size)
    have hrs : RsR w5 R _ [⟨8,c.tk.kd,0,[],[],0⟩] := rsr_one (R := R) bN (BD.nil _ R) (FD.nil _ R) (fun hm => by have := hRl _ hm; omega)
    clear hX hBx hz5 hnb bN
    refine hK.out _ _ (⟨Bc.range,bO.range 0 [.int .i64 8,.int .i64 c.tk.kd,.int .u16 0,.slice none 0 0,.slice none 0 0,.int .i64 0] (fun j v hv => by rw [Nat.zero_add]; exact hv)⟩) (fun h => ?_)
    replace hHeld := h
    clear hK K h
    try simp only [Act.put,List.setIfInBounds_toArray,List.set_cons_zero,List.set_cons_succ])
  |(refine opn 3 fun K hK => ?_
    refine step_store_mid (by rfl) 35 _ _ (by rfl) (w.heap.size + 1) 0 (k8.cells c8).toArray (by rfl) (by rfl) (bRc.there 0 26 (by simp)) (by kernel_rfl) Bc.cr.one ?_
    generalize hX : World.setCells _ (w.heap.size + 1) 0 _ = w9
    have hlt9 := bRc.lt
    obtain ⟨hg9,bRn⟩ := put_named (vs := (k8.cells c8)) bRc hX rfl
    have Bc := Bc.other hg9 (by omega) hm1
    have bO := bO.kept hg9 (fun e => by injection e with e; omega)
    have hBc := hBc.grown hg9 hBc.size (fun k hk => by cases hk; omega)
    try have hrs := hrs.turned hg9 (fun k hk => .inl (by rw [← hk]; exact hm1))
    have bRc := bRn
    clear hX hg9 hlt9 bRn
    refine hK.out _ _ (⟨Bc.range,bO.range 0 [.int .i64 8,.int .i64 c.tk.kd,.int .u16 0,.slice none 0 0,.slice none 0 0,.int .i64 0] (fun j v hv => by rw [Nat.zero_add]; exact hv)⟩) (fun h => ?_)
    replace hHeld := h
    clear hK K h
    try simp only [Act.put,List.setIfInBounds_toArray,List.set_cons_zero,List.set_cons_succ])
  |refine rd2 2 3 ?_ ?_
  |refine rd1 3 ?_
  |refine rd1 2 ?_
  |(refine wpAnyH_done (by kernel_rfl) ?_ _
    go_wp2_with fail
    have hl := run_loadVar_row (P := Try.prog) _ (w.heap.size + 1) 35 35 _ (0,0) _ bRc Try.underlying35 rfl (by kernel_rfl)
    refine bodyPost_ret (by rw [results_cell_tmp rfl]; simp [asAddr,hl] <;> rfl) rfl ⟨by rw [HXP.out,HC8.out]; exact ⟨k8,_,rfl,Bc.cr.less hRs,hrs.less hRs⟩,hBc⟩)
theorem rexpire_any (c : Cl) (k : Cv) (R0 : List (Option Nat)) (now : Int) (w : World) (hC : Cr w R0 c k) (hR0 : ∀ i,some i ∈ R0 → i < w.heap.size) (hwr : IntKind.i64.wrap (now - c.since) = now - c.since) :
 Calls Try.prog 21 #[.agg (k.cells c).toArray,.int .i64 now] w fun e w' => (∃ k' r,e = .returned (.tuple #[.agg (k'.cells (expireP c now).c).toArray,r]) ∧ Cr w' R0 (expireP c now).c k' ∧ RsR w' R0 r (expireP c now).us) ∧ Below w.heap.size w w' := by
 by_cases hbz : c.busy = true
 ·by_cases hle : now - c.since ≤ 30000000
  ·exact rexp_early c k R0 now w hC hR0 hwr hbz hle
  ·exact rexp_late c k R0 now w hC hR0 hwr hbz hle
 ·exact rexp_idle c k R0 now w hC hR0 hwr (by simpa using hbz)
end Go.Proofs.Ytldcihjddebciaa
