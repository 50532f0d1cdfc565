/- client's reference: end, finish, fail, cancel. -/
import Derived.Test.YtldcihjddebciaaPCmE
set_option linter.unusedSimpArgs false
set_option linter.unusedVariables false
set_option maxRecDepth 100000
set_option maxHeartbeats 4000000
namespace Go.Proofs.Ytldcihjddebciaa
open Go.RowKit
theorem rend_0 (c : Cl) (k : Cv) (R0 : List (Option Nat)) (us : List Rs) (v : Value) (now : Int) (w : World) (hC : Cr w R0 c k) (hr : RsR w R0 v us) (hR0 : ∀ i,some i ∈ R0 → i < w.heap.size) (hw0 : c.wt = []) :
 Calls Try.prog 83 #[.agg (k.cells c).toArray,.int .i64 now,v] w fun e w' => Out3 w' R0 e ((⟨c,now,[],us⟩ : Sp).close) ∧ Below w.heap.size w w' := by
 obtain ⟨R,hRs,hm0,hm1,hRl,hRR,B0,bR0,hB0,hV3⟩ := pro2 hC hR0 [.int .i64 0,.int .i64 0,.int .i64 0,.int .u16 0,.int .u16 0,.int .u16 0,.slice none 0 0,.int .i64 0,.slice none 0 0,.bool false,.int .i64 0,.int .i64 0,.int .u16 0,.int .u16 0,.int .u64 0,.int .u64 0,.int .i64 0,.int .i64 0,.int .i64 0,.bool false,.slice none 0 0,.slice none 0 0,.bool false,.int .i64 0,.bool false,.slice none 0 0] 35
 have hr := hr.up hRR hB0
 have HV3 := Lib.hid hV3
 have HW0 := Lib.hid hw0
 clear hC hR0 hRR hV3 hw0
 go_enter Try.func83,Try.ntmps83
 go_upto_region 1 with fail
 generalize hX : World.alloc (World.alloc w _) _ = V at B0 bR0 hB0 HV3 hr ⊢
 clear hX
 have m22 := B0.blk.cell (j := 22) (v := .bool c.busy) rfl
 have z22 := B0.blk.frozen 22
 go_upto_region 2 with fail
 have B1 := B0.put_busy false
 have hg1 := set1 V ⟨w.heap.size,22,none⟩ (.bool false)
 have bR1 := bR0.kept hg1 (fun e => by injection e with e; simp only at e; omega)
 have hB1 := hB0.grown hg1 hB0.size (fun k hk => by cases hk; exact Nat.le_refl _)
 have hr1 := hr.turned hg1 (fun k hk => .inl (by rw [← hk]; exact hm0))
 generalize hW : World.setCell V _ _ = V1 at B1 bR1 hB1 hr1 ⊢
 clear hW m22 z22 hg1 B0 bR0 hB0 hr
 have hth := B1.blk.there 2 8 (by simp [Cv.cells,clc])
 go_upto_region 3 with (refine wpList_store_mid rfl 26 _ _ rfl w.heap.size 2 #[.int .i64 0,.int .u16 0,.int .u16 0,.int .u16 0,.slice none 0 0,.int .i64 0,.slice none 0 0,.bool false] rfl rfl hth (by kernel_rfl) (by simp [Value.oneCell']) ?_; simp only [Act.put]; generalize hW : World.setCells V1 w.heap.size 2 _ = V2; have HW := Lib.hid hW; clear hW)
 have B2 := B1.put_tk tk0 (BD.nil V1 R) (FD.nil V1 R)
 have hg2 := setCells_grown w.heap.size (tkc tk0 (.slice none 0 0) (.slice none 0 0)) 2 V1
 have e2 : V1.setCells w.heap.size 2 (tkc tk0 (.slice none 0 0) (.slice none 0 0)) = V2 := HW.out
 rw [e2] at B2 hg2
 have bR2 := bR1.kept hg2 (fun e => by injection e with e; omega)
 have hB2 := hB1.grown hg2 hB1.size (fun k hk => by cases hk; exact Nat.le_refl _)
 have hr2 := hr1.turned hg2 (fun k hk => .inl (by rw [← hk]; exact hm0))
 clear HW hth hg2 e2 B1 bR1 hB1 hr1
 have hth := B2.blk.there 10 12 (by simp [Cv.cells,clc])
 go_upto_region 4 with (refine wpList_store_mid rfl 32 _ _ rfl w.heap.size 10 #[.int .i64 0,.int .i64 0,.int .u16 0,.int .u16 0,.int .u64 0,.int .u64 0,.int .i64 0,.int .i64 0,.int .i64 0,.bool false,.slice none 0 0,.slice none 0 0] rfl rfl hth (by kernel_rfl) (by simp [Value.oneCell']) ?_; simp only [Act.put]; generalize hW : World.setCells V2 w.heap.size 10 _ = V3; have HW := Lib.hid hW; clear hW)
 have B3 := B2.put_ad pd0 (BD.nil V2 R) (SR.nil V2 5)
 have hg3 := setCells_grown w.heap.size (pdc pd0 (.slice none 0 0) (.slice none 0 0)) 10 V2
 have e3 : V2.setCells w.heap.size 10 (pdc pd0 (.slice none 0 0) (.slice none 0 0)) = V3 := HW.out
 rw [e3] at B3 hg3
 have bR3 := bR2.kept hg3 (fun e => by injection e with e; omega)
 have hB3 := hB2.grown hg3 hB2.size (fun k hk => by cases hk; exact Nat.le_refl _)
 have hr3 := hr2.turned hg3 (fun k hk => .inl (by rw [← hk]; exact hm0))
 clear HW hth hg3 e3 B2 bR2 hB2 hr2
 obtain ⟨c1,hc1⟩ : ∃ c1 : Cl,({ c with busy := false,tk := tk0,ad := pd0 } : Cl) = c1 := ⟨_,rfl⟩
 obtain ⟨k1,hk1⟩ : ∃ k1 : Cv,({ k with bv := .slice none 0 0,fv := .slice none 0 0,ab := .slice none 0 0,ai := .slice none 0 0 } : Cv) = k1 := ⟨_,rfl⟩
 replace B3 : Bx V3 w.heap.size R c1 k1 := by rw [← hc1,← hk1]; exact B3
 have hcl : (⟨c,now,[],us⟩ : Sp).close = ⟨c1,now,[],us⟩ := by rw [← hc1]; simp [Sp.close,HW0.out]
 have HCL := Lib.hid hcl
 have hw1 : c1.wt = [] := by rw [← hc1]; exact HW0.out
 have hq0 : k1.qs.length = 0 := by
  have := B3.cr.wt
  rw [hw1] at this
  simpa using this
 obtain ⟨wa,wc,ewv⟩ := B3.cr.wv.form
 rw [hq0] at ewv
 have m25 : V3.cell? ⟨w.heap.size,25,none⟩ = some (.slice wa 0 wc) := by rw [← ewv]; exact B3.blk.cell (j := 25) rfl
 have hrg := B3.range
 have hth := bR3.there 0 26 (by simp)
 have hone := B3.cr.one
 clear hc1 hk1 hcl hw1 hq0 ewv
 go_wp2_with (first | (refine wpList_load_mid rfl 35 _ rfl w.heap.size 0 rfl (k1.cells c1) _ hrg Try.underlying35 rfl (by kernel_rfl) ?_) | (refine wpList_store_mid rfl 35 _ _ rfl (w.heap.size + 1) 0 (k1.cells c1).toArray rfl rfl hth (by kernel_rfl) hone ?_; simp only [Act.put]; generalize hW : World.setCells V3 (w.heap.size + 1) 0 _ = V4; have HW := Lib.hid hW; clear hW))
 obtain ⟨hF,bR4⟩ := fin26 (o := .slice none 0 0) (ps := []) B3.cr (psr_nil V3 R) hr3 bR3 rfl hm1 hRs hB3 (by omega)
 rw [show V3.setCells (w.heap.size + 1) 0 (k1.cells c1) = V4 from HW.out] at hF bR4
 have hl := run_loadVar_row (P := Try.prog) _ (w.heap.size + 1) 35 35 _ (0,0) _ bR4 Try.underlying35 rfl (by kernel_rfl)
 exact bodyPost_ret (v := .tuple #[.agg (k1.cells c1).toArray,.slice none 0 0,v]) (by rw [results_cell_tmp2 rfl]; simp [asAddr,hl]) rfl ⟨by rw [HCL.out]; exact ⟨k1,_,_,rfl,hF.1,hF.2.1,hF.2.2.1⟩,hF.2.2.2⟩
theorem rend_1 (c : Cl) (k : Cv) (R0 : List (Option Nat)) (us : List Rs) (v : Value) (now : Int) (w : World) (hC : Cr w R0 c k) (hr : RsR w R0 v us) (hR0 : ∀ i,some i ∈ R0 → i < w.heap.size) (t : Tk) (l : List Tk) (hw0 : c.wt = t :: l) (hT : TkOk t) (hk : 1 ≤ t.kd ∧ t.kd ≤ 9) (hwl : l.length ≤ 1000) :
 Calls Try.prog 83 #[.agg (k.cells c).toArray,.int .i64 now,v] w fun e w' => Out3 w' R0 e ((⟨c,now,[],us⟩ : Sp).close) ∧ Below w.heap.size w w' := by
 obtain ⟨i0,hi0,hi1,hi2,hi3⟩ := info_parts Try.info_Task
 obtain ⟨R,hRs,hm0,hm1,hRl,hRR,B0,bR0,hB0,hV3⟩ := pro2 hC hR0 [.int .i64 0,.int .i64 0,.int .i64 0,.int .u16 0,.int .u16 0,.int .u16 0,.slice none 0 0,.int .i64 0,.slice none 0 0,.bool false,.int .i64 0,.int .i64 0,.int .u16 0,.int .u16 0,.int .u64 0,.int .u64 0,.int .i64 0,.int .i64 0,.int .i64 0,.bool false,.slice none 0 0,.slice none 0 0,.bool false,.int .i64 0,.bool false,.slice none 0 0] 35
 have hr := hr.up hRR hB0
 have HV3 := Lib.hid hV3
 have HW0 := Lib.hid hw0
 clear hC hR0 hRR hV3 hw0
 go_enter Try.func83,Try.ntmps83
 go_upto_region 1 with fail
 generalize hX : World.alloc (World.alloc w _) _ = V at B0 bR0 hB0 HV3 hr ⊢
 clear hX
 have m22 := B0.blk.cell (j := 22) (v := .bool c.busy) rfl
 have z22 := B0.blk.frozen 22
 go_upto_region 2 with fail
 have B1 := B0.put_busy false
 have hg1 := set1 V ⟨w.heap.size,22,none⟩ (.bool false)
 have bR1 := bR0.kept hg1 (fun e => by injection e with e; simp only at e; omega)
 have hB1 := hB0.grown hg1 hB0.size (fun k hk => by cases hk; exact Nat.le_refl _)
 have hr1 := hr.turned hg1 (fun k hk => .inl (by rw [← hk]; exact hm0))
 generalize hW : World.setCell V _ _ = V1 at B1 bR1 hB1 hr1 ⊢
 clear hW m22 z22 hg1 B0 bR0 hB0 hr
 have hth := B1.blk.there 2 8 (by simp [Cv.cells,clc])
 go_upto_region 3 with (refine wpList_store_mid rfl 26 _ _ rfl w.heap.size 2 #[.int .i64 0,.int .u16 0,.int .u16 0,.int .u16 0,.slice none 0 0,.int .i64 0,.slice none 0 0,.bool false] rfl rfl hth (by kernel_rfl) (by simp [Value.oneCell']) ?_; simp only [Act.put]; generalize hW : World.setCells V1 w.heap.size 2 _ = V2; have HW := Lib.hid hW; clear hW)
 have B2 := B1.put_tk tk0 (BD.nil V1 R) (FD.nil V1 R)
 have hg2 := setCells_grown w.heap.size (tkc tk0 (.slice none 0 0) (.slice none 0 0)) 2 V1
 have e2 : V1.setCells w.heap.size 2 (tkc tk0 (.slice none 0 0) (.slice none 0 0)) = V2 := HW.out
 rw [e2] at B2 hg2
 have bR2 := bR1.kept hg2 (fun e => by injection e with e; omega)
 have hB2 := hB1.grown hg2 hB1.size (fun k hk => by cases hk; exact Nat.le_refl _)
 have hr2 := hr1.turned hg2 (fun k hk => .inl (by rw [← hk]; exact hm0))
 clear HW hth hg2 e2 B1 bR1 hB1 hr1
 have hth := B2.blk.there 10 12 (by simp [Cv.cells,clc])
 go_upto_region 4 with (refine wpList_store_mid rfl 32 _ _ rfl w.heap.size 10 #[.int .i64 0,.int .i64 0,.int .u16 0,.int .u16 0,.int .u64 0,.int .u64 0,.int .i64 0,.int .i64 0,.int .i64 0,.bool false,.slice none 0 0,.slice none 0 0] rfl rfl hth (by kernel_rfl) (by simp [Value.oneCell']) ?_; simp only [Act.put]; generalize hW : World.setCells V2 w.heap.size 10 _ = V3; have HW := Lib.hid hW; clear hW)
 have B3 := B2.put_ad pd0 (BD.nil V2 R) (SR.nil V2 5)
 have hg3 := setCells_grown w.heap.size (pdc pd0 (.slice none 0 0) (.slice none 0 0)) 10 V2
 have e3 : V2.setCells w.heap.size 10 (pdc pd0 (.slice none 0 0) (.slice none 0 0)) = V3 := HW.out
 rw [e3] at B3 hg3
 have bR3 := bR2.kept hg3 (fun e => by injection e with e; omega)
 have hB3 := hB2.grown hg3 hB2.size (fun k hk => by cases hk; exact Nat.le_refl _)
 have hr3 := hr2.turned hg3 (fun k hk => .inl (by rw [← hk]; exact hm0))
 clear HW hth hg3 e3 B2 bR2 hB2 hr2
 obtain ⟨c1,hc1⟩ : ∃ c1 : Cl,({ c with busy := false,tk := tk0,ad := pd0 } : Cl) = c1 := ⟨_,rfl⟩
 obtain ⟨k1,hk1⟩ : ∃ k1 : Cv,({ k with bv := .slice none 0 0,fv := .slice none 0 0,ab := .slice none 0 0,ai := .slice none 0 0 } : Cv) = k1 := ⟨_,rfl⟩
 replace B3 : Bx V3 w.heap.size R c1 k1 := by rw [← hc1,← hk1]; exact B3
 have hcl : (⟨c,now,[],us⟩ : Sp).close = { (sp0 { c1 with wt := l } now).begin t with us := us } := by
  rw [← Sp.begin_us,← hc1]
  simp [Sp.close,HW0.out]
 have HCL := Lib.hid hcl
 have hw1 : c1.wt = t :: l := by rw [← hc1]; exact HW0.out
 obtain ⟨q,qs,hqs,rfl,rfl⟩ : ∃ q qs,k1.qs = q :: qs ∧ q.1 = t ∧ qs.map (·.1) = l := by
  have := B3.cr.wt
  rw [hw1] at this
  match hq : k1.qs,this with
  |q :: qs,h => exact ⟨q,qs,rfl,(List.cons.inj h).1,(List.cons.inj h).2⟩
 rw [List.length_map] at hwl
 have hwv := B3.cr.wv
 have hwi := B3.cr.wi
 have hwa := B3.cr.wa
 obtain ⟨wa,wc,ewv⟩ := hwv.form
 have hwc := B3.cr.wc
 rw [ewv] at hwv hwa hwc
 rw [hqs] at hwv hwi ewv hwa hwc
 simp only [List.length_cons] at hwv ewv hwa hwc
 have hap : Apart R (.slice wa (qs.length + 1) wc) := hwa.resolve_left (by simp)
 have hwi0 := hwi q (by simp)
 obtain ⟨a7,hsr7,hrun7,hlie7⟩ := sr_tail (n := qs.length) hwv hwc
 have hdrop : ((q :: qs).flatMap wenc).drop 8 = qs.flatMap wenc := by
  rw [List.flatMap_cons]
  exact List.drop_left' rfl
 rw [hdrop] at hsr7
 have hq7 : qs.length = 0 ∨ Apart R (.slice a7 qs.length (wc - 1)) := .inr fun k hk hm => hap k (hlie7 k hk) hm
 have hi7 : ∀ q' ∈ qs,BD V3 R q'.2 q'.1.vs ∧ q'.1.fo = [] := fun q' hq' => hwi q' (by simp [hq'])
 have hc7 : qs.length ≤ capV (.slice a7 qs.length (wc - 1)) := by simp only [capV] at hwc ⊢; omega
 obtain ⟨_,_,_,ao,cap,e,_,hcell⟩ := hwv
 cases e
 obtain ⟨b,off,rfl,hb,hcs⟩ := hcell (by omega)
 have hrq : V3.rangeAt b off (wenc q) := fun j v hv => hcs j v (by
  have hj : j < 8 := (List.getElem?_eq_some_iff.1 hv).1
  rw [List.flatMap_cons,List.getElem?_append_left (by exact hj)]
  exact hv)
 have m25 : V3.cell? ⟨w.heap.size,25,none⟩ = some (.slice (some ⟨b,off,none⟩) (qs.length + 1) wc) := by rw [← ewv]; exact B3.blk.cell (j := 25) rfl
 obtain ⟨N1,hN1⟩ : ∃ N1,qs.length + 1 = N1 := ⟨_,rfl⟩
 have g0 : decide (N1 = 0) = false := by simp; omega
 have g0' : decide ((N1 : Int) = 0) = false := by simp; omega
 have i0' : (0 : Int) < (N1 : Int) := by omega
 have i1 : 0 < N1 := by omega
 obtain ⟨M,hM⟩ : ∃ M,qs.length = M := ⟨_,rfl⟩
 obtain ⟨w1c,hw1c⟩ : ∃ x,wc - 1 = x := ⟨_,rfl⟩
 rw [hN1] at m25 hrun7
 rw [hM,hw1c] at hrun7 hsr7
 have hMl : M ≤ 1000 := by omega
 have HQ7 := Lib.hid (And.intro hq7 (And.intro hi7 hc7))
 have HM := Lib.hid hM
 have HW1 := Lib.hid hw1c
 have hqone : (wenc q).toArray.all (·.oneCell') = true := by
  obtain ⟨a1,c1,e1⟩ := (hwi q (by simp)).1.1.form
  simp [wenc,tkc,e1,Value.oneCell']
 have HWI := Lib.hid hwi0
 have HEWV := Lib.hid ewv
 have bT0 := Blk.new V3 26 [.int .i64 0,.int .u16 0,.int .u16 0,.int .u16 0,.slice none 0 0,.int .i64 0,.slice none 0 0,.bool false]
 have hth := bT0.there 0 8 (by simp)
 clear hc1 hk1 hcl hw1 hqs hwi hwa ewv hwc hap hwi0 hlie7 hdrop hq7 hi7 hc7 hcs hcell hN1 hM hw1c hwl
 go_upto_region 7 with (first | (refine wpList_load_mid rfl 26 _ rfl b off rfl (wenc q) _ hrq Try.underlying26 rfl (by kernel_rfl) ?_) | (refine wpList_store_mid rfl 26 _ _ rfl V3.heap.size 0 (wenc q).toArray rfl rfl hth (by kernel_rfl) hqone ?_; simp only [Act.put]; generalize hW : World.setCells _ V3.heap.size 0 _ = V4; have HW := Lib.hid hW; clear hW))
 have bT4 := bT0.putAll (vs := wenc q) rfl
 have hg4 := setCells_grown V3.heap.size (wenc q) 0 (V3.alloc (.cells #[.int .i64 0,.int .u16 0,.int .u16 0,.int .u16 0,.slice none 0 0,.int .i64 0,.slice none 0 0,.bool false] 26))
 rw [show World.setCells _ V3.heap.size 0 (wenc q) = V4 from HW.out] at bT4 hg4
 have hBV : Below V3.heap.size V3 V4 := ((Below.refl V3.heap.size V3).alloc (Nat.le_refl _) _).grown hg4 (by simp) (fun k hk => by cases hk; exact Nat.le_refl _)
 have B4 := B3.below hBV
 have bR4 := bR3.below hBV
 have hB4 := hB3.trans (hBV.mono hB3.size)
 have hr4 := hr3.below hBV
 have hb4 := HWI.out.1.below hBV
 have hsr4 := hsr7.below hBV
 have m25d := kc m25 hBV
 obtain ⟨TB,hTB⟩ : ∃ x,V3.heap.size = x := ⟨_,rfl⟩
 have hT3 := bR3.lt
 rw [hTB] at bT4 hT3 ⊢
 have hT4 := bT4.lt
 have HQB := Lib.hid (And.intro HQ7.out.1 (And.intro (fun q' hq' => And.intro ((HQ7.out.2.1 q' hq').1.below hBV) (HQ7.out.2.1 q' hq').2) HQ7.out.2.2))
 clear HW hth hrq hqone bT0 hg4 hBV hTB B3 bR3 hB3 hr3 HWI hsr7 m25 HQ7 g0 g0' i0'
 have hA := (Below.refl V4.heap.size V4).alloc (Nat.le_refl _) (.cells #[] 26)
 have m25a := kc m25d hA
 have B5a := B4.below hA
 go_upto_region 8 with (refine wpList_app0 rfl _ _ 33 rfl 26 i0 _ 8 80 Try.underlying33 hi0 hi1 hi2 hi3 rfl (by decide) V4.heap.size rfl (.slice a7 M w1c) M (qs.flatMap wenc) rfl (hsr4.below hA) (by omega) ?_; intro b5 c5 w5 hsr5 hc5 hB5 ho5; have B5 := B5a.below hB5; have m25c := B5.blk.cell (j := 25) (v := k1.wv) rfl; have z25 := B5.blk.frozen 25)
 have hbT5 := (bT4.below hA).below hB5
 have bR5 := (bR4.below hA).below hB5
 have hB5' := (hB4.trans (hA.mono hB4.size)).trans (hB5.mono (by simp; have := hB4.size; omega))
 have hr5 := (hr4.below hA).below hB5
 have hb5 := (hb4.below hA).below hB5
 have hi5 : ∀ q' ∈ qs,BD w5 R q'.2 q'.1.vs ∧ q'.1.fo = [] := fun q' hq' => ⟨((HQB.out.2.1 q' hq').1.below hA).below hB5,(HQB.out.2.1 q' hq').2⟩
 have B6 := B5.put_wt (v := .slice b5 M c5) (qs := qs) (by rw [HM.out]; exact hsr5) (.inr fun k hk hm => by
  have h3 := hRl k hm
  rcases ho5 with e | e
  ·rw [e] at hk; injection hk with hk; omega
  ·rw [e] at hk; injection hk with hk; simp at hk; omega) hi5 (by rw [HM.out]; exact hc5)
 have hg6 := set1 w5 ⟨w.heap.size,25,none⟩ (.slice b5 M c5)
 have bT6 := hbT5.kept hg6 (fun e => by injection e with e; simp only at e; omega)
 have bR6 := bR5.kept hg6 (fun e => by injection e with e; simp only at e; omega)
 have hB6 := hB5'.grown hg6 hB5'.size (fun k hk => by cases hk; exact Nat.le_refl _)
 have hr6 := hr5.turned hg6 (fun k hk => .inl (by rw [← hk]; exact hm0))
 have hb6 := hb5.turned hg6 (fun k hk => .inl (by rw [← hk]; exact hm0))
 generalize hW : World.setCell w5 _ _ = V6 at B6 bT6 bR6 hB6 hr6 hb6 ⊢
 clear hW hg6 hi5 hb5 hr5 hB5' bR5 hbT5 m25c z25 B5 hsr5 hc5 hB5 ho5 B5a m25a hA B4 bR4 hB4 hr4 hb4 hsr4 m25d hT4 bT4 HQB hrun7
 obtain ⟨c6,hc6⟩ : ∃ c6 : Cl,{ c1 with wt := qs.map (·.1) } = c6 := ⟨_,rfl⟩
 obtain ⟨k6,hk6⟩ : ∃ k6 : Cv,{ k1 with wv := .slice b5 M c5,qs := qs } = k6 := ⟨_,rfl⟩
 rw [hc6,hk6] at B6
 have hcl := HCL.out
 rw [hc6] at hcl
 replace HCL := Lib.hid hcl
 clear hc6 hk6 hcl
 have hrg := B6.range
 have hrt := bT6.range 0 (wenc q) (fun j v hv => by rw [Nat.zero_add]; exact hv)
 go_wp2_with (first | (refine wpList_load_mid rfl 35 _ rfl w.heap.size 0 rfl (k6.cells c6) _ hrg Try.underlying35 rfl (by kernel_rfl) ?_) | (refine wpList_load_mid rfl 26 _ rfl TB 0 rfl (wenc q) _ hrt Try.underlying26 rfl (by kernel_rfl) ?_))
 refine (rbegin_any c6 k6 R q.1 q.2 now V6 B6.cr hb6 hT hk (fun i hi => by have := hRl i hi; have := bR6.lt; omega)).mono ?_
 rintro e w8 ⟨⟨k2,o,rfl,hC1,hps⟩,hB8⟩
 obtain ⟨x1,hx1⟩ : ∃ x1 : Sp,(sp0 c6 now).begin q.1 = x1 := ⟨_,rfl⟩
 have hcl := HCL.out
 rw [hx1] at hC1 hps hcl ⊢
 replace HCL := Lib.hid hcl
 have B8 := B6.below hB8
 have bR8 := bR6.below hB8
 have hr8 := hr6.below hB8
 have hl8 := hB6.trans (hB8.mono hB6.size)
 clear hx1 hcl hrg hrt B6 bR6 hB6 hb6 hr6 hB8 bT6
 have hth := B8.blk.there 0 26 (by simp [Cv.cells,clc])
 have hone := hC1.one
 go_upto_region 9 with (refine wpList_store_mid rfl 35 _ _ rfl w.heap.size 0 (k2.cells x1.c).toArray rfl rfl hth (by kernel_rfl) hone ?_; simp only [Act.put]; generalize hW : World.setCells w8 w.heap.size 0 _ = w9; have HW := Lib.hid hW; clear hW)
 have B9 := B8.put_cl hC1
 have hg9 := setCells_grown w.heap.size (k2.cells x1.c) 0 w8
 have hps9 := hps.turned hg9 (fun k hk => .inl (by rw [← hk]; exact hm0))
 have hr9 := hr8.turned hg9 (fun k hk => .inl (by rw [← hk]; exact hm0))
 have bR9 := bR8.kept hg9 (fun e => by injection e with e; omega)
 have hl9 := hl8.grown hg9 hl8.size (fun k hk => by cases hk; exact Nat.le_refl _)
 have e1 : w8.setCells w.heap.size 0 (k2.cells x1.c) = w9 := HW.out
 rw [e1] at B9 hps9 bR9 hl9 hr9
 clear HW e1 hg9 B8 hps bR8 hl8 hth hr8
 have hrg := B9.range
 have hth := bR9.there 0 26 (by simp)
 go_wp2_with (first | (refine wpList_load_mid rfl 35 _ rfl w.heap.size 0 rfl (k2.cells x1.c) _ hrg Try.underlying35 rfl (by kernel_rfl) ?_) | (refine wpList_store_mid rfl 35 _ _ rfl (w.heap.size + 1) 0 (k2.cells x1.c).toArray rfl rfl hth (by kernel_rfl) hone ?_; simp only [Act.put]; generalize hW : World.setCells w9 (w.heap.size + 1) 0 _ = w10; have HW := Lib.hid hW; clear hW))
 obtain ⟨hF,bR10⟩ := fin26 B9.cr hps9 hr9 bR9 rfl hm1 hRs hl9 (by omega)
 rw [show w9.setCells (w.heap.size + 1) 0 (k2.cells x1.c) = w10 from HW.out] at hF bR10
 have hl := run_loadVar_row (P := Try.prog) _ (w.heap.size + 1) 35 35 _ (0,0) _ bR10 Try.underlying35 rfl (by kernel_rfl)
 exact bodyPost_ret (v := .tuple #[.agg (k2.cells x1.c).toArray,o,v]) (by rw [results_cell_tmp2 rfl]; simp [asAddr,hl]) rfl ⟨by rw [HCL.out]; exact ⟨k2,_,_,rfl,hF.1,hF.2.1,hF.2.2.1⟩,hF.2.2.2⟩
theorem rend_any (c : Cl) (k : Cv) (R0 : List (Option Nat)) (us : List Rs) (v : Value) (now : Int) (w : World) (hC : Cr w R0 c k) (hr : RsR w R0 v us) (hR0 : ∀ i,some i ∈ R0 → i < w.heap.size) (hw : ∀ t ∈ c.wt,TkOk t ∧ 1 ≤ t.kd ∧ t.kd ≤ 9) (hwl : c.wt.length ≤ 1000) :
 Calls Try.prog 83 #[.agg (k.cells c).toArray,.int .i64 now,v] w fun e w' => Out3 w' R0 e ((⟨c,now,[],us⟩ : Sp).close) ∧ Below w.heap.size w w' := by
 cases hc : c.wt with
 |nil => exact rend_0 c k R0 us v now w hC hr hR0 hc
 |cons t l =>
  have h1 := hw t (by rw [hc]; simp)
  exact rend_1 c k R0 us v now w hC hr hR0 t l hc h1.1 h1.2 (by rw [hc] at hwl; simp at hwl; omega)
theorem rfinish_z (c : Cl) (k : Cv) (R0 : List (Option Nat)) (r : Rs) (bv fv : Value) (now : Int) (w : World) (hC : Cr w R0 c k) (hb : BD w R0 bv r.vs) (hf : FD w R0 fv r.fo) (hR0 : ∀ i,some i ∈ R0 → i < w.heap.size) (hw : ∀ t ∈ c.wt,TkOk t ∧ 1 ≤ t.kd ∧ t.kd ≤ 9) (hwl : c.wt.length ≤ 1000) (hz : r.ha = 0) :
 Calls Try.prog 81 #[.agg (k.cells c).toArray,.int .i64 now,.agg (rsc r bv fv).toArray] w fun e w' => Out3 w' R0 e ((sp0 c now).endd r) ∧ Below w.heap.size w w' := by
 have hend : (sp0 c now).endd r = (⟨c,now,[],[({ r with tk := c.tk.kd,ha := c.tk.ha } : Rs)]⟩ : Sp).close := by
  simp only [Sp.endd,Sp.report,sp0,if_pos hz,List.nil_append]
 have HEND := Lib.hid hend
 obtain ⟨ba,bc,rfl⟩ := hb.1.form
 obtain ⟨fa,fc,rfl⟩ := hf.1.form
 obtain ⟨BL,hBL⟩ : ∃ L,r.vs.length = L := ⟨_,rfl⟩
 obtain ⟨FL,hFL⟩ : ∃ L,r.fo.length = L := ⟨_,rfl⟩
 rw [hBL] at hb ⊢
 rw [hFL] at hf ⊢
 obtain ⟨R,hRs,hm0,hm1,hm2,hRl,hRR,B0,bP0,bR0,hB0,hV3⟩ := pro3 hC hR0 (rsc r (.slice ba BL bc) (.slice fa FL fc)) 64 [.int .i64 0,.int .i64 0,.int .i64 0,.int .u16 0,.int .u16 0,.int .u16 0,.slice none 0 0,.int .i64 0,.slice none 0 0,.bool false,.int .i64 0,.int .i64 0,.int .u16 0,.int .u16 0,.int .u64 0,.int .u64 0,.int .i64 0,.int .i64 0,.int .i64 0,.bool false,.slice none 0 0,.slice none 0 0,.bool false,.int .i64 0,.bool false,.slice none 0 0] 35
 have hb := hb.up hRR hB0
 have hf := hf.up hRR hB0
 have HV3 := Lib.hid hV3
 have g1 : decide (r.ha = 0) = true := by simpa using hz
 have g2 : decide ((r.ha : Int) = 0) = true := by simp; omega
 have g3 : ((r.ha : Int) == 0) = true := by simp; omega
 have HW1 := Lib.hid hw
 have HWL := Lib.hid hwl
 have hz' := Lib.hid hz
 clear hC hR0 hRR hV3 hBL hFL hend hw hwl hz
 go_enter Try.func81,Try.ntmps81
 go_upto_region 1 with fail
 generalize hX : World.alloc (World.alloc (World.alloc w _) _) _ = V at B0 bP0 bR0 hB0 HV3 hb hf ⊢
 clear hX
 have m2 := B0.blk.cell (j := 2) (v := .int .i64 c.tk.kd) rfl
 have q1 := bP0.cell (j := 1) (v := .int .i64 r.tk) rfl
 have z1 := bP0.frozen 1
 go_upto_region 2 with fail
 have bP1 : Blk (V.setCell ⟨w.heap.size + 1,1,none⟩ (.int .i64 c.tk.kd)) (w.heap.size + 1) 64 (rsc { r with tk := c.tk.kd } (.slice ba BL bc) (.slice fa FL fc)) := bP0.setAt (j := 1) (.int .i64 c.tk.kd)
 have hg1 := set1 V ⟨w.heap.size + 1,1,none⟩ (.int .i64 c.tk.kd)
 have B1 := B0.other hg1 (by simp) hm1
 have bR1 := bR0.kept hg1 (fun e => by injection e with e; simp only at e; omega)
 have hB1 := hB0.grown hg1 hB0.size (fun k hk => by cases hk; simp only; omega)
 have hb1 := hb.turned hg1 (fun k hk => .inl (by rw [← hk]; exact hm1))
 have hf1 := hf.turned hg1 (fun k hk => .inl (by rw [← hk]; exact hm1))
 generalize hW : World.setCell V _ _ = V1 at bP1 B1 bR1 hB1 hb1 hf1 ⊢
 clear hW m2 q1 z1 hg1 B0 bP0 bR0 hB0 hb hf
 have q2 := bP1.cell (j := 2) (v := .int .u16 r.ha) rfl
 have z2 := bP1.frozen 2
 have m5 := B1.blk.cell (j := 5) (v := .int .u16 c.tk.ha) rfl
 go_upto_region 4 with fail
 have bP2 : Blk (V1.setCell ⟨w.heap.size + 1,2,none⟩ (.int .u16 c.tk.ha)) (w.heap.size + 1) 64 [.int .i64 r.kd,.int .i64 c.tk.kd,.int .u16 c.tk.ha,.slice ba BL bc,.slice fa FL fc,.int .i64 r.co] := bP1.setAt (j := 2) (.int .u16 c.tk.ha)
 have hg1 := set1 V1 ⟨w.heap.size + 1,2,none⟩ (.int .u16 c.tk.ha)
 have B2 := B1.other hg1 (by simp) hm1
 have bR2 := bR1.kept hg1 (fun e => by injection e with e; simp only at e; omega)
 have hB2 := hB1.grown hg1 hB1.size (fun k hk => by cases hk; simp only; omega)
 have hb2 := hb1.turned hg1 (fun k hk => .inl (by rw [← hk]; exact hm1))
 have hf2 := hf1.turned hg1 (fun k hk => .inl (by rw [← hk]; exact hm1))
 generalize hW : World.setCell V1 _ _ = V2 at bP2 B2 bR2 hB2 hb2 hf2 ⊢
 clear hW m5 z2 hg1 B1 bP1 bR1 hB1 hb1 hf1 q2 g1 g2
 have hrg := B2.range
 have hrp := bP2.range 0 [.int .i64 r.kd,.int .i64 c.tk.kd,.int .u16 c.tk.ha,.slice ba BL bc,.slice fa FL fc,.int .i64 r.co] (fun j v hv => by rw [Nat.zero_add]; exact hv)
 go_wp2_with (first | (refine wpList_load_mid rfl 35 _ rfl w.heap.size 0 rfl (k.cells c) _ hrg Try.underlying35 rfl (by kernel_rfl) ?_) | (refine wpList_load_mid rfl 64 _ rfl (w.heap.size + 1) 0 rfl [.int .i64 r.kd,.int .i64 c.tk.kd,.int .u16 c.tk.ha,.slice ba BL bc,.slice fa FL fc,.int .i64 r.co] _ hrp Try.underlying64 rfl (by kernel_rfl) ?_))
 have hA := (Below.refl V2.heap.size V2).alloc (Nat.le_refl _) (.cells #[.int .i64 r.kd,.int .i64 c.tk.kd,.int .u16 c.tk.ha,.slice ba BL bc,.slice fa FL fc,.int .i64 r.co] 64)
 have bO := Blk.new V2 64 [.int .i64 r.kd,.int .i64 c.tk.kd,.int .u16 c.tk.ha,.slice ba BL bc,.slice fa FL fc,.int .i64 r.co]
 have hrs := rsr_one (r := ({ r with tk := c.tk.kd,ha := c.tk.ha } : Rs)) (R := R) bO (hb2.below hA) (hf2.below hA) (fun hm => by have := hRl _ hm; have := bR2.lt; omega)
 have B3 := B2.below hA
 have bR3 := bR2.below hA
 have hB3 := hB2.trans (hA.mono hB2.size)
 clear hrg hrp hA bO B2 bR2 hB2 hb2 hf2 bP2
 refine (rend_any c k R [({ r with tk := c.tk.kd,ha := c.tk.ha } : Rs)] _ now _ B3.cr hrs (fun i hi => by have := hRl i hi; have := bR3.lt; omega) HW1.out HWL.out).mono ?_
 rintro e w1 ⟨⟨k1,o,r1,rfl,hC1,hps,hrs1⟩,hB4⟩
 obtain ⟨x1,hx1⟩ : ∃ x1 : Sp,(⟨c,now,[],[({ r with tk := c.tk.kd,ha := c.tk.ha } : Rs)]⟩ : Sp).close = x1 := ⟨_,rfl⟩
 rw [hx1] at hC1 hps hrs1 ⊢
 have HX := Lib.hid hx1
 have bR1 := bR3.below hB4
 have hl1 := hB3.trans (hB4.mono hB3.size)
 have hth := bR1.there 0 26 (by simp)
 have hone := hC1.one
 clear hx1 hB4 hrs B3 bR3 hB3
 go_wp2_with (refine wpList_store_mid rfl 35 _ _ rfl (w.heap.size + 2) 0 (k1.cells x1.c).toArray rfl rfl hth (by kernel_rfl) hone ?_; simp only [Act.put]; generalize hW : World.setCells w1 (w.heap.size + 2) 0 _ = w2; have HW := Lib.hid hW; clear hW)
 obtain ⟨hF,bR4⟩ := fin26 hC1 hps hrs1 bR1 rfl hm2 hRs hl1 (by omega)
 rw [show w1.setCells (w.heap.size + 2) 0 (k1.cells x1.c) = w2 from HW.out] at hF bR4
 have hl := run_loadVar_row (P := Try.prog) _ (w.heap.size + 2) 35 35 _ (0,0) _ bR4 Try.underlying35 rfl (by kernel_rfl)
 exact bodyPost_ret (v := .tuple #[.agg (k1.cells x1.c).toArray,o,r1]) (by rw [results_cell_tmp2 rfl]; simp [asAddr,hl]) rfl ⟨by rw [HEND.out,HX.out]; exact ⟨k1,_,_,rfl,hF.1,hF.2.1,hF.2.2.1⟩,hF.2.2.2⟩
theorem rfinish_n (c : Cl) (k : Cv) (R0 : List (Option Nat)) (r : Rs) (bv fv : Value) (now : Int) (w : World) (hC : Cr w R0 c k) (hb : BD w R0 bv r.vs) (hf : FD w R0 fv r.fo) (hR0 : ∀ i,some i ∈ R0 → i < w.heap.size) (hw : ∀ t ∈ c.wt,TkOk t ∧ 1 ≤ t.kd ∧ t.kd ≤ 9) (hwl : c.wt.length ≤ 1000) (hz : ¬ r.ha = 0) :
 Calls Try.prog 81 #[.agg (k.cells c).toArray,.int .i64 now,.agg (rsc r bv fv).toArray] w fun e w' => Out3 w' R0 e ((sp0 c now).endd r) ∧ Below w.heap.size w w' := by
 have hend : (sp0 c now).endd r = (⟨c,now,[],[({ r with tk := c.tk.kd } : Rs)]⟩ : Sp).close := by
  simp only [Sp.endd,Sp.report,sp0,if_neg hz,List.nil_append]
 have HEND := Lib.hid hend
 obtain ⟨ba,bc,rfl⟩ := hb.1.form
 obtain ⟨fa,fc,rfl⟩ := hf.1.form
 obtain ⟨BL,hBL⟩ : ∃ L,r.vs.length = L := ⟨_,rfl⟩
 obtain ⟨FL,hFL⟩ : ∃ L,r.fo.length = L := ⟨_,rfl⟩
 rw [hBL] at hb ⊢
 rw [hFL] at hf ⊢
 obtain ⟨R,hRs,hm0,hm1,hm2,hRl,hRR,B0,bP0,bR0,hB0,hV3⟩ := pro3 hC hR0 (rsc r (.slice ba BL bc) (.slice fa FL fc)) 64 [.int .i64 0,.int .i64 0,.int .i64 0,.int .u16 0,.int .u16 0,.int .u16 0,.slice none 0 0,.int .i64 0,.slice none 0 0,.bool false,.int .i64 0,.int .i64 0,.int .u16 0,.int .u16 0,.int .u64 0,.int .u64 0,.int .i64 0,.int .i64 0,.int .i64 0,.bool false,.slice none 0 0,.slice none 0 0,.bool false,.int .i64 0,.bool false,.slice none 0 0] 35
 have hb := hb.up hRR hB0
 have hf := hf.up hRR hB0
 have HV3 := Lib.hid hV3
 have g1 : decide (r.ha = 0) = false := by simpa using hz
 have g2 : decide ((r.ha : Int) = 0) = false := by simp; omega
 have g3 : ((r.ha : Int) == 0) = false := by simp; omega
 have HW1 := Lib.hid hw
 have HWL := Lib.hid hwl
 have hz' := Lib.hid hz
 clear hC hR0 hRR hV3 hBL hFL hend hw hwl hz
 go_enter Try.func81,Try.ntmps81
 go_upto_region 1 with fail
 generalize hX : World.alloc (World.alloc (World.alloc w _) _) _ = V at B0 bP0 bR0 hB0 HV3 hb hf ⊢
 clear hX
 have m2 := B0.blk.cell (j := 2) (v := .int .i64 c.tk.kd) rfl
 have q1 := bP0.cell (j := 1) (v := .int .i64 r.tk) rfl
 have z1 := bP0.frozen 1
 go_upto_region 2 with fail
 have bP1 : Blk (V.setCell ⟨w.heap.size + 1,1,none⟩ (.int .i64 c.tk.kd)) (w.heap.size + 1) 64 (rsc { r with tk := c.tk.kd } (.slice ba BL bc) (.slice fa FL fc)) := bP0.setAt (j := 1) (.int .i64 c.tk.kd)
 have hg1 := set1 V ⟨w.heap.size + 1,1,none⟩ (.int .i64 c.tk.kd)
 have B1 := B0.other hg1 (by simp) hm1
 have bR1 := bR0.kept hg1 (fun e => by injection e with e; simp only at e; omega)
 have hB1 := hB0.grown hg1 hB0.size (fun k hk => by cases hk; simp only; omega)
 have hb1 := hb.turned hg1 (fun k hk => .inl (by rw [← hk]; exact hm1))
 have hf1 := hf.turned hg1 (fun k hk => .inl (by rw [← hk]; exact hm1))
 generalize hW : World.setCell V _ _ = V1 at bP1 B1 bR1 hB1 hb1 hf1 ⊢
 clear hW m2 q1 z1 hg1 B0 bP0 bR0 hB0 hb hf
 have q2 := bP1.cell (j := 2) (v := .int .u16 r.ha) rfl
 go_upto_region 4 with fail
 obtain ⟨V2,hV2⟩ : ∃ V2,V1 = V2 := ⟨_,rfl⟩
 subst hV2
 have bP2 : Blk V1 (w.heap.size + 1) 64 [.int .i64 r.kd,.int .i64 c.tk.kd,.int .u16 r.ha,.slice ba BL bc,.slice fa FL fc,.int .i64 r.co] := bP1
 have B2 := B1
 have bR2 := bR1
 have hB2 := hB1
 have hb2 := hb1
 have hf2 := hf1
 clear q2 B1 bP1 bR1 hB1 hb1 hf1 g1 g2
 have hrg := B2.range
 have hrp := bP2.range 0 [.int .i64 r.kd,.int .i64 c.tk.kd,.int .u16 r.ha,.slice ba BL bc,.slice fa FL fc,.int .i64 r.co] (fun j v hv => by rw [Nat.zero_add]; exact hv)
 go_wp2_with (first | (refine wpList_load_mid rfl 35 _ rfl w.heap.size 0 rfl (k.cells c) _ hrg Try.underlying35 rfl (by kernel_rfl) ?_) | (refine wpList_load_mid rfl 64 _ rfl (w.heap.size + 1) 0 rfl [.int .i64 r.kd,.int .i64 c.tk.kd,.int .u16 r.ha,.slice ba BL bc,.slice fa FL fc,.int .i64 r.co] _ hrp Try.underlying64 rfl (by kernel_rfl) ?_))
 have hA := (Below.refl V1.heap.size V1).alloc (Nat.le_refl _) (.cells #[.int .i64 r.kd,.int .i64 c.tk.kd,.int .u16 r.ha,.slice ba BL bc,.slice fa FL fc,.int .i64 r.co] 64)
 have bO := Blk.new V1 64 [.int .i64 r.kd,.int .i64 c.tk.kd,.int .u16 r.ha,.slice ba BL bc,.slice fa FL fc,.int .i64 r.co]
 have hrs := rsr_one (r := ({ r with tk := c.tk.kd } : Rs)) (R := R) bO (hb2.below hA) (hf2.below hA) (fun hm => by have := hRl _ hm; have := bR2.lt; omega)
 have B3 := B2.below hA
 have bR3 := bR2.below hA
 have hB3 := hB2.trans (hA.mono hB2.size)
 clear hrg hrp hA bO B2 bR2 hB2 hb2 hf2 bP2
 refine (rend_any c k R [({ r with tk := c.tk.kd } : Rs)] _ now _ B3.cr hrs (fun i hi => by have := hRl i hi; have := bR3.lt; omega) HW1.out HWL.out).mono ?_
 rintro e w1 ⟨⟨k1,o,r1,rfl,hC1,hps,hrs1⟩,hB4⟩
 obtain ⟨x1,hx1⟩ : ∃ x1 : Sp,(⟨c,now,[],[({ r with tk := c.tk.kd } : Rs)]⟩ : Sp).close = x1 := ⟨_,rfl⟩
 rw [hx1] at hC1 hps hrs1 ⊢
 have HX := Lib.hid hx1
 have bR1 := bR3.below hB4
 have hl1 := hB3.trans (hB4.mono hB3.size)
 have hth := bR1.there 0 26 (by simp)
 have hone := hC1.one
 clear hx1 hB4 hrs B3 bR3 hB3
 go_wp2_with (refine wpList_store_mid rfl 35 _ _ rfl (w.heap.size + 2) 0 (k1.cells x1.c).toArray rfl rfl hth (by kernel_rfl) hone ?_; simp only [Act.put]; generalize hW : World.setCells w1 (w.heap.size + 2) 0 _ = w2; have HW := Lib.hid hW; clear hW)
 obtain ⟨hF,bR4⟩ := fin26 hC1 hps hrs1 bR1 rfl hm2 hRs hl1 (by omega)
 rw [show w1.setCells (w.heap.size + 2) 0 (k1.cells x1.c) = w2 from HW.out] at hF bR4
 have hl := run_loadVar_row (P := Try.prog) _ (w.heap.size + 2) 35 35 _ (0,0) _ bR4 Try.underlying35 rfl (by kernel_rfl)
 exact bodyPost_ret (v := .tuple #[.agg (k1.cells x1.c).toArray,o,r1]) (by rw [results_cell_tmp2 rfl]; simp [asAddr,hl]) rfl ⟨by rw [HEND.out,HX.out]; exact ⟨k1,_,_,rfl,hF.1,hF.2.1,hF.2.2.1⟩,hF.2.2.2⟩
theorem rfinish_any (c : Cl) (k : Cv) (R0 : List (Option Nat)) (r : Rs) (bv fv : Value) (now : Int) (w : World) (hC : Cr w R0 c k) (hb : BD w R0 bv r.vs) (hf : FD w R0 fv r.fo) (hR0 : ∀ i,some i ∈ R0 → i < w.heap.size) (hw : ∀ t ∈ c.wt,TkOk t ∧ 1 ≤ t.kd ∧ t.kd ≤ 9) (hwl : c.wt.length ≤ 1000) :
 Calls Try.prog 81 #[.agg (k.cells c).toArray,.int .i64 now,.agg (rsc r bv fv).toArray] w fun e w' => Out3 w' R0 e ((sp0 c now).endd r) ∧ Below w.heap.size w w' := by
 by_cases hz : r.ha = 0
 ·exact rfinish_z c k R0 r bv fv now w hC hb hf hR0 hw hwl hz
 ·exact rfinish_n c k R0 r bv fv now w hC hb hf hR0 hw hwl hz
theorem rfail_any (c : Cl) (k : Cv) (R0 : List (Option Nat)) (code : Int) (now : Int) (w : World) (hC : Cr w R0 c k) (hR0 : ∀ i,some i ∈ R0 → i < w.heap.size) (hw : ∀ t ∈ c.wt,TkOk t ∧ 1 ≤ t.kd ∧ t.kd ≤ 9) (hwl : c.wt.length ≤ 1000) :
 Calls Try.prog 84 #[.agg (k.cells c).toArray,.int .i64 now,.int .i64 code] w fun e w' => Out3 w' R0 e ((sp0 c now).fail code) ∧ Below w.heap.size w w' := by
 obtain ⟨R,hRs,hm0,hm1,hRl,hRR,B0,bR0,hB0,hV3⟩ := pro2 hC hR0 [.int .i64 0,.int .i64 0,.int .i64 0,.int .u16 0,.int .u16 0,.int .u16 0,.slice none 0 0,.int .i64 0,.slice none 0 0,.bool false,.int .i64 0,.int .i64 0,.int .u16 0,.int .u16 0,.int .u64 0,.int .u64 0,.int .i64 0,.int .i64 0,.int .i64 0,.bool false,.slice none 0 0,.slice none 0 0,.bool false,.int .i64 0,.bool false,.slice none 0 0] 35
 have HV3 := Lib.hid hV3
 have HW1 := Lib.hid hw
 have HWL := Lib.hid hwl
 clear hC hR0 hRR hV3 hw hwl
 go_enter Try.func84,Try.ntmps84
 go_upto_region 1 with fail
 generalize hX : World.alloc (World.alloc w _) _ = V at B0 bR0 hB0 HV3 ⊢
 clear hX
 have hrg := B0.range
 go_wp2_with (refine wpList_load_mid rfl 35 _ rfl w.heap.size 0 rfl (k.cells c) _ hrg Try.underlying35 rfl (by kernel_rfl) ?_)
 refine (rfinish_any c k R ⟨5,0,0,[],[],code⟩ (.slice none 0 0) (.slice none 0 0) now V B0.cr (BD.nil V R) (FD.nil V R) (fun i hi => by have := hRl i hi; have := bR0.lt; omega) HW1.out HWL.out).mono ?_
 clear hrg
 rintro e w1 ⟨⟨k1,o,r1,rfl,hC1,hps,hrs1⟩,hB4⟩
 obtain ⟨x1,hx1⟩ : ∃ x1 : Sp,(sp0 c now).endd ⟨5,0,0,[],[],code⟩ = x1 := ⟨_,rfl⟩
 rw [hx1] at hC1 hps hrs1 ⊢
 have HX := Lib.hid hx1
 have bRx := bR0.below hB4
 have hl1 := hB0.trans (hB4.mono hB0.size)
 have hth := bRx.there 0 26 (by simp)
 have hone := hC1.one
 clear hx1 hB4
 go_wp2_with (refine wpList_store_mid rfl 35 _ _ rfl (w.heap.size + 1) 0 (k1.cells x1.c).toArray rfl rfl hth (by kernel_rfl) hone ?_; simp only [Act.put]; generalize hW : World.setCells w1 (w.heap.size + 1) 0 _ = w2; have HW := Lib.hid hW; clear hW)
 obtain ⟨hF,bR4⟩ := fin26 hC1 hps hrs1 bRx rfl hm1 hRs hl1 (by omega)
 rw [show w1.setCells (w.heap.size + 1) 0 (k1.cells x1.c) = w2 from HW.out] at hF bR4
 have hl := run_loadVar_row (P := Try.prog) _ (w.heap.size + 1) 35 35 _ (0,0) _ bR4 Try.underlying35 rfl (by kernel_rfl)
 exact bodyPost_ret (v := .tuple #[.agg (k1.cells x1.c).toArray,o,r1]) (by rw [results_cell_tmp2 rfl]; simp [asAddr,hl]) rfl ⟨by rw [Sp.fail,HX.out]; exact ⟨k1,_,_,rfl,hF.1,hF.2.1,hF.2.2.1⟩,hF.2.2.2⟩
theorem rcancel_any (c : Cl) (k : Cv) (R0 : List (Option Nat)) (code : Int) (now : Int) (w : World) (hC : Cr w R0 c k) (hR0 : ∀ i,some i ∈ R0 → i < w.heap.size) :
 Calls Try.prog 82 #[.agg (k.cells c).toArray,.int .i64 now,.int .i64 code] w fun e w' => Out3 w' R0 e ((sp0 c now).cancel code) ∧ Below w.heap.size w w' := by
 obtain ⟨R,hRs,hm0,hm1,hRl,hRR,B0,bR0,hB0,hV3⟩ := pro2 hC hR0 [.int .i64 0,.int .i64 0,.int .i64 0,.int .u16 0,.int .u16 0,.int .u16 0,.slice none 0 0,.int .i64 0,.slice none 0 0,.bool false,.int .i64 0,.int .i64 0,.int .u16 0,.int .u16 0,.int .u64 0,.int .u64 0,.int .i64 0,.int .i64 0,.int .i64 0,.bool false,.slice none 0 0,.slice none 0 0,.bool false,.int .i64 0,.bool false,.slice none 0 0] 35
 have HV3 := Lib.hid hV3
 have hcan : ∀ c1 : Cl,{ c with tk := { c.tk with bad := true } } = c1 → (sp0 c now).cancel code = { (sp0 c1 now).send { pd0 with kd := 24 } with us := [⟨5,c.tk.kd,c.tk.ha,[],[],code⟩] } := fun c1 e => by
  rw [← e]
  simp [Sp.cancel,Sp.send,Sp.report,sp0]
 have HCAN := Lib.hid hcan
 clear hC hR0 hRR hV3 hcan
 go_enter Try.func82,Try.ntmps82
 go_upto_region 1 with fail
 generalize hX : World.alloc (World.alloc w _) _ = V at B0 bR0 hB0 HV3 ⊢
 clear hX
 have m2 := B0.blk.cell (j := 2) (v := .int .i64 c.tk.kd) rfl
 have m5 := B0.blk.cell (j := 5) (v := .int .u16 c.tk.ha) rfl
 go_upto_region 2 with fail
 have hA := (Below.refl V.heap.size V).alloc (Nat.le_refl _) (.cells #[.int .i64 5,.int .i64 c.tk.kd,.int .u16 c.tk.ha,.slice none 0 0,.slice none 0 0,.int .i64 code] 64)
 have bO := Blk.new V 64 [.int .i64 5,.int .i64 c.tk.kd,.int .u16 c.tk.ha,.slice none 0 0,.slice none 0 0,.int .i64 code]
 have hrs := rsr_one (r := ⟨5,c.tk.kd,c.tk.ha,[],[],code⟩) (R := R) bO (BD.nil _ R) (FD.nil _ R) (fun hm => by have := hRl _ hm; have := bR0.lt; omega)
 have B1 := B0.below hA
 have bR1 := bR0.below hA
 have hB1 := hB0.trans (hA.mono hB0.size)
 generalize hW : World.alloc V _ = V1 at hrs B1 bR1 hB1 ⊢
 clear hW hA bO B0 bR0 hB0 m2 m5
 have m9 := B1.blk.cell (j := 9) (v := .bool c.tk.bad) rfl
 have z9 := B1.blk.frozen 9
 go_upto_region 3 with fail
 have B2 := B1.put_bad true
 have hg1 := set1 V1 ⟨w.heap.size,9,none⟩ (.bool true)
 have bR2 := bR1.kept hg1 (fun e => by injection e with e; simp only at e; omega)
 have hB2 := hB1.grown hg1 hB1.size (fun k hk => by cases hk; exact Nat.le_refl _)
 have hrs2 := hrs.turned hg1 (fun k hk => .inl (by rw [← hk]; exact hm0))
 generalize hW : World.setCell V1 _ _ = V2 at B2 bR2 hB2 hrs2 ⊢
 clear hW m9 z9 hg1 B1 bR1 hB1 hrs
 obtain ⟨c1,hc1⟩ : ∃ c1 : Cl,{ c with tk := { c.tk with bad := true } } = c1 := ⟨_,rfl⟩
 rw [hc1] at B2
 replace HCAN := Lib.hid (HCAN.out c1 hc1)
 clear hc1
 have hrg := B2.range
 go_wp2_with (refine wpList_load_mid rfl 35 _ rfl w.heap.size 0 rfl (k.cells c1) _ hrg Try.underlying35 rfl (by kernel_rfl) ?_)
 refine (rsend2 c1 k R { pd0 with kd := 24 } (.slice none 0 0) (.slice none 0 0) now V2 B2.cr (BD.nil _ R) (SR.nil _ 5) (fun i hi => by have := hRl i hi; have := bR2.lt; omega)).mono ?_
 rintro e w1 ⟨⟨k1,o,rfl,hC1,hps⟩,hB3⟩
 obtain ⟨x1,hx1⟩ : ∃ x1 : Sp,(sp0 c1 now).send { pd0 with kd := 24 } = x1 := ⟨_,rfl⟩
 have hcan := HCAN.out
 rw [hx1] at hC1 hps hcan ⊢
 replace HCAN := Lib.hid hcan
 have B3 := B2.below hB3
 have bR3 := bR2.below hB3
 have hrs3 := hrs2.below hB3
 have hl3 := hB2.trans (hB3.mono hB2.size)
 clear hx1 hcan hrg hB3 B2 bR2 hrs2 hB2
 have hth := B3.blk.there 0 26 (by simp [Cv.cells,clc])
 have hone := hC1.one
 go_upto_region 4 with (refine wpList_store_mid rfl 35 _ _ rfl w.heap.size 0 (k1.cells x1.c).toArray rfl rfl hth (by kernel_rfl) hone ?_; simp only [Act.put]; generalize hW : World.setCells w1 w.heap.size 0 _ = w2; have HW := Lib.hid hW; clear hW)
 have B4 := B3.put_cl hC1
 have hg2 := setCells_grown w.heap.size (k1.cells x1.c) 0 w1
 have hps4 := hps.turned hg2 (fun k hk => .inl (by rw [← hk]; exact hm0))
 have hrs4 := hrs3.turned hg2 (fun k hk => .inl (by rw [← hk]; exact hm0))
 have bR4 := bR3.kept hg2 (fun e => by injection e with e; omega)
 have hl4 := hl3.grown hg2 hl3.size (fun k hk => by cases hk; exact Nat.le_refl _)
 have e1 : w1.setCells w.heap.size 0 (k1.cells x1.c) = w2 := HW.out
 rw [e1] at B4 hps4 bR4 hl4 hrs4
 clear HW e1 hg2 B3 hps bR3 hl3 hth hrs3
 have hrg := B4.range
 have hth := bR4.there 0 26 (by simp)
 go_wp2_with (first | (refine wpList_load_mid rfl 35 _ rfl w.heap.size 0 rfl (k1.cells x1.c) _ hrg Try.underlying35 rfl (by kernel_rfl) ?_) | (refine wpList_store_mid rfl 35 _ _ rfl (w.heap.size + 1) 0 (k1.cells x1.c).toArray rfl rfl hth (by kernel_rfl) hone ?_; simp only [Act.put]; generalize hW : World.setCells w2 (w.heap.size + 1) 0 _ = w3; have HW := Lib.hid hW; clear hW))
 obtain ⟨hF,bR5⟩ := fin26 B4.cr hps4 hrs4 bR4 rfl hm1 hRs hl4 (by omega)
 rw [show w2.setCells (w.heap.size + 1) 0 (k1.cells x1.c) = w3 from HW.out] at hF bR5
 have hl := run_loadVar_row (P := Try.prog) _ (w.heap.size + 1) 35 35 _ (0,0) _ bR5 Try.underlying35 rfl (by kernel_rfl)
 exact bodyPost_ret (v := .tuple #[.agg (k1.cells x1.c).toArray,o,.slice (some ⟨V.heap.size,0,none⟩) 1 1]) (by rw [results_cell_tmp2 rfl]; simp [asAddr,hl]) rfl ⟨by rw [HCAN.out]; exact ⟨k1,_,_,rfl,hF.1,hF.2.1,hF.2.2.1⟩,hF.2.2.2⟩
end Go.Proofs.Ytldcihjddebciaa
