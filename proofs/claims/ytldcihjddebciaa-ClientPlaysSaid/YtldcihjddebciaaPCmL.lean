/- client's reference: Handle. -/
import Derived.Test.YtldcihjddebciaaPCmK
set_option linter.unusedSimpArgs false
set_option linter.unusedVariables false
set_option maxRecDepth 100000
set_option maxHeartbeats 4000000
namespace Go.Proofs.Ytldcihjddebciaa
open Go.RowKit
/-- what the reference's Handle hands back -/
def rhandle (c : Cl) (p : Pd) (l : List Im) (now : Int) : Sp :=
 if c.dead = true then sp0 c now
 else if p.kd = 27 then ⟨c,now,[],[⟨6,0,p.ha,p.vs,[],0⟩]⟩
 else if p.kd = 29 then ⟨c,now,[{ pd0 with kd := 30 }],[⟨7,0,p.ha,p.vs,[],0⟩]⟩
 else if c.busy = true ∧ p.kd = 1 ∧ p.ask = c.ad.kd then (sp0 c now).refused p.co
 else if c.busy = true ∧ p.kd = ansI c.ad.kd then rans c p l now
 else sp0 c now
theorem rhnd_dead (c : Cl) (k : Cv) (R0 : List (Option Nat)) (p : Pd) (pb iv : Value) (qs : List (Im × Value)) (now : Int) (w : World) (hC : Cr w R0 c k) (hR0 : ∀ i,some i ∈ R0 → i < w.heap.size) (hw : ∀ t ∈ c.wt,TkOk t ∧ 1 ≤ t.kd ∧ t.kd ≤ 9) (hwl : c.wt.length ≤ 1000) (hdead : c.dead = true) :
 Calls Try.prog 18 #[.agg (k.cells c).toArray,.agg (pdc p pb iv).toArray,.int .i64 now] w fun e w' => Out3 w' R0 e (sp0 c now) ∧ Below w.heap.size w w' := by
 obtain ⟨R,hRs,hm0,hm1,hm2,hRl,hRR,B0,bP0,bR0,hB0,hV3⟩ := pro3 hC hR0 (pdc p pb iv) 32 [.int .i64 0,.int .i64 0,.int .i64 0,.int .u16 0,.int .u16 0,.int .u16 0,.slice none 0 0,.int .i64 0,.slice none 0 0,.bool false,.int .i64 0,.int .i64 0,.int .u16 0,.int .u16 0,.int .u64 0,.int .u64 0,.int .i64 0,.int .i64 0,.int .i64 0,.bool false,.slice none 0 0,.slice none 0 0,.bool false,.int .i64 0,.bool false,.slice none 0 0] 35
 have HV3 := Lib.hid hV3
 have HW1 := Lib.hid hw
 have HWL := Lib.hid hwl
 have q0 := bP0.cell (j := 0) (v := .int .i64 p.kd) rfl
 clear hC hR0 hRR hV3 hw hwl
 go_enter Try.func18,Try.ntmps18
 go_upto_region 1 with fail
 generalize hX : World.alloc (World.alloc (World.alloc w _) _) _ = V at B0 bP0 bR0 hB0 HV3 q0 ⊢
 clear hX
 have m24 := B0.blk.cell (j := 24) (v := .bool true) (by rw [← hdead]; rfl)
 clear hdead q0
 have hrg := B0.range
 have hth := bR0.there 0 26 (by simp)
 have hone := B0.cr.one
 go_wp2_with (first | (refine wpList_load_mid rfl 35 _ rfl w.heap.size 0 rfl (k.cells c) _ hrg Try.underlying35 rfl (by kernel_rfl) ?_) | (refine wpList_store_mid rfl 35 _ _ rfl (w.heap.size + 2) 0 (k.cells c).toArray rfl rfl hth (by kernel_rfl) hone ?_; simp only [Act.put]; generalize hW : World.setCells V (w.heap.size + 2) 0 _ = w2; have HW := Lib.hid hW; clear hW))
 obtain ⟨hF,bR4⟩ := fin26 (o := .slice none 0 0) (r := .slice none 0 0) (ps := []) (us := []) B0.cr (psr_nil V R) (rsr_nil V R) bR0 rfl hm2 hRs hB0 (by omega)
 rw [show V.setCells (w.heap.size + 2) 0 (k.cells c) = w2 from HW.out] at hF bR4
 have hl := run_loadVar_row (P := Try.prog) _ (w.heap.size + 2) 35 35 _ (0,0) _ bR4 Try.underlying35 rfl (by kernel_rfl)
 exact bodyPost_ret (v := .tuple #[.agg (k.cells c).toArray,.slice none 0 0,.slice none 0 0]) (by rw [results_cell_tmp2 rfl]; simp [asAddr,hl]) rfl ⟨⟨k,_,_,rfl,hF.1,hF.2.1,hF.2.2.1⟩,hF.2.2.2⟩
theorem rhnd_27 (c : Cl) (k : Cv) (R0 : List (Option Nat)) (p : Pd) (pb iv : Value) (qs : List (Im × Value)) (now : Int) (w : World) (hC : Cr w R0 c k) (hR0 : ∀ i,some i ∈ R0 → i < w.heap.size) (hw : ∀ t ∈ c.wt,TkOk t ∧ 1 ≤ t.kd ∧ t.kd ≤ 9) (hwl : c.wt.length ≤ 1000) (hb : BV w pb p.vs) (hbs : p.vs.length ≤ 1000000) (hdead : c.dead = false) (hk : p.kd = 27) :
 Calls Try.prog 18 #[.agg (k.cells c).toArray,.agg (pdc p pb iv).toArray,.int .i64 now] w fun e w' => Out3 w' R0 e ((⟨c,now,[],[⟨6,0,p.ha,p.vs,[],0⟩]⟩ : Sp)) ∧ Below w.heap.size w w' := by
 obtain ⟨i0,hi0,hi1,hi2,hi3⟩ := info_parts Try.info_u8
 obtain ⟨pa,pc,rfl⟩ := hb.form
 obtain ⟨PK,hK⟩ : ∃ L,p.vs.length = L := ⟨_,rfl⟩
 rw [hK] at hb hbs ⊢
 obtain ⟨R,hRs,hm0,hm1,hm2,hRl,hRR,B0,bP0,bR0,hB0,hV3⟩ := pro3 hC hR0 (pdc p (.slice pa PK pc) iv) 32 [.int .i64 0,.int .i64 0,.int .i64 0,.int .u16 0,.int .u16 0,.int .u16 0,.slice none 0 0,.int .i64 0,.slice none 0 0,.bool false,.int .i64 0,.int .i64 0,.int .u16 0,.int .u16 0,.int .u64 0,.int .u64 0,.int .i64 0,.int .i64 0,.int .i64 0,.bool false,.slice none 0 0,.slice none 0 0,.bool false,.int .i64 0,.bool false,.slice none 0 0] 35
 have HV3 := Lib.hid hV3
 have HW1 := Lib.hid hw
 have HWL := Lib.hid hwl
 have q0 := bP0.cell (j := 0) (v := .int .i64 p.kd) rfl
 have q10 := bP0.cell (j := 10) (v := .slice pa PK pc) rfl
 have q2 := bP0.cell (j := 2) (v := .int .u16 p.ha) rfl
 have HBV := Lib.hid (hb.below hB0)
 have HK := Lib.hid hK
 clear hb hK
 clear hC hR0 hRR hV3 hw hwl
 go_enter Try.func18,Try.ntmps18
 go_upto_region 1 with fail
 generalize hX : World.alloc (World.alloc (World.alloc w _) _) _ = V at B0 bP0 bR0 hB0 HV3 q0 HBV q2 q10 ⊢
 clear hX
 have m24 := B0.blk.cell (j := 24) (v := .bool false) (by rw [← hdead]; rfl)
 have q0' : V.cell? ⟨w.heap.size + 1,0,none⟩ = some (.int .i64 27) := by rw [← hk]; exact q0
 clear q0 hk hdead
 go_upto_region 4 with fail
 have Bc := B0.drew
 have bRc := bR0.drew
 have hBc := hB0.drew
 have q2 := kc q2 (Below.refl _ V).drew
 have q10 := kc q10 (Below.refl _ V).drew
 have hp1 := HBV.out.below (Below.refl _ V).drew
 clear B0 bR0 hB0 bP0 q0' m24 HBV
 refine wp_region_held_drew (S := (fun W' : World => W'.rangeAt w.heap.size 0 (k.cells c) ∧ Cells W' [(w.heap.size + 1,2,.int .u16 p.ha),(w.heap.size + 1,10,.slice pa PK pc)])) (by kernel_rfl) (⟨Bc.range,q2,q10,trivial⟩) (fun hHeld => ?_)
 generalize World.drew _ = wd at hHeld Bc bRc hBc q2 q10 hp1 ⊢
 repeat' first
  |refine tkN 0 35 w.heap.size 0 (k.cells c) (fun _ h => h.1) Try.underlying35 ?_
  |refine tkU 1 ?_
  |refine tkU 2 ?_
  |refine tkU 4 ?_
  |refine tkU 5 ?_
  |refine tkU 7 ?_
  |refine tkU 10 ?_
  |refine tkU 11 ?_
  |(refine opn 3 fun K hK => ?_
    go_simp
    generalize hX : World.alloc _ (.cells _ 5) = w3
    obtain ⟨_,hBx,hz3⟩ := alloc_named hX
    have hgn := bRc.lt
    have Bc := Bc.below hBx
    have bRc := bRc.below hBx
    have hBc := hBc.trans (hBx.mono hBc.size)
    have q2 := kc q2 hBx
    have q10 := kc q10 hBx
    have hp1 := hp1.below hBx
    try have hO := hO.below hBx
    clear hX hBx hz3
    refine hK.out _ _ (⟨Bc.range,q2,q10,trivial⟩) (fun h => ?_)
    replace hHeld := h
    clear hK K h
    try simp only [Act.put,List.setIfInBounds_toArray,List.set_cons_zero,List.set_cons_succ])
  |(refine opn 6 fun K hK => ?_
    refine step_app0 (by rfl) _ _ 23 (by rfl) 5 i0 _ 1 1 Try.underlying23 hi0 hi1 hi2 hi3 rfl (by decide) _ (by rfl) (.slice pa PK pc) PK (bcells p.vs) (by rfl) (by have h := hp1.sr; rw [HK.out] at h; exact h) (by omega) ?_
    intro b4 c4 w4 hsr4 hc4 hBx ho4
    have hpv : BD w4 R (.slice b4 PK c4) p.vs := bd_new hsr4 HK.out hc4 hbs (BV.at hp1).2.2 ho4 (fun hm => by have := hRl _ hm; omega) (fun hm => by have := hRl _ hm; have := bRc.lt; omega)
    have Bc := Bc.below hBx
    have bRc := bRc.below hBx
    have hBc := hBc.trans (hBx.mono hBc.size)
    have q2 := kc q2 hBx
    have q10 := kc q10 hBx
    try have hO := hO.below hBx
    clear hsr4 hc4 hBx ho4 hp1
    refine hK.out _ _ (⟨Bc.range,q2,q10,trivial⟩) (fun h => ?_)
    replace hHeld := h
    clear hK K h
    try simp only [Act.put,List.setIfInBounds_toArray,List.set_cons_zero,List.set_cons_succ])
  |(refine opn 8 fun K hK => ?_
    go_simp
    generalize hX : World.alloc _ (.cells _ 64) = w5
    have hgr := bRc.lt
    obtain ⟨hnb,hBx,hz5⟩ := alloc_named hX
    have bO : Blk w5 _ 64 (rsc ⟨6,0,p.ha,p.vs,[],0⟩ (.slice b4 PK c4) (.slice none 0 0)) := hnb
    have Bc := Bc.below hBx
    have bRc := bRc.below hBx
    have hBc := hBc.trans (hBx.mono hBc.size)
    have q2 := kc q2 hBx
    have q10 := kc q10 hBx
    have hrs : RsR w5 R _ [⟨6,0,p.ha,p.vs,[],0⟩] := rsr_one (R := R) bO (hpv.below hBx) (FD.nil _ R) (fun hm => by have := hRl _ hm; omega)
    try have hO := hO.below hBx
    clear hX hBx hz5 hnb bO hpv
    refine hK.out _ _ (⟨Bc.range,q2,q10,trivial⟩) (fun h => ?_)
    replace hHeld := h
    clear hK K h
    try simp only [Act.put,List.setIfInBounds_toArray,List.set_cons_zero,List.set_cons_succ])
  |(refine opn 9 fun K hK => ?_
    refine step_store_mid (by rfl) 35 _ _ (by rfl) (w.heap.size + 2) 0 (k.cells c).toArray (by rfl) (by rfl) (bRc.there 0 26 (by simp)) (by kernel_rfl) Bc.cr.one ?_
    generalize hX : World.setCells _ (w.heap.size + 2) 0 _ = w9
    have hlt9 := bRc.lt
    obtain ⟨hg9,bRn⟩ := put_named (vs := (k.cells c)) bRc hX rfl
    have hBl := (Below.refl (w.heap.size + 1 + 1) _).grown hg9 (by omega) (fun k hk => by cases hk; omega)
    have Bc := Bc.other hg9 (by omega) hm2
    have hBc := hBc.grown hg9 hBc.size (fun k hk => by cases hk; omega)
    have q2 := (hBl.cell (p := ⟨w.heap.size + 1,2,none⟩) (by simp)).trans q2
    have q10 := (hBl.cell (p := ⟨w.heap.size + 1,10,none⟩) (by simp)).trans q10
    try have hO := hO.turned hg9 (fun k hk => .inl (by rw [← hk]; exact hm2))
    try have hrs := hrs.turned hg9 (fun k hk => .inl (by rw [← hk]; exact hm2))
    try have hpv := hpv.turned hg9 (fun k hk => .inl (by rw [← hk]; exact hm2))
    have bRc := bRn
    clear hX hg9 hBl hlt9 bRn
    refine hK.out _ _ (⟨Bc.range,q2,q10,trivial⟩) (fun h => ?_)
    replace hHeld := h
    clear hK K h
    try simp only [Act.put,List.setIfInBounds_toArray,List.set_cons_zero,List.set_cons_succ])
  |refine rd1 3 ?_
  |refine rd1 6 ?_
  |refine rd2 8 9 ?_ ?_
  |refine rd1 9 ?_
  |refine rd1 8 ?_
  |(refine wpAnyH_done (by kernel_rfl) ?_ _
    go_wp2_with fail
    have hl := run_loadVar_row (P := Try.prog) _ (w.heap.size + 2) 35 35 _ (0,0) _ bRc Try.underlying35 rfl (by kernel_rfl)
    refine bodyPost_ret (by rw [results_cell_tmp2 rfl]; simp [asAddr,hl] <;> rfl) rfl ⟨⟨k,_,_,rfl,Bc.cr.less hRs,psr_nil _ R0,hrs.less hRs⟩,hBc⟩)
theorem rhnd_29 (c : Cl) (k : Cv) (R0 : List (Option Nat)) (p : Pd) (pb iv : Value) (qs : List (Im × Value)) (now : Int) (w : World) (hC : Cr w R0 c k) (hR0 : ∀ i,some i ∈ R0 → i < w.heap.size) (hw : ∀ t ∈ c.wt,TkOk t ∧ 1 ≤ t.kd ∧ t.kd ≤ 9) (hwl : c.wt.length ≤ 1000) (hb : BV w pb p.vs) (hbs : p.vs.length ≤ 1000000) (hdead : c.dead = false) (hk : p.kd = 29) :
 Calls Try.prog 18 #[.agg (k.cells c).toArray,.agg (pdc p pb iv).toArray,.int .i64 now] w fun e w' => Out3 w' R0 e ((⟨c,now,[{ pd0 with kd := 30 }],[⟨7,0,p.ha,p.vs,[],0⟩]⟩ : Sp)) ∧ Below w.heap.size w w' := by
 obtain ⟨i0,hi0,hi1,hi2,hi3⟩ := info_parts Try.info_u8
 obtain ⟨pa,pc,rfl⟩ := hb.form
 obtain ⟨PK,hK⟩ : ∃ L,p.vs.length = L := ⟨_,rfl⟩
 rw [hK] at hb hbs ⊢
 obtain ⟨R,hRs,hm0,hm1,hm2,hRl,hRR,B0,bP0,bR0,hB0,hV3⟩ := pro3 hC hR0 (pdc p (.slice pa PK pc) iv) 32 [.int .i64 0,.int .i64 0,.int .i64 0,.int .u16 0,.int .u16 0,.int .u16 0,.slice none 0 0,.int .i64 0,.slice none 0 0,.bool false,.int .i64 0,.int .i64 0,.int .u16 0,.int .u16 0,.int .u64 0,.int .u64 0,.int .i64 0,.int .i64 0,.int .i64 0,.bool false,.slice none 0 0,.slice none 0 0,.bool false,.int .i64 0,.bool false,.slice none 0 0] 35
 have HV3 := Lib.hid hV3
 have HW1 := Lib.hid hw
 have HWL := Lib.hid hwl
 have q0 := bP0.cell (j := 0) (v := .int .i64 p.kd) rfl
 have q10 := bP0.cell (j := 10) (v := .slice pa PK pc) rfl
 have q2 := bP0.cell (j := 2) (v := .int .u16 p.ha) rfl
 have HBV := Lib.hid (hb.below hB0)
 have HK := Lib.hid hK
 clear hb hK
 clear hC hR0 hRR hV3 hw hwl
 go_enter Try.func18,Try.ntmps18
 go_upto_region 1 with fail
 generalize hX : World.alloc (World.alloc (World.alloc w _) _) _ = V at B0 bP0 bR0 hB0 HV3 q0 HBV q2 q10 ⊢
 clear hX
 have m24 := B0.blk.cell (j := 24) (v := .bool false) (by rw [← hdead]; rfl)
 have q0' : V.cell? ⟨w.heap.size + 1,0,none⟩ = some (.int .i64 29) := by rw [← hk]; exact q0
 clear q0 hk hdead
 go_upto_region 6 with fail
 have Bc := B0.drew
 have bRc := bR0.drew
 have hBc := hB0.drew
 have q2 := kc q2 (Below.refl _ V).drew
 have q10 := kc q10 (Below.refl _ V).drew
 have hp1 := HBV.out.below (Below.refl _ V).drew
 clear B0 bR0 hB0 bP0 q0' m24 HBV
 refine wp_region_held_drew (S := (fun W' : World => W'.rangeAt w.heap.size 0 (k.cells c) ∧ Cells W' [(w.heap.size + 1,2,.int .u16 p.ha),(w.heap.size + 1,10,.slice pa PK pc)])) (by kernel_rfl) (⟨Bc.range,q2,q10,trivial⟩) (fun hHeld => ?_)
 generalize World.drew _ = wd at hHeld Bc bRc hBc q2 q10 hp1 ⊢
 repeat' first
  |refine tkN 0 35 w.heap.size 0 (k.cells c) (fun _ h => h.1) Try.underlying35 ?_
  |refine tkU 1 ?_
  |refine tkU 3 ?_
  |refine tkU 4 ?_
  |refine tkU 6 ?_
  |refine tkU 7 ?_
  |refine tkU 9 ?_
  |refine tkU 12 ?_
  |refine tkU 13 ?_
  |(refine opn 2 fun K hK => ?_
    go_simp
    generalize hX : World.alloc _ (.cells _ 32) = w6
    have hgp := bRc.lt
    obtain ⟨hnb,hBx,hz6⟩ := alloc_named hX
    have bO : Blk w6 _ 32 (pdc { pd0 with kd := 30 } (.slice none 0 0) (.slice none 0 0)) := hnb
    have Bc := Bc.below hBx
    have bRc := bRc.below hBx
    have hBc := hBc.trans (hBx.mono hBc.size)
    have q2 := kc q2 hBx
    have q10 := kc q10 hBx
    have hO : PsR w6 R _ [{ pd0 with kd := 30 }] := psr_one (R := R) bO (BD.nil _ R) (SR.nil _ 5) (fun hm => by have := hRl _ hm; omega)
    try have hp1 := hp1.below hBx
    try have hpv := hpv.below hBx
    try have hrs := hrs.below hBx
    clear hX hBx hz6 hnb bO
    refine hK.out _ _ (⟨Bc.range,q2,q10,trivial⟩) (fun h => ?_)
    replace hHeld := h
    clear hK K h
    try simp only [Act.put,List.setIfInBounds_toArray,List.set_cons_zero,List.set_cons_succ])
  |(refine opn 5 fun K hK => ?_
    go_simp
    generalize hX : World.alloc _ (.cells _ 5) = w3
    obtain ⟨_,hBx,hz3⟩ := alloc_named hX
    have hgn := bRc.lt
    have Bc := Bc.below hBx
    have bRc := bRc.below hBx
    have hBc := hBc.trans (hBx.mono hBc.size)
    have q2 := kc q2 hBx
    have q10 := kc q10 hBx
    have hp1 := hp1.below hBx
    try have hO := hO.below hBx
    clear hX hBx hz3
    refine hK.out _ _ (⟨Bc.range,q2,q10,trivial⟩) (fun h => ?_)
    replace hHeld := h
    clear hK K h
    try simp only [Act.put,List.setIfInBounds_toArray,List.set_cons_zero,List.set_cons_succ])
  |(refine opn 8 fun K hK => ?_
    refine step_app0 (by rfl) _ _ 23 (by rfl) 5 i0 _ 1 1 Try.underlying23 hi0 hi1 hi2 hi3 rfl (by decide) _ (by rfl) (.slice pa PK pc) PK (bcells p.vs) (by rfl) (by have h := hp1.sr; rw [HK.out] at h; exact h) (by omega) ?_
    intro b4 c4 w4 hsr4 hc4 hBx ho4
    have hpv : BD w4 R (.slice b4 PK c4) p.vs := bd_new hsr4 HK.out hc4 hbs (BV.at hp1).2.2 ho4 (fun hm => by have := hRl _ hm; omega) (fun hm => by have := hRl _ hm; have := bRc.lt; omega)
    have Bc := Bc.below hBx
    have bRc := bRc.below hBx
    have hBc := hBc.trans (hBx.mono hBc.size)
    have q2 := kc q2 hBx
    have q10 := kc q10 hBx
    try have hO := hO.below hBx
    clear hsr4 hc4 hBx ho4 hp1
    refine hK.out _ _ (⟨Bc.range,q2,q10,trivial⟩) (fun h => ?_)
    replace hHeld := h
    clear hK K h
    try simp only [Act.put,List.setIfInBounds_toArray,List.set_cons_zero,List.set_cons_succ])
  |(refine opn 10 fun K hK => ?_
    go_simp
    generalize hX : World.alloc _ (.cells _ 64) = w5
    have hgr := bRc.lt
    obtain ⟨hnb,hBx,hz5⟩ := alloc_named hX
    have bO : Blk w5 _ 64 (rsc ⟨7,0,p.ha,p.vs,[],0⟩ (.slice b4 PK c4) (.slice none 0 0)) := hnb
    have Bc := Bc.below hBx
    have bRc := bRc.below hBx
    have hBc := hBc.trans (hBx.mono hBc.size)
    have q2 := kc q2 hBx
    have q10 := kc q10 hBx
    have hrs : RsR w5 R _ [⟨7,0,p.ha,p.vs,[],0⟩] := rsr_one (R := R) bO (hpv.below hBx) (FD.nil _ R) (fun hm => by have := hRl _ hm; omega)
    try have hO := hO.below hBx
    clear hX hBx hz5 hnb bO hpv
    refine hK.out _ _ (⟨Bc.range,q2,q10,trivial⟩) (fun h => ?_)
    replace hHeld := h
    clear hK K h
    try simp only [Act.put,List.setIfInBounds_toArray,List.set_cons_zero,List.set_cons_succ])
  |(refine opn 11 fun K hK => ?_
    refine step_store_mid (by rfl) 35 _ _ (by rfl) (w.heap.size + 2) 0 (k.cells c).toArray (by rfl) (by rfl) (bRc.there 0 26 (by simp)) (by kernel_rfl) Bc.cr.one ?_
    generalize hX : World.setCells _ (w.heap.size + 2) 0 _ = w9
    have hlt9 := bRc.lt
    obtain ⟨hg9,bRn⟩ := put_named (vs := (k.cells c)) bRc hX rfl
    have hBl := (Below.refl (w.heap.size + 1 + 1) _).grown hg9 (by omega) (fun k hk => by cases hk; omega)
    have Bc := Bc.other hg9 (by omega) hm2
    have hBc := hBc.grown hg9 hBc.size (fun k hk => by cases hk; omega)
    have q2 := (hBl.cell (p := ⟨w.heap.size + 1,2,none⟩) (by simp)).trans q2
    have q10 := (hBl.cell (p := ⟨w.heap.size + 1,10,none⟩) (by simp)).trans q10
    try have hO := hO.turned hg9 (fun k hk => .inl (by rw [← hk]; exact hm2))
    try have hrs := hrs.turned hg9 (fun k hk => .inl (by rw [← hk]; exact hm2))
    try have hpv := hpv.turned hg9 (fun k hk => .inl (by rw [← hk]; exact hm2))
    have bRc := bRn
    clear hX hg9 hBl hlt9 bRn
    refine hK.out _ _ (⟨Bc.range,q2,q10,trivial⟩) (fun h => ?_)
    replace hHeld := h
    clear hK K h
    try simp only [Act.put,List.setIfInBounds_toArray,List.set_cons_zero,List.set_cons_succ])
  |refine rd2 2 5 ?_ ?_
  |refine rd1 5 ?_
  |refine rd1 8 ?_
  |refine rd2 10 11 ?_ ?_
  |refine rd1 11 ?_
  |refine rd1 10 ?_
  |refine rd2 2 8 ?_ ?_
  |refine rd3 2 10 11 ?_ ?_ ?_
  |refine rd2 2 11 ?_ ?_
  |refine rd1 2 ?_
  |refine rd2 2 10 ?_ ?_
  |(refine wpAnyH_done (by kernel_rfl) ?_ _
    go_wp2_with fail
    have hl := run_loadVar_row (P := Try.prog) _ (w.heap.size + 2) 35 35 _ (0,0) _ bRc Try.underlying35 rfl (by kernel_rfl)
    refine bodyPost_ret (by rw [results_cell_tmp2 rfl]; simp [asAddr,hl] <;> rfl) rfl ⟨⟨k,_,_,rfl,Bc.cr.less hRs,hO.less hRs,hrs.less hRs⟩,hBc⟩)
theorem rhnd_ref (c : Cl) (k : Cv) (R0 : List (Option Nat)) (p : Pd) (pb iv : Value) (qs : List (Im × Value)) (now : Int) (w : World) (hC : Cr w R0 c k) (hR0 : ∀ i,some i ∈ R0 → i < w.heap.size) (hw : ∀ t ∈ c.wt,TkOk t ∧ 1 ≤ t.kd ∧ t.kd ≤ 9) (hwl : c.wt.length ≤ 1000) (hfo : c.tk.fo.length ≤ 1000000) (hvs : c.tk.vs.length ≤ 1000000) (hdead : c.dead = false) (hbz : c.busy = true) (hk : p.kd = 1) (ha : p.ask = c.ad.kd) :
 Calls Try.prog 18 #[.agg (k.cells c).toArray,.agg (pdc p pb iv).toArray,.int .i64 now] w fun e w' => Out3 w' R0 e ((sp0 c now).refused p.co) ∧ Below w.heap.size w w' := by
 obtain ⟨R,hRs,hm0,hm1,hm2,hRl,hRR,B0,bP0,bR0,hB0,hV3⟩ := pro3 hC hR0 (pdc p pb iv) 32 [.int .i64 0,.int .i64 0,.int .i64 0,.int .u16 0,.int .u16 0,.int .u16 0,.slice none 0 0,.int .i64 0,.slice none 0 0,.bool false,.int .i64 0,.int .i64 0,.int .u16 0,.int .u16 0,.int .u64 0,.int .u64 0,.int .i64 0,.int .i64 0,.int .i64 0,.bool false,.slice none 0 0,.slice none 0 0,.bool false,.int .i64 0,.bool false,.slice none 0 0] 35
 have HV3 := Lib.hid hV3
 have HW1 := Lib.hid hw
 have HWL := Lib.hid hwl
 have q0 := bP0.cell (j := 0) (v := .int .i64 p.kd) rfl
 have q0' := bP0.cell (j := 0) (v := .int .i64 1) (by rw [← hk]; rfl)
 have q1 := bP0.cell (j := 1) (v := .int .i64 c.ad.kd) (by rw [← ha]; rfl)
 have q8 := bP0.cell (j := 8) (v := .int .i64 p.co) rfl
 clear hC hR0 hRR hV3 hw hwl
 go_enter Try.func18,Try.ntmps18
 go_upto_region 1 with fail
 generalize hX : World.alloc (World.alloc (World.alloc w _) _) _ = V at B0 bP0 bR0 hB0 HV3 q0 q0' q1 q8 ⊢
 clear hX
 have m24 := B0.blk.cell (j := 24) (v := .bool false) (by rw [← hdead]; rfl)
 have m22 := B0.blk.cell (j := 22) (v := .bool true) (by rw [← hbz]; rfl)
 have m10 := B0.blk.cell (j := 10) (v := .int .i64 c.ad.kd) rfl
 clear q0 hk ha hdead hbz
 have hrg := B0.range
 go_wp2_with (refine wpList_load_mid rfl 35 _ rfl w.heap.size 0 rfl (k.cells c) _ hrg Try.underlying35 rfl (by kernel_rfl) ?_)
 refine (rrefused_any c k R p.co now V B0.cr (fun i hi => by have := hRl i hi; have := bR0.lt; omega) HW1.out HWL.out hfo hvs).mono ?_
 rintro e w1 ⟨⟨k1,o,r1,rfl,hC1,hps,hrs1⟩,hB4⟩
 obtain ⟨x1,hx1⟩ : ∃ x1 : Sp,(sp0 c now).refused p.co = x1 := ⟨_,rfl⟩
 rw [hx1] at hC1 hps hrs1 ⊢
 have HX := Lib.hid hx1
 have bRx := bR0.below hB4
 have hl1 := hB0.trans (hB4.mono hB0.size)
 have hth := bRx.there 0 26 (by simp)
 have hone := hC1.one
 clear hx1 hB4
 go_wp2_with (refine wpList_store_mid rfl 35 _ _ rfl (w.heap.size + 2) 0 (k1.cells x1.c).toArray rfl rfl hth (by kernel_rfl) hone ?_; simp only [Act.put]; generalize hW : World.setCells w1 (w.heap.size + 2) 0 _ = w2; have HW := Lib.hid hW; clear hW)
 obtain ⟨hF,bR4⟩ := fin26 hC1 hps hrs1 bRx rfl hm2 hRs hl1 (by omega)
 rw [show w1.setCells (w.heap.size + 2) 0 (k1.cells x1.c) = w2 from HW.out] at hF bR4
 have hl := run_loadVar_row (P := Try.prog) _ (w.heap.size + 2) 35 35 _ (0,0) _ bR4 Try.underlying35 rfl (by kernel_rfl)
 exact bodyPost_ret (v := .tuple #[.agg (k1.cells x1.c).toArray,o,r1]) (by rw [results_cell_tmp2 rfl]; simp [asAddr,hl]) rfl ⟨by rw [HX.out]; exact ⟨k1,_,_,rfl,hF.1,hF.2.1,hF.2.2.1⟩,hF.2.2.2⟩
theorem rhnd_ans (c : Cl) (k : Cv) (R0 : List (Option Nat)) (p : Pd) (pb iv : Value) (qs : List (Im × Value)) (now : Int) (w : World) (hC : Cr w R0 c k) (hR0 : ∀ i,some i ∈ R0 → i < w.heap.size) (hw : ∀ t ∈ c.wt,TkOk t ∧ 1 ≤ t.kd ∧ t.kd ≤ 9) (hwl : c.wt.length ≤ 1000) (hdead : c.dead = false) (h27 : ¬ p.kd = 27) (h29 : ¬ p.kd = 29) (hI : ItB w w.heap.size iv qs) (hne : p.kd = 17 ∨ p.kd = 5 ∨ p.kd = 9 → 0 < qs.length) (hfo : c.tk.fo.length + qs.length ≤ 100000) (hla : c.tk.la < 65536) (hb : BV w pb p.vs) (hbs : p.vs.length ≤ 1000000) (hvs : c.tk.vs.length ≤ 1000000) (had : c.ad.vs.length ≤ 1000000) (hO : ∃ O : Nat,c.tk.of = (O : Int) ∧ O ≤ 1000000) (hrg : -9223372036854775808 ≤ c.ad.kd ∧ c.ad.kd ≤ 9223372036854775807) (hbz : c.busy = true) (h1 : ¬ p.kd = 1) (ha : p.kd = ansI c.ad.kd) (hset : p.kd = 3 ∨ p.kd = 17 ∨ p.kd = 5 ∨ p.kd = 9 ∨ p.kd = 11 ∨ p.kd = 13 ∨ p.kd = 23 ∨ p.kd = 25 ∨ p.kd = 19) :
 Calls Try.prog 18 #[.agg (k.cells c).toArray,.agg (pdc p pb iv).toArray,.int .i64 now] w fun e w' => Out3 w' R0 e (rans c p (qs.map (·.1)) now) ∧ Below w.heap.size w w' := by
 have t27 : (p.kd == 27) = false := by simp [h27]
 have t29 : (p.kd == 29) = false := by simp [h29]
 have t1 : (p.kd == 1) = false := by simp [h1]
 obtain ⟨AA,hAA⟩ : ∃ x,ansI c.ad.kd = x := ⟨_,rfl⟩
 have hans := fun W => ranswer_any c.ad.kd hrg W
 rw [hAA] at hans ha
 have HANS := Lib.hid hans
 have tAA : (p.kd == AA) = true := by simp [ha]
 clear hans hAA
 obtain ⟨R,hRs,hm0,hm1,hm2,hRl,hRR,B0,bP0,bR0,hB0,hV3⟩ := pro3 hC hR0 (pdc p pb iv) 32 [.int .i64 0,.int .i64 0,.int .i64 0,.int .u16 0,.int .u16 0,.int .u16 0,.slice none 0 0,.int .i64 0,.slice none 0 0,.bool false,.int .i64 0,.int .i64 0,.int .u16 0,.int .u16 0,.int .u64 0,.int .u64 0,.int .i64 0,.int .i64 0,.int .i64 0,.bool false,.slice none 0 0,.slice none 0 0,.bool false,.int .i64 0,.bool false,.slice none 0 0] 35
 have HV3 := Lib.hid hV3
 have HW1 := Lib.hid hw
 have HWL := Lib.hid hwl
 have q0 := bP0.cell (j := 0) (v := .int .i64 p.kd) rfl
 have q1 := bP0.cell (j := 1) (v := .int .i64 p.ask) rfl
 have HIT := Lib.hid (hI.below hB0)
 have HB := Lib.hid (hb.below hB0)
 clear hC hR0 hRR hV3 hw hwl
 go_enter Try.func18,Try.ntmps18
 go_upto_region 1 with fail
 generalize hX : World.alloc (World.alloc (World.alloc w _) _) _ = V at B0 bP0 bR0 hB0 HV3 q0 q1 HIT HB ⊢
 clear hX
 have m24 := B0.blk.cell (j := 24) (v := .bool false) (by rw [← hdead]; rfl)
 have m22 := B0.blk.cell (j := 22) (v := .bool true) (by rw [← hbz]; rfl)
 have m10 := B0.blk.cell (j := 10) (v := .int .i64 c.ad.kd) rfl
 clear hdead hbz h1 ha h27 h29
 go_upto_region 9 with fail
 have B1 := B0.drew
 have bP1 := bP0.drew
 have bR1 := bR0.drew
 have hB1 := hB0.drew
 have T := (show Cells V.drew [(w.heap.size,22,.bool true),(w.heap.size + 1,0,.int .i64 p.kd),(w.heap.size,10,.int .i64 c.ad.kd)] from ⟨kc m22 (Below.refl _ V).drew,kc q0 (Below.refl _ V).drew,kc m10 (Below.refl _ V).drew,trivial⟩)
 have hI1 := HIT.out.below (Below.refl _ V).drew
 have hb1 := HB.out.below (Below.refl _ V).drew
 clear B0 bP0 bR0 hB0 m22 m10 m24 q0 q1
 refine wp_region_held_drew (S := (fun W' : World => Cells W' [(w.heap.size,22,.bool true),(w.heap.size + 1,0,.int .i64 p.kd),(w.heap.size,10,.int .i64 c.ad.kd)])) (by kernel_rfl) (T) (fun hHeld => ?_)
 generalize World.drew _ = wd at hHeld B1 bP1 bR1 hB1 T hI1 hb1 ⊢
 refine tkU 0 ?_
 refine tkU 1 ?_
 refine tkU 2 ?_
 refine tkU 3 ?_
 refine tkU 4 ?_
 refine tkU 5 ?_
 refine tkU 6 ?_
 refine tkU 7 ?_
 refine rd1 8 fun K hK => ?_
 go_simp
 go_at_call 14
 refine (HANS.out _).mono ?_
 rintro e w7 ⟨rfl,rfl⟩
 clear hHeld
 refine hK.out _ _ (T) (fun hHeld => ?_)
 clear hK K
 try simp only [Act.put,List.setIfInBounds_toArray,List.set_cons_zero,List.set_cons_succ]
 refine tkU 9 ?_
 refine tkU 10 ?_
 refine tkU 11 ?_
 refine wpAnyH_done (by kernel_rfl) ?_ _
 clear hHeld T
 have hrg2 := B1.range
 have hrp := bP1.range 0 (pdc p pb iv) (fun j v hv => by rw [Nat.zero_add]; exact hv)
 go_wp2_with (first | (refine wpList_load_mid rfl 35 _ rfl w.heap.size 0 rfl (k.cells c) _ hrg2 Try.underlying35 rfl (by kernel_rfl) ?_) | (refine wpList_load_mid rfl 32 _ rfl (w.heap.size + 1) 0 rfl (pdc p pb iv) _ hrp Try.underlying32 rfl (by kernel_rfl) ?_))
 refine (ransw_any c k R p pb iv qs now wd B1.cr (fun i hi => by have := hRl i hi; have := bR1.lt; omega) HW1.out HWL.out (hI1.upB (by have := hB1.size; exact this)) hne hfo hla hb1 hbs hvs had hO hset).mono ?_
 rintro e w1 ⟨⟨k1,o,r1,rfl,hC1,hps,hrs1⟩,hB4⟩
 obtain ⟨x1,hx1⟩ : ∃ x1 : Sp,rans c p (qs.map (·.1)) now = x1 := ⟨_,rfl⟩
 rw [hx1] at hC1 hps hrs1 ⊢
 have HX := Lib.hid hx1
 have bRx := bR1.below hB4
 have hl1 := hB1.trans (hB4.mono hB1.size)
 have hth := bRx.there 0 26 (by simp)
 have hone := hC1.one
 clear hx1 hB4
 go_wp2_with (refine wpList_store_mid rfl 35 _ _ rfl (w.heap.size + 2) 0 (k1.cells x1.c).toArray rfl rfl hth (by kernel_rfl) hone ?_; simp only [Act.put]; generalize hW : World.setCells w1 (w.heap.size + 2) 0 _ = w2; have HW := Lib.hid hW; clear hW)
 obtain ⟨hF,bR4⟩ := fin26 hC1 hps hrs1 bRx rfl hm2 hRs hl1 (by omega)
 rw [show w1.setCells (w.heap.size + 2) 0 (k1.cells x1.c) = w2 from HW.out] at hF bR4
 have hl := run_loadVar_row (P := Try.prog) _ (w.heap.size + 2) 35 35 _ (0,0) _ bR4 Try.underlying35 rfl (by kernel_rfl)
 exact bodyPost_ret (v := .tuple #[.agg (k1.cells x1.c).toArray,o,r1]) (by rw [results_cell_tmp2 rfl]; simp [asAddr,hl]) rfl ⟨by rw [HX.out]; exact ⟨k1,_,_,rfl,hF.1,hF.2.1,hF.2.2.1⟩,hF.2.2.2⟩
theorem rhnd_idle (c : Cl) (k : Cv) (R0 : List (Option Nat)) (p : Pd) (pb iv : Value) (qs : List (Im × Value)) (now : Int) (w : World) (hC : Cr w R0 c k) (hR0 : ∀ i,some i ∈ R0 → i < w.heap.size) (hw : ∀ t ∈ c.wt,TkOk t ∧ 1 ≤ t.kd ∧ t.kd ≤ 9) (hwl : c.wt.length ≤ 1000) (hdead : c.dead = false) (h27 : ¬ p.kd = 27) (h29 : ¬ p.kd = 29) (hbz : c.busy = false) :
 Calls Try.prog 18 #[.agg (k.cells c).toArray,.agg (pdc p pb iv).toArray,.int .i64 now] w fun e w' => Out3 w' R0 e (sp0 c now) ∧ Below w.heap.size w w' := by
 have t27 : (p.kd == 27) = false := by simp [h27]
 have t29 : (p.kd == 29) = false := by simp [h29]
 obtain ⟨R,hRs,hm0,hm1,hm2,hRl,hRR,B0,bP0,bR0,hB0,hV3⟩ := pro3 hC hR0 (pdc p pb iv) 32 [.int .i64 0,.int .i64 0,.int .i64 0,.int .u16 0,.int .u16 0,.int .u16 0,.slice none 0 0,.int .i64 0,.slice none 0 0,.bool false,.int .i64 0,.int .i64 0,.int .u16 0,.int .u16 0,.int .u64 0,.int .u64 0,.int .i64 0,.int .i64 0,.int .i64 0,.bool false,.slice none 0 0,.slice none 0 0,.bool false,.int .i64 0,.bool false,.slice none 0 0] 35
 have HV3 := Lib.hid hV3
 have HW1 := Lib.hid hw
 have HWL := Lib.hid hwl
 have q0 := bP0.cell (j := 0) (v := .int .i64 p.kd) rfl
 have q1 := bP0.cell (j := 1) (v := .int .i64 p.ask) rfl
 clear hC hR0 hRR hV3 hw hwl
 go_enter Try.func18,Try.ntmps18
 go_upto_region 1 with fail
 generalize hX : World.alloc (World.alloc (World.alloc w _) _) _ = V at B0 bP0 bR0 hB0 HV3 q0 q1 ⊢
 clear hX
 have m24 := B0.blk.cell (j := 24) (v := .bool false) (by rw [← hdead]; rfl)
 have m22 := B0.blk.cell (j := 22) (v := .bool false) (by rw [← hbz]; rfl)
 have m10 := B0.blk.cell (j := 10) (v := .int .i64 c.ad.kd) rfl
 clear hdead hbz h27 h29
 go_upto_region 9 with fail
 have B1 := B0.drew
 have bP1 := bP0.drew
 have bR1 := bR0.drew
 have hB1 := hB0.drew
 have T := (show Cells V.drew [(w.heap.size,22,.bool false),(w.heap.size + 1,0,.int .i64 p.kd),(w.heap.size,10,.int .i64 c.ad.kd)] from ⟨kc m22 (Below.refl _ V).drew,kc q0 (Below.refl _ V).drew,kc m10 (Below.refl _ V).drew,trivial⟩)
 clear B0 bP0 bR0 hB0 m22 m10 m24 q0 q1
 refine wp_region_held_drew (S := (fun W' : World => Cells W' [(w.heap.size,22,.bool false),(w.heap.size + 1,0,.int .i64 p.kd),(w.heap.size,10,.int .i64 c.ad.kd)])) (by kernel_rfl) (T) (fun hHeld => ?_)
 generalize World.drew _ = wd at hHeld B1 bP1 bR1 hB1 T ⊢
 refine tkU 0 ?_
 refine tkU 1 ?_
 refine tkU 2 ?_
 refine tkV 3 ?_
 refine tkV 4 ?_
 refine tkV 5 ?_
 refine tkV 6 ?_
 refine tkV 7 ?_
 refine tkV 8 ?_
 refine tkV 9 ?_
 refine tkU 10 ?_
 refine tkU 11 ?_
 refine wpAnyH_done (by kernel_rfl) ?_ _
 clear hHeld T
 have hrg2 := B1.range
 have hth := bR1.there 0 26 (by simp)
 have hone := B1.cr.one
 go_wp2_with (first | (refine wpList_load_mid rfl 35 _ rfl w.heap.size 0 rfl (k.cells c) _ hrg2 Try.underlying35 rfl (by kernel_rfl) ?_) | (refine wpList_store_mid rfl 35 _ _ rfl (w.heap.size + 2) 0 (k.cells c).toArray rfl rfl hth (by kernel_rfl) hone ?_; simp only [Act.put]; generalize hW : World.setCells wd (w.heap.size + 2) 0 _ = w2; have HW := Lib.hid hW; clear hW))
 obtain ⟨hF,bR4⟩ := fin26 (o := .slice none 0 0) (r := .slice none 0 0) (ps := []) (us := []) B1.cr (psr_nil wd R) (rsr_nil wd R) bR1 rfl hm2 hRs hB1 (by omega)
 rw [show wd.setCells (w.heap.size + 2) 0 (k.cells c) = w2 from HW.out] at hF bR4
 have hl := run_loadVar_row (P := Try.prog) _ (w.heap.size + 2) 35 35 _ (0,0) _ bR4 Try.underlying35 rfl (by kernel_rfl)
 exact bodyPost_ret (v := .tuple #[.agg (k.cells c).toArray,.slice none 0 0,.slice none 0 0]) (by rw [results_cell_tmp2 rfl]; simp [asAddr,hl]) rfl ⟨⟨k,_,_,rfl,hF.1,hF.2.1,hF.2.2.1⟩,hF.2.2.2⟩
theorem rhnd_ask (c : Cl) (k : Cv) (R0 : List (Option Nat)) (p : Pd) (pb iv : Value) (qs : List (Im × Value)) (now : Int) (w : World) (hC : Cr w R0 c k) (hR0 : ∀ i,some i ∈ R0 → i < w.heap.size) (hw : ∀ t ∈ c.wt,TkOk t ∧ 1 ≤ t.kd ∧ t.kd ≤ 9) (hwl : c.wt.length ≤ 1000) (hdead : c.dead = false) (h27 : ¬ p.kd = 27) (h29 : ¬ p.kd = 29) (hrg : -9223372036854775808 ≤ c.ad.kd ∧ c.ad.kd ≤ 9223372036854775807) (hbz : c.busy = true) (h1 : p.kd = 1) (hask : ¬ p.ask = c.ad.kd) (ha : ¬ p.kd = ansI c.ad.kd) :
 Calls Try.prog 18 #[.agg (k.cells c).toArray,.agg (pdc p pb iv).toArray,.int .i64 now] w fun e w' => Out3 w' R0 e (sp0 c now) ∧ Below w.heap.size w w' := by
 have t27 : (p.kd == 27) = false := by simp [h27]
 have t29 : (p.kd == 29) = false := by simp [h29]
 have t1 : (p.kd == 1) = true := by simp [h1]
 have ta : (p.ask == c.ad.kd) = false := by simp [hask]
 obtain ⟨AA,hAA⟩ : ∃ x,ansI c.ad.kd = x := ⟨_,rfl⟩
 have hans := fun W => ranswer_any c.ad.kd hrg W
 rw [hAA] at hans ha
 have HANS := Lib.hid hans
 have tAA : (p.kd == AA) = false := by simp [ha]
 clear hans hAA
 obtain ⟨R,hRs,hm0,hm1,hm2,hRl,hRR,B0,bP0,bR0,hB0,hV3⟩ := pro3 hC hR0 (pdc p pb iv) 32 [.int .i64 0,.int .i64 0,.int .i64 0,.int .u16 0,.int .u16 0,.int .u16 0,.slice none 0 0,.int .i64 0,.slice none 0 0,.bool false,.int .i64 0,.int .i64 0,.int .u16 0,.int .u16 0,.int .u64 0,.int .u64 0,.int .i64 0,.int .i64 0,.int .i64 0,.bool false,.slice none 0 0,.slice none 0 0,.bool false,.int .i64 0,.bool false,.slice none 0 0] 35
 have HV3 := Lib.hid hV3
 have HW1 := Lib.hid hw
 have HWL := Lib.hid hwl
 have q0 := bP0.cell (j := 0) (v := .int .i64 p.kd) rfl
 have q1 := bP0.cell (j := 1) (v := .int .i64 p.ask) rfl
 clear hC hR0 hRR hV3 hw hwl
 go_enter Try.func18,Try.ntmps18
 go_upto_region 1 with fail
 generalize hX : World.alloc (World.alloc (World.alloc w _) _) _ = V at B0 bP0 bR0 hB0 HV3 q0 q1 ⊢
 clear hX
 have m24 := B0.blk.cell (j := 24) (v := .bool false) (by rw [← hdead]; rfl)
 have m22 := B0.blk.cell (j := 22) (v := .bool true) (by rw [← hbz]; rfl)
 have m10 := B0.blk.cell (j := 10) (v := .int .i64 c.ad.kd) rfl
 clear hdead hbz h1 ha hask h27 h29
 go_upto_region 9 with fail
 have B1 := B0.drew
 have bP1 := bP0.drew
 have bR1 := bR0.drew
 have hB1 := hB0.drew
 have T := (show Cells V.drew [(w.heap.size,22,.bool true),(w.heap.size + 1,0,.int .i64 p.kd),(w.heap.size,10,.int .i64 c.ad.kd)] from ⟨kc m22 (Below.refl _ V).drew,kc q0 (Below.refl _ V).drew,kc m10 (Below.refl _ V).drew,trivial⟩)
 clear B0 bP0 bR0 hB0 m22 m10 m24 q0 q1
 refine wp_region_held_drew (S := (fun W' : World => Cells W' [(w.heap.size,22,.bool true),(w.heap.size + 1,0,.int .i64 p.kd),(w.heap.size,10,.int .i64 c.ad.kd)])) (by kernel_rfl) (T) (fun hHeld => ?_)
 generalize World.drew _ = wd at hHeld B1 bP1 bR1 hB1 T ⊢
 refine tkU 0 ?_
 refine tkU 1 ?_
 refine tkU 2 ?_
 refine tkU 3 ?_
 refine tkU 4 ?_
 refine tkU 5 ?_
 refine tkU 6 ?_
 refine tkU 7 ?_
 refine rd1 8 fun K hK => ?_
 go_simp
 go_at_call 14
 refine (HANS.out _).mono ?_
 rintro e w7 ⟨rfl,rfl⟩
 clear hHeld
 refine hK.out _ _ (T) (fun hHeld => ?_)
 clear hK K
 try simp only [Act.put,List.setIfInBounds_toArray,List.set_cons_zero,List.set_cons_succ]
 refine tkU 9 ?_
 refine tkU 10 ?_
 refine tkU 11 ?_
 refine wpAnyH_done (by kernel_rfl) ?_ _
 clear hHeld T
 have hrg2 := B1.range
 have hth := bR1.there 0 26 (by simp)
 have hone := B1.cr.one
 go_wp2_with (first | (refine wpList_load_mid rfl 35 _ rfl w.heap.size 0 rfl (k.cells c) _ hrg2 Try.underlying35 rfl (by kernel_rfl) ?_) | (refine wpList_store_mid rfl 35 _ _ rfl (w.heap.size + 2) 0 (k.cells c).toArray rfl rfl hth (by kernel_rfl) hone ?_; simp only [Act.put]; generalize hW : World.setCells wd (w.heap.size + 2) 0 _ = w2; have HW := Lib.hid hW; clear hW))
 obtain ⟨hF,bR4⟩ := fin26 (o := .slice none 0 0) (r := .slice none 0 0) (ps := []) (us := []) B1.cr (psr_nil wd R) (rsr_nil wd R) bR1 rfl hm2 hRs hB1 (by omega)
 rw [show wd.setCells (w.heap.size + 2) 0 (k.cells c) = w2 from HW.out] at hF bR4
 have hl := run_loadVar_row (P := Try.prog) _ (w.heap.size + 2) 35 35 _ (0,0) _ bR4 Try.underlying35 rfl (by kernel_rfl)
 exact bodyPost_ret (v := .tuple #[.agg (k.cells c).toArray,.slice none 0 0,.slice none 0 0]) (by rw [results_cell_tmp2 rfl]; simp [asAddr,hl]) rfl ⟨⟨k,_,_,rfl,hF.1,hF.2.1,hF.2.2.1⟩,hF.2.2.2⟩
theorem rhnd_kind (c : Cl) (k : Cv) (R0 : List (Option Nat)) (p : Pd) (pb iv : Value) (qs : List (Im × Value)) (now : Int) (w : World) (hC : Cr w R0 c k) (hR0 : ∀ i,some i ∈ R0 → i < w.heap.size) (hw : ∀ t ∈ c.wt,TkOk t ∧ 1 ≤ t.kd ∧ t.kd ≤ 9) (hwl : c.wt.length ≤ 1000) (hdead : c.dead = false) (h27 : ¬ p.kd = 27) (h29 : ¬ p.kd = 29) (hrg : -9223372036854775808 ≤ c.ad.kd ∧ c.ad.kd ≤ 9223372036854775807) (hbz : c.busy = true) (h1 : ¬ p.kd = 1) (ha : ¬ p.kd = ansI c.ad.kd) :
 Calls Try.prog 18 #[.agg (k.cells c).toArray,.agg (pdc p pb iv).toArray,.int .i64 now] w fun e w' => Out3 w' R0 e (sp0 c now) ∧ Below w.heap.size w w' := by
 have t27 : (p.kd == 27) = false := by simp [h27]
 have t29 : (p.kd == 29) = false := by simp [h29]
 have t1 : (p.kd == 1) = false := by simp [h1]
 obtain ⟨AA,hAA⟩ : ∃ x,ansI c.ad.kd = x := ⟨_,rfl⟩
 have hans := fun W => ranswer_any c.ad.kd hrg W
 rw [hAA] at hans ha
 have HANS := Lib.hid hans
 have tAA : (p.kd == AA) = false := by simp [ha]
 clear hans hAA
 obtain ⟨R,hRs,hm0,hm1,hm2,hRl,hRR,B0,bP0,bR0,hB0,hV3⟩ := pro3 hC hR0 (pdc p pb iv) 32 [.int .i64 0,.int .i64 0,.int .i64 0,.int .u16 0,.int .u16 0,.int .u16 0,.slice none 0 0,.int .i64 0,.slice none 0 0,.bool false,.int .i64 0,.int .i64 0,.int .u16 0,.int .u16 0,.int .u64 0,.int .u64 0,.int .i64 0,.int .i64 0,.int .i64 0,.bool false,.slice none 0 0,.slice none 0 0,.bool false,.int .i64 0,.bool false,.slice none 0 0] 35
 have HV3 := Lib.hid hV3
 have HW1 := Lib.hid hw
 have HWL := Lib.hid hwl
 have q0 := bP0.cell (j := 0) (v := .int .i64 p.kd) rfl
 have q1 := bP0.cell (j := 1) (v := .int .i64 p.ask) rfl
 clear hC hR0 hRR hV3 hw hwl
 go_enter Try.func18,Try.ntmps18
 go_upto_region 1 with fail
 generalize hX : World.alloc (World.alloc (World.alloc w _) _) _ = V at B0 bP0 bR0 hB0 HV3 q0 q1 ⊢
 clear hX
 have m24 := B0.blk.cell (j := 24) (v := .bool false) (by rw [← hdead]; rfl)
 have m22 := B0.blk.cell (j := 22) (v := .bool true) (by rw [← hbz]; rfl)
 have m10 := B0.blk.cell (j := 10) (v := .int .i64 c.ad.kd) rfl
 clear hdead hbz h1 ha h27 h29
 go_upto_region 9 with fail
 have B1 := B0.drew
 have bP1 := bP0.drew
 have bR1 := bR0.drew
 have hB1 := hB0.drew
 have T := (show Cells V.drew [(w.heap.size,22,.bool true),(w.heap.size + 1,0,.int .i64 p.kd),(w.heap.size,10,.int .i64 c.ad.kd)] from ⟨kc m22 (Below.refl _ V).drew,kc q0 (Below.refl _ V).drew,kc m10 (Below.refl _ V).drew,trivial⟩)
 clear B0 bP0 bR0 hB0 m22 m10 m24 q0 q1
 refine wp_region_held_drew (S := (fun W' : World => Cells W' [(w.heap.size,22,.bool true),(w.heap.size + 1,0,.int .i64 p.kd),(w.heap.size,10,.int .i64 c.ad.kd)])) (by kernel_rfl) (T) (fun hHeld => ?_)
 generalize World.drew _ = wd at hHeld B1 bP1 bR1 hB1 T ⊢
 refine tkU 0 ?_
 refine tkU 1 ?_
 refine tkU 2 ?_
 refine tkU 3 ?_
 refine tkU 4 ?_
 refine tkU 5 ?_
 refine tkU 6 ?_
 refine tkU 7 ?_
 refine rd1 8 fun K hK => ?_
 go_simp
 go_at_call 14
 refine (HANS.out _).mono ?_
 rintro e w7 ⟨rfl,rfl⟩
 clear hHeld
 refine hK.out _ _ (T) (fun hHeld => ?_)
 clear hK K
 try simp only [Act.put,List.setIfInBounds_toArray,List.set_cons_zero,List.set_cons_succ]
 refine tkU 9 ?_
 refine tkU 10 ?_
 refine tkU 11 ?_
 refine wpAnyH_done (by kernel_rfl) ?_ _
 clear hHeld T
 have hrg2 := B1.range
 have hth := bR1.there 0 26 (by simp)
 have hone := B1.cr.one
 go_wp2_with (first | (refine wpList_load_mid rfl 35 _ rfl w.heap.size 0 rfl (k.cells c) _ hrg2 Try.underlying35 rfl (by kernel_rfl) ?_) | (refine wpList_store_mid rfl 35 _ _ rfl (w.heap.size + 2) 0 (k.cells c).toArray rfl rfl hth (by kernel_rfl) hone ?_; simp only [Act.put]; generalize hW : World.setCells wd (w.heap.size + 2) 0 _ = w2; have HW := Lib.hid hW; clear hW))
 obtain ⟨hF,bR4⟩ := fin26 (o := .slice none 0 0) (r := .slice none 0 0) (ps := []) (us := []) B1.cr (psr_nil wd R) (rsr_nil wd R) bR1 rfl hm2 hRs hB1 (by omega)
 rw [show wd.setCells (w.heap.size + 2) 0 (k.cells c) = w2 from HW.out] at hF bR4
 have hl := run_loadVar_row (P := Try.prog) _ (w.heap.size + 2) 35 35 _ (0,0) _ bR4 Try.underlying35 rfl (by kernel_rfl)
 exact bodyPost_ret (v := .tuple #[.agg (k.cells c).toArray,.slice none 0 0,.slice none 0 0]) (by rw [results_cell_tmp2 rfl]; simp [asAddr,hl]) rfl ⟨⟨k,_,_,rfl,hF.1,hF.2.1,hF.2.2.1⟩,hF.2.2.2⟩
theorem rhandle_any (c : Cl) (k : Cv) (R0 : List (Option Nat)) (p : Pd) (pb iv : Value) (qs : List (Im × Value)) (now : Int) (w : World) (hC : Cr w R0 c k) (hR0 : ∀ i,some i ∈ R0 → i < w.heap.size) (hw : ∀ t ∈ c.wt,TkOk t ∧ 1 ≤ t.kd ∧ t.kd ≤ 9) (hwl : c.wt.length ≤ 1000) (hI : ItB w w.heap.size iv qs) (hne : p.kd = 17 ∨ p.kd = 5 ∨ p.kd = 9 → 0 < qs.length) (hfo : c.tk.fo.length + qs.length ≤ 100000) (hla : c.tk.la < 65536) (hb : BV w pb p.vs) (hbs : p.vs.length ≤ 1000000) (hvs : c.tk.vs.length ≤ 1000000) (had : c.ad.vs.length ≤ 1000000) (hO : ∃ O : Nat,c.tk.of = (O : Int) ∧ O ≤ 1000000) (hrg : -9223372036854775808 ≤ c.ad.kd ∧ c.ad.kd ≤ 9223372036854775807)
 (hset : c.busy = true → p.kd = ansI c.ad.kd → p.kd = 3 ∨ p.kd = 17 ∨ p.kd = 5 ∨ p.kd = 9 ∨ p.kd = 11 ∨ p.kd = 13 ∨ p.kd = 23 ∨ p.kd = 25 ∨ p.kd = 19) :
 Calls Try.prog 18 #[.agg (k.cells c).toArray,.agg (pdc p pb iv).toArray,.int .i64 now] w fun e w' => Out3 w' R0 e (rhandle c p (qs.map (·.1)) now) ∧ Below w.heap.size w w' := by
 unfold rhandle
 by_cases hd : c.dead = true
 ·rw [if_pos hd]
  exact rhnd_dead c k R0 p pb iv qs now w hC hR0 hw hwl hd
 rw [if_neg hd]
 have hd' : c.dead = false := by simpa using hd
 by_cases h27 : p.kd = 27
 ·rw [if_pos h27]
  exact rhnd_27 c k R0 p pb iv qs now w hC hR0 hw hwl hb hbs hd' h27
 rw [if_neg h27]
 by_cases h29 : p.kd = 29
 ·rw [if_pos h29]
  exact rhnd_29 c k R0 p pb iv qs now w hC hR0 hw hwl hb hbs hd' h29
 rw [if_neg h29]
 by_cases hbz : c.busy = true
 ·by_cases h1 : p.kd = 1
  ·by_cases hask : p.ask = c.ad.kd
   ·rw [if_pos ⟨hbz,h1,hask⟩]
    exact rhnd_ref c k R0 p pb iv qs now w hC hR0 hw hwl (by omega) hvs hd' hbz h1 hask
   ·have hn : ¬ p.kd = ansI c.ad.kd := by
     rw [h1]
     unfold ansI
     split <;> omega
    rw [if_neg (fun h => hask h.2.2),if_neg (fun h => hn h.2)]
    exact rhnd_ask c k R0 p pb iv qs now w hC hR0 hw hwl hd' h27 h29 hrg hbz h1 hask hn
  ·rw [if_neg (fun h => h1 h.2.1)]
   by_cases ha : p.kd = ansI c.ad.kd
   ·rw [if_pos ⟨hbz,ha⟩]
    exact rhnd_ans c k R0 p pb iv qs now w hC hR0 hw hwl hd' h27 h29 hI hne hfo hla hb hbs hvs had hO hrg hbz h1 ha (hset hbz ha)
   ·rw [if_neg (fun h => ha h.2)]
    exact rhnd_kind c k R0 p pb iv qs now w hC hR0 hw hwl hd' h27 h29 hrg hbz h1 ha
 ·rw [if_neg (fun h => hbz h.1),if_neg (fun h => hbz h.1)]
  exact rhnd_idle c k R0 p pb iv qs now w hC hR0 hw hwl hd' h27 h29 (by simpa using hbz)
end Go.Proofs.Ytldcihjddebciaa
