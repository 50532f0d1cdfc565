/- client's reference: refused. And what follows it. -/
import Derived.Test.YtldcihjddebciaaPCmF
set_option linter.unusedSimpArgs false
set_option linter.unusedVariables false
set_option maxRecDepth 100000
set_option maxHeartbeats 12000000
namespace Go.Proofs.Ytldcihjddebciaa
open Go.RowKit
theorem Sp.rrefused_0 (c : Cl) (now code : Int) (h0 : true = (decide (code = 10) && decide (c.tk.kd = 2 ∨ c.tk.kd = 3 ∨ c.tk.kd = 4))) : (sp0 c now).refused code = (sp0 c now).found := by
 unfold Sp.refused
 rw [if_pos (by have q := h0.symm; simp [sp0] at q ⊢; first | exact q | omega | (intro hq; exact fun e => absurd hq (q e)) | (intro h1 h2; exact absurd h1 (q h2)))]
theorem Sp.rrefused_1 (c : Cl) (now code : Int) (h0 : false = (decide (code = 10) && decide (c.tk.kd = 2 ∨ c.tk.kd = 3 ∨ c.tk.kd = 4))) (h1 : true = (decide (code = 7) && (decide (c.tk.kd = 6) && decide (c.ad.kd = 12)))) : (sp0 c now).refused code = (sp0 c now).value := by
 unfold Sp.refused
 rw [if_neg (by have q := h0.symm; simp [sp0] at q ⊢; first | exact q | omega | (intro hq; exact fun e => absurd hq (q e)) | (intro h1 h2; exact absurd h1 (q h2)))]
 rw [if_pos (by have q := h1.symm; simp [sp0] at q ⊢; first | exact q | omega | (intro hq; exact fun e => absurd hq (q e)) | (intro h1 h2; exact absurd h1 (q h2)))]
theorem Sp.rrefused_2 (c : Cl) (now code : Int) (h0 : false = (decide (code = 10) && decide (c.tk.kd = 2 ∨ c.tk.kd = 3 ∨ c.tk.kd = 4))) (h1 : false = (decide (code = 7) && (decide (c.tk.kd = 6) && decide (c.ad.kd = 12)))) (h2 : true = (decide (c.ad.kd = 22) && !decide (c.tk.of = 0))) : (sp0 c now).refused code = (sp0 c now).cancel code := by
 unfold Sp.refused
 rw [if_neg (by have q := h0.symm; simp [sp0] at q ⊢; first | exact q | omega | (intro hq; exact fun e => absurd hq (q e)) | (intro h1 h2; exact absurd h1 (q h2)))]
 rw [if_neg (by have q := h1.symm; simp [sp0] at q ⊢; first | exact q | omega | (intro hq; exact fun e => absurd hq (q e)) | (intro h1 h2; exact absurd h1 (q h2)))]
 rw [if_pos (by have q := h2.symm; simp [sp0] at q ⊢; first | exact q | omega | (intro hq; exact fun e => absurd hq (q e)) | (intro h1 h2; exact absurd h1 (q h2)))]
theorem Sp.rrefused_3 (c : Cl) (now code : Int) (h0 : false = (decide (code = 10) && decide (c.tk.kd = 2 ∨ c.tk.kd = 3 ∨ c.tk.kd = 4))) (h1 : false = (decide (code = 7) && (decide (c.tk.kd = 6) && decide (c.ad.kd = 12)))) (h2 : false = (decide (c.ad.kd = 22) && !decide (c.tk.of = 0))) (h3 : true = (decide (c.ad.kd = 24) && (c.tk.bad && !decide (code = 18)))) : (sp0 c now).refused code = (sp0 c now).close := by
 unfold Sp.refused
 rw [if_neg (by have q := h0.symm; simp [sp0] at q ⊢; first | exact q | omega | (intro hq; exact fun e => absurd hq (q e)) | (intro h1 h2; exact absurd h1 (q h2)))]
 rw [if_neg (by have q := h1.symm; simp [sp0] at q ⊢; first | exact q | omega | (intro hq; exact fun e => absurd hq (q e)) | (intro h1 h2; exact absurd h1 (q h2)))]
 rw [if_neg (by have q := h2.symm; simp [sp0] at q ⊢; first | exact q | omega | (intro hq; exact fun e => absurd hq (q e)) | (intro h1 h2; exact absurd h1 (q h2)))]
 rw [if_pos (by have q := h3.symm; simp [sp0] at q ⊢; first | exact q | omega | (intro hq; exact fun e => absurd hq (q e)) | (intro h1 h2; exact absurd h1 (q h2)))]
theorem Sp.rrefused_4 (c : Cl) (now code : Int) (h0 : false = (decide (code = 10) && decide (c.tk.kd = 2 ∨ c.tk.kd = 3 ∨ c.tk.kd = 4))) (h1 : false = (decide (code = 7) && (decide (c.tk.kd = 6) && decide (c.ad.kd = 12)))) (h2 : false = (decide (c.ad.kd = 22) && !decide (c.tk.of = 0))) (h3 : false = (decide (c.ad.kd = 24) && (c.tk.bad && !decide (code = 18)))) : (sp0 c now).refused code = (sp0 c now).fail code := by
 unfold Sp.refused
 rw [if_neg (by have q := h0.symm; simp [sp0] at q ⊢; first | exact q | omega | (intro hq; exact fun e => absurd hq (q e)) | (intro h1 h2; exact absurd h1 (q h2)))]
 rw [if_neg (by have q := h1.symm; simp [sp0] at q ⊢; first | exact q | omega | (intro hq; exact fun e => absurd hq (q e)) | (intro h1 h2; exact absurd h1 (q h2)))]
 rw [if_neg (by have q := h2.symm; simp [sp0] at q ⊢; first | exact q | omega | (intro hq; exact fun e => absurd hq (q e)) | (intro h1 h2; exact absurd h1 (q h2)))]
 rw [if_neg (by have q := h3.symm; simp [sp0] at q ⊢; first | exact q | omega | (intro hq; exact fun e => absurd hq (q e)) | (intro h1 h2; exact absurd h1 (q h2)))]
theorem rrefused_any (c : Cl) (k : Cv) (R0 : List (Option Nat)) (code : Int) (now : Int) (w : World) (hC : Cr w R0 c k) (hR0 : ∀ i,some i ∈ R0 → i < w.heap.size) (hw : ∀ t ∈ c.wt,TkOk t ∧ 1 ≤ t.kd ∧ t.kd ≤ 9) (hwl : c.wt.length ≤ 1000) (hfo : c.tk.fo.length ≤ 1000000) (hvs : c.tk.vs.length ≤ 1000000) :
 Calls Try.prog 37 #[.agg (k.cells c).toArray,.int .i64 code,.int .i64 now] w fun e w' => Out3 w' R0 e ((sp0 c now).refused code) ∧ Below w.heap.size w w' := by
 obtain ⟨R,hRs,hm0,hm1,hRl,hRR,B0,bR0,hB0,hV3⟩ := pro2 hC hR0 [.int .i64 0,.int .i64 0,.int .i64 0,.int .u16 0,.int .u16 0,.int .u16 0,.slice none 0 0,.int .i64 0,.slice none 0 0,.bool false,.int .i64 0,.int .i64 0,.int .u16 0,.int .u16 0,.int .u64 0,.int .u64 0,.int .i64 0,.int .i64 0,.int .i64 0,.bool false,.slice none 0 0,.slice none 0 0,.bool false,.int .i64 0,.bool false,.slice none 0 0] 35
 have HV3 := Lib.hid hV3
 have HW1 := Lib.hid hw
 have HWL := Lib.hid hwl
 clear hC hR0 hRR hV3 hw hwl hfo hvs
 go_enter Try.func37,Try.ntmps37
 go_upto_region 1 with fail
 generalize hX : World.alloc (World.alloc w _) _ = V at B0 bR0 hB0 HV3 ⊢
 clear hX
 have hrg := B0.blk.range 2 (tkc c.tk k.bv k.fv) (tk_in c k)
 have bT0 := Blk.new V 26 [.int .i64 0,.int .u16 0,.int .u16 0,.int .u16 0,.slice none 0 0,.int .i64 0,.slice none 0 0,.bool false]
 have hth := bT0.there 0 8 (by simp)
 have hone : (tkc c.tk k.bv k.fv).toArray.all (·.oneCell') = true := by
  obtain ⟨a1,c1,e1⟩ := B0.cr.bv.1.form
  obtain ⟨a2,c2,e2⟩ := B0.cr.fv.1.form
  simp [tkc,e1,e2,Value.oneCell']
 go_upto_region 2 with (first | (refine wpList_load_mid rfl 26 _ rfl w.heap.size 2 rfl (tkc c.tk k.bv k.fv) _ hrg Try.underlying26 rfl (by kernel_rfl) ?_) | (refine wpList_store_mid rfl 26 _ _ rfl V.heap.size 0 (tkc c.tk k.bv k.fv).toArray rfl rfl hth (by kernel_rfl) hone ?_; simp only [Act.put]; generalize hW : World.setCells _ V.heap.size 0 _ = V1; have HW := Lib.hid hW; clear hW))
 have bT1 := bT0.putAll (vs := tkc c.tk k.bv k.fv) rfl
 have hg1 := setCells_grown V.heap.size (tkc c.tk k.bv k.fv) 0 (V.alloc (.cells #[.int .i64 0,.int .u16 0,.int .u16 0,.int .u16 0,.slice none 0 0,.int .i64 0,.slice none 0 0,.bool false] 26))
 rw [show World.setCells _ V.heap.size 0 (tkc c.tk k.bv k.fv) = V1 from HW.out] at bT1 hg1
 have hBV : Below V.heap.size V V1 := ((Below.refl V.heap.size V).alloc (Nat.le_refl _) _).grown hg1 (by simp) (fun k hk => by cases hk; exact Nat.le_refl _)
 have B1 := B0.below hBV
 have bR1 := bR0.below hBV
 have hB1 := hB0.trans (hBV.mono hB0.size)
 obtain ⟨TB,hTB⟩ : ∃ x,V.heap.size = x := ⟨_,rfl⟩
 have hTR := bR0.lt
 rw [hTB] at bT1 hTR ⊢
 clear hrg hth hone HW bT0 hg1 hBV hTB B0 bR0 hB0
 obtain ⟨ba,bc,ebv⟩ := B1.cr.bv.1.form
 obtain ⟨fa,fc,efv⟩ := B1.cr.fv.1.form
 obtain ⟨BL,hBL⟩ : ∃ L,c.tk.vs.length = L := ⟨_,rfl⟩
 obtain ⟨FL,hFL⟩ : ∃ L,c.tk.fo.length = L := ⟨_,rfl⟩
 rw [hBL] at ebv
 rw [hFL] at efv
 have hbd := B1.cr.bv
 have hfd := B1.cr.fv
 rw [ebv] at hbd
 rw [efv] at hfd
 have q0 := bT1.cell (j := 0) (v := .int .i64 c.tk.kd) rfl
 have q4 := bT1.cell (j := 4) (v := .slice ba BL bc) (by rw [← ebv]; rfl)
 have q5 := bT1.cell (j := 5) (v := .int .i64 c.tk.of) rfl
 have q6 := bT1.cell (j := 6) (v := .slice fa FL fc) (by rw [← efv]; rfl)
 have q7 := bT1.cell (j := 7) (v := .bool c.tk.bad) rfl
 have m10 := B1.blk.cell (j := 10) (v := .int .i64 c.ad.kd) rfl
 have hrg := B1.range
 have HBD := Lib.hid (And.intro hbd hfd)
 clear ebv efv hBL hFL hbd hfd bT1 hTR
 go_cut [12] (fun v wx => ∃ d : Bool,v = .bool d ∧ d = (decide (code = 10) && decide (c.tk.kd = 2 ∨ c.tk.kd = 3 ∨ c.tk.kd = 4)) ∧ V1 = wx)
 case first =>
  by_cases e1 : code = 10
  ·have t1 : (code == 10) = true := by simp [e1]
   have E1 := Lib.hid e1
   clear e1
   by_cases e2 : c.tk.kd = 2
   ·have t2 : (c.tk.kd == 2) = true := by simp [e2]
    have E2 := Lib.hid e2
    clear e2
    go_wp2_with fail
    go_meet
    have e1 := E1.out
    have e2 := E2.out
    exact ⟨_,rfl,by simp [e1,e2],rfl⟩
   ·have t2 : (c.tk.kd == 2) = false := by simp [e2]
    have E2 := Lib.hid e2
    clear e2
    by_cases e3 : c.tk.kd = 3
    ·have t3 : (c.tk.kd == 3) = true := by simp [e3]
     have E3 := Lib.hid e3
     clear e3
     go_wp2_with fail
     go_meet
     have e1 := E1.out
     have e2 := E2.out
     have e3 := E3.out
     exact ⟨_,rfl,by simp [e1,e2,e3],rfl⟩
    ·have t3 : (c.tk.kd == 3) = false := by simp [e3]
     have E3 := Lib.hid e3
     clear e3
     by_cases e4 : c.tk.kd = 4
     ·have t4 : (c.tk.kd == 4) = true := by simp [e4]
      have E4 := Lib.hid e4
      clear e4
      go_wp2_with fail
      go_meet
      have e1 := E1.out
      have e2 := E2.out
      have e3 := E3.out
      have e4 := E4.out
      exact ⟨_,rfl,by simp [e1,e2,e3,e4],rfl⟩
     ·have t4 : (c.tk.kd == 4) = false := by simp [e4]
      have E4 := Lib.hid e4
      clear e4
      go_wp2_with fail
      go_meet
      have e1 := E1.out
      have e2 := E2.out
      have e3 := E3.out
      have e4 := E4.out
      exact ⟨_,rfl,by simp [e1,e2,e3,e4],rfl⟩
  ·have t1 : (code == 10) = false := by simp [e1]
   have E1 := Lib.hid e1
   clear e1
   go_wp2_with fail
   go_meet
   have e1 := E1.out
   exact ⟨_,rfl,by simp [e1],rfl⟩
 case rest =>
  obtain ⟨d0,rfl,h0,rfl⟩ := hcut
  have H0 := Lib.hid h0
  clear h0
  cases d0 with
  |true =>
   have HC := Lib.hid (Sp.rrefused_0 c now code H0.out)
   go_wp2_with (refine wpList_load_mid rfl 35 _ rfl w.heap.size 0 rfl (k.cells c) _ hrg Try.underlying35 rfl (by kernel_rfl) ?_)
   refine (rfinish_any c k R ⟨2,0,0,[],c.tk.fo,0⟩ (.slice none 0 0) (.slice fa FL fc) now V1 B1.cr (BD.nil V1 R) HBD.out.2 (fun i hi => by have := hRl i hi; have := bR1.lt; omega) HW1.out HWL.out).mono ?_
   rintro e w1 ⟨⟨k1,o,r1,rfl,hC1,hps,hrs1⟩,hB4⟩
   obtain ⟨x1,hx1⟩ : ∃ x1 : Sp,(sp0 c now).endd ⟨2,0,0,[],c.tk.fo,0⟩ = x1 := ⟨_,rfl⟩
   rw [hx1] at hC1 hps hrs1 ⊢
   have HX := Lib.hid hx1
   have bRx := bR1.below hB4
   have hl1 := hB1.trans (hB4.mono hB1.size)
   have hth := bRx.there 0 26 (by simp)
   have hone := hC1.one
   clear hx1 hB4
   go_wp2_with (refine wpList_store_mid rfl 35 _ _ rfl (w.heap.size + 1) 0 (k1.cells x1.c).toArray rfl rfl hth (by kernel_rfl) hone ?_; simp only [Act.put]; generalize hW : World.setCells w1 (w.heap.size + 1) 0 _ = w2; have HW := Lib.hid hW; clear hW)
   obtain ⟨hF,bR4⟩ := fin26 hC1 hps hrs1 bRx rfl hm1 hRs hl1 (by omega)
   rw [show w1.setCells (w.heap.size + 1) 0 (k1.cells x1.c) = w2 from HW.out] at hF bR4
   have hl := run_loadVar_row (P := Try.prog) _ (w.heap.size + 1) 35 35 _ (0,0) _ bR4 Try.underlying35 rfl (by kernel_rfl)
   exact bodyPost_ret (v := .tuple #[.agg (k1.cells x1.c).toArray,o,r1]) (by rw [results_cell_tmp2 rfl]; simp [asAddr,hl]) rfl ⟨by rw [HC.out,show (sp0 c now).found = _ from HX.out]; exact ⟨k1,_,_,rfl,hF.1,hF.2.1,hF.2.2.1⟩,hF.2.2.2⟩
  |false =>
   go_upto_region 4 with fail
   go_cut [39] (fun v wx => ∃ d : Bool,v = .bool d ∧ d = (decide (code = 7) && (decide (c.tk.kd = 6) && decide (c.ad.kd = 12))) ∧ V1 = wx)
   case first =>
    by_cases e1 : code = 7
    ·have t1 : (code == 7) = true := by simp [e1]
     have E1 := Lib.hid e1
     clear e1
     by_cases e2 : c.tk.kd = 6
     ·have t2 : (c.tk.kd == 6) = true := by simp [e2]
      have E2 := Lib.hid e2
      clear e2
      by_cases e3 : c.ad.kd = 12
      ·have t3 : (c.ad.kd == 12) = true := by simp [e3]
       have E3 := Lib.hid e3
       clear e3
       go_wp2_with fail
       go_meet
       have e1 := E1.out
       have e2 := E2.out
       have e3 := E3.out
       exact ⟨_,rfl,by simp [e1,e2,e3],rfl⟩
      ·have t3 : (c.ad.kd == 12) = false := by simp [e3]
       have E3 := Lib.hid e3
       clear e3
       go_wp2_with fail
       go_meet
       have e1 := E1.out
       have e2 := E2.out
       have e3 := E3.out
       exact ⟨_,rfl,by simp [e1,e2,e3],rfl⟩
     ·have t2 : (c.tk.kd == 6) = false := by simp [e2]
      have E2 := Lib.hid e2
      clear e2
      go_wp2_with fail
      go_meet
      have e1 := E1.out
      have e2 := E2.out
      exact ⟨_,rfl,by simp [e1,e2],rfl⟩
    ·have t1 : (code == 7) = false := by simp [e1]
     have E1 := Lib.hid e1
     clear e1
     go_wp2_with fail
     go_meet
     have e1 := E1.out
     exact ⟨_,rfl,by simp [e1],rfl⟩
   case rest =>
    obtain ⟨d1,rfl,h1,rfl⟩ := hcut
    have H1 := Lib.hid h1
    clear h1
    cases d1 with
    |true =>
     have HC := Lib.hid (Sp.rrefused_1 c now code H0.out H1.out)
     go_wp2_with (refine wpList_load_mid rfl 35 _ rfl w.heap.size 0 rfl (k.cells c) _ hrg Try.underlying35 rfl (by kernel_rfl) ?_)
     refine (rfinish_any c k R ⟨3,0,0,c.tk.vs,[],0⟩ (.slice ba BL bc) (.slice none 0 0) now V1 B1.cr HBD.out.1 (FD.nil V1 R) (fun i hi => by have := hRl i hi; have := bR1.lt; omega) HW1.out HWL.out).mono ?_
     rintro e w1 ⟨⟨k1,o,r1,rfl,hC1,hps,hrs1⟩,hB4⟩
     obtain ⟨x1,hx1⟩ : ∃ x1 : Sp,(sp0 c now).endd ⟨3,0,0,c.tk.vs,[],0⟩ = x1 := ⟨_,rfl⟩
     rw [hx1] at hC1 hps hrs1 ⊢
     have HX := Lib.hid hx1
     have bRx := bR1.below hB4
     have hl1 := hB1.trans (hB4.mono hB1.size)
     have hth := bRx.there 0 26 (by simp)
     have hone := hC1.one
     clear hx1 hB4
     go_wp2_with (refine wpList_store_mid rfl 35 _ _ rfl (w.heap.size + 1) 0 (k1.cells x1.c).toArray rfl rfl hth (by kernel_rfl) hone ?_; simp only [Act.put]; generalize hW : World.setCells w1 (w.heap.size + 1) 0 _ = w2; have HW := Lib.hid hW; clear hW)
     obtain ⟨hF,bR4⟩ := fin26 hC1 hps hrs1 bRx rfl hm1 hRs hl1 (by omega)
     rw [show w1.setCells (w.heap.size + 1) 0 (k1.cells x1.c) = w2 from HW.out] at hF bR4
     have hl := run_loadVar_row (P := Try.prog) _ (w.heap.size + 1) 35 35 _ (0,0) _ bR4 Try.underlying35 rfl (by kernel_rfl)
     exact bodyPost_ret (v := .tuple #[.agg (k1.cells x1.c).toArray,o,r1]) (by rw [results_cell_tmp2 rfl]; simp [asAddr,hl]) rfl ⟨by rw [HC.out,show (sp0 c now).value = _ from HX.out]; exact ⟨k1,_,_,rfl,hF.1,hF.2.1,hF.2.2.1⟩,hF.2.2.2⟩
    |false =>
     go_upto_region 6 with fail
     go_cut [62] (fun v wx => ∃ d : Bool,v = .bool d ∧ d = (decide (c.ad.kd = 22) && !decide (c.tk.of = 0)) ∧ V1 = wx)
     case first =>
      by_cases e1 : c.ad.kd = 22
      ·have t1 : (c.ad.kd == 22) = true := by simp [e1]
       have E1 := Lib.hid e1
       clear e1
       by_cases e2 : c.tk.of = 0
       ·have t2 : (c.tk.of != 0) = false := by simp [e2]
        have E2 := Lib.hid e2
        clear e2
        go_wp2_with fail
        go_meet
        have e1 := E1.out
        have e2 := E2.out
        exact ⟨_,rfl,by simp [e1,e2],rfl⟩
       ·have t2 : (c.tk.of != 0) = true := by simp [e2]
        have E2 := Lib.hid e2
        clear e2
        go_wp2_with fail
        go_meet
        have e1 := E1.out
        have e2 := E2.out
        exact ⟨_,rfl,by simp [e1,e2],rfl⟩
      ·have t1 : (c.ad.kd == 22) = false := by simp [e1]
       have E1 := Lib.hid e1
       clear e1
       go_wp2_with fail
       go_meet
       have e1 := E1.out
       exact ⟨_,rfl,by simp [e1],rfl⟩
     case rest =>
      obtain ⟨d2,rfl,h2,rfl⟩ := hcut
      have H2 := Lib.hid h2
      clear h2
      cases d2 with
      |true =>
       have HC := Lib.hid (Sp.rrefused_2 c now code H0.out H1.out H2.out)
       go_wp2_with (refine wpList_load_mid rfl 35 _ rfl w.heap.size 0 rfl (k.cells c) _ hrg Try.underlying35 rfl (by kernel_rfl) ?_)
       refine (rcancel_any c k R code now V1 B1.cr (fun i hi => by have := hRl i hi; have := bR1.lt; omega)).mono ?_
       rintro e w1 ⟨⟨k1,o,r1,rfl,hC1,hps,hrs1⟩,hB4⟩
       obtain ⟨x1,hx1⟩ : ∃ x1 : Sp,(sp0 c now).cancel code = x1 := ⟨_,rfl⟩
       rw [hx1] at hC1 hps hrs1 ⊢
       have HX := Lib.hid hx1
       have bRx := bR1.below hB4
       have hl1 := hB1.trans (hB4.mono hB1.size)
       have hth := bRx.there 0 26 (by simp)
       have hone := hC1.one
       clear hx1 hB4
       go_wp2_with (refine wpList_store_mid rfl 35 _ _ rfl (w.heap.size + 1) 0 (k1.cells x1.c).toArray rfl rfl hth (by kernel_rfl) hone ?_; simp only [Act.put]; generalize hW : World.setCells w1 (w.heap.size + 1) 0 _ = w2; have HW := Lib.hid hW; clear hW)
       obtain ⟨hF,bR4⟩ := fin26 hC1 hps hrs1 bRx rfl hm1 hRs hl1 (by omega)
       rw [show w1.setCells (w.heap.size + 1) 0 (k1.cells x1.c) = w2 from HW.out] at hF bR4
       have hl := run_loadVar_row (P := Try.prog) _ (w.heap.size + 1) 35 35 _ (0,0) _ bR4 Try.underlying35 rfl (by kernel_rfl)
       exact bodyPost_ret (v := .tuple #[.agg (k1.cells x1.c).toArray,o,r1]) (by rw [results_cell_tmp2 rfl]; simp [asAddr,hl]) rfl ⟨by rw [HC.out,HX.out]; exact ⟨k1,_,_,rfl,hF.1,hF.2.1,hF.2.2.1⟩,hF.2.2.2⟩
      |false =>
       go_upto_region 8 with fail
       go_cut [79] (fun v wx => ∃ d : Bool,v = .bool d ∧ d = (decide (c.ad.kd = 24) && (c.tk.bad && !decide (code = 18))) ∧ V1 = wx)
       case first =>
        by_cases e1 : c.ad.kd = 24
        ·have t1 : (c.ad.kd == 24) = true := by simp [e1]
         have E1 := Lib.hid e1
         clear e1
         rcases Bool.eq_false_or_eq_true c.tk.bad with hb | hb
         ·rw [hb] at q7
          by_cases e2 : code = 18
          ·have t2 : (code != 18) = false := by simp [e2]
           have E2 := Lib.hid e2
           clear e2
           go_wp2_with fail
           go_meet
           have e1 := E1.out
           have e2 := E2.out
           exact ⟨_,rfl,by simp [hb,e1,e2],rfl⟩
          ·have t2 : (code != 18) = true := by simp [e2]
           have E2 := Lib.hid e2
           clear e2
           go_wp2_with fail
           go_meet
           have e1 := E1.out
           have e2 := E2.out
           exact ⟨_,rfl,by simp [hb,e1,e2],rfl⟩
         ·rw [hb] at q7
          go_wp2_with fail
          go_meet
          exact ⟨_,rfl,by simp [hb],rfl⟩
        ·have t1 : (c.ad.kd == 24) = false := by simp [e1]
         have E1 := Lib.hid e1
         clear e1
         go_wp2_with fail
         go_meet
         have e1 := E1.out
         exact ⟨_,rfl,by simp [e1],rfl⟩
       case rest =>
        obtain ⟨d3,rfl,h3,rfl⟩ := hcut
        have H3 := Lib.hid h3
        clear h3
        cases d3 with
        |true =>
         have HC := Lib.hid (Sp.rrefused_3 c now code H0.out H1.out H2.out H3.out)
         go_wp2_with (refine wpList_load_mid rfl 35 _ rfl w.heap.size 0 rfl (k.cells c) _ hrg Try.underlying35 rfl (by kernel_rfl) ?_)
         refine (rend_any c k R [] (.slice none 0 0) now V1 B1.cr (rsr_nil V1 R) (fun i hi => by have := hRl i hi; have := bR1.lt; omega) HW1.out HWL.out).mono ?_
         rintro e w1 ⟨⟨k1,o,r1,rfl,hC1,hps,hrs1⟩,hB4⟩
         obtain ⟨x1,hx1⟩ : ∃ x1 : Sp,(⟨c,now,[],[]⟩ : Sp).close = x1 := ⟨_,rfl⟩
         rw [hx1] at hC1 hps hrs1 ⊢
         have HX := Lib.hid hx1
         have bRx := bR1.below hB4
         have hl1 := hB1.trans (hB4.mono hB1.size)
         have hth := bRx.there 0 26 (by simp)
         have hone := hC1.one
         clear hx1 hB4
         go_wp2_with (refine wpList_store_mid rfl 35 _ _ rfl (w.heap.size + 1) 0 (k1.cells x1.c).toArray rfl rfl hth (by kernel_rfl) hone ?_; simp only [Act.put]; generalize hW : World.setCells w1 (w.heap.size + 1) 0 _ = w2; have HW := Lib.hid hW; clear hW)
         obtain ⟨hF,bR4⟩ := fin26 hC1 hps hrs1 bRx rfl hm1 hRs hl1 (by omega)
         rw [show w1.setCells (w.heap.size + 1) 0 (k1.cells x1.c) = w2 from HW.out] at hF bR4
         have hl := run_loadVar_row (P := Try.prog) _ (w.heap.size + 1) 35 35 _ (0,0) _ bR4 Try.underlying35 rfl (by kernel_rfl)
         exact bodyPost_ret (v := .tuple #[.agg (k1.cells x1.c).toArray,o,r1]) (by rw [results_cell_tmp2 rfl]; simp [asAddr,hl]) rfl ⟨by rw [HC.out,show (sp0 c now).close = _ from HX.out]; exact ⟨k1,_,_,rfl,hF.1,hF.2.1,hF.2.2.1⟩,hF.2.2.2⟩
        |false =>
         have HC := Lib.hid (Sp.rrefused_4 c now code H0.out H1.out H2.out H3.out)
         go_wp2_with (refine wpList_load_mid rfl 35 _ rfl w.heap.size 0 rfl (k.cells c) _ hrg Try.underlying35 rfl (by kernel_rfl) ?_)
         refine (rfail_any c k R code now V1 B1.cr (fun i hi => by have := hRl i hi; have := bR1.lt; omega) HW1.out HWL.out).mono ?_
         rintro e w1 ⟨⟨k1,o,r1,rfl,hC1,hps,hrs1⟩,hB4⟩
         obtain ⟨x1,hx1⟩ : ∃ x1 : Sp,(sp0 c now).fail code = x1 := ⟨_,rfl⟩
         rw [hx1] at hC1 hps hrs1 ⊢
         have HX := Lib.hid hx1
         have bRx := bR1.below hB4
         have hl1 := hB1.trans (hB4.mono hB1.size)
         have hth := bRx.there 0 26 (by simp)
         have hone := hC1.one
         clear hx1 hB4
         go_wp2_with (refine wpList_store_mid rfl 35 _ _ rfl (w.heap.size + 1) 0 (k1.cells x1.c).toArray rfl rfl hth (by kernel_rfl) hone ?_; simp only [Act.put]; generalize hW : World.setCells w1 (w.heap.size + 1) 0 _ = w2; have HW := Lib.hid hW; clear hW)
         obtain ⟨hF,bR4⟩ := fin26 hC1 hps hrs1 bRx rfl hm1 hRs hl1 (by omega)
         rw [show w1.setCells (w.heap.size + 1) 0 (k1.cells x1.c) = w2 from HW.out] at hF bR4
         have hl := run_loadVar_row (P := Try.prog) _ (w.heap.size + 1) 35 35 _ (0,0) _ bR4 Try.underlying35 rfl (by kernel_rfl)
         exact bodyPost_ret (v := .tuple #[.agg (k1.cells x1.c).toArray,o,r1]) (by rw [results_cell_tmp2 rfl]; simp [asAddr,hl]) rfl ⟨by rw [HC.out,HX.out]; exact ⟨k1,_,_,rfl,hF.1,hF.2.1,hF.2.2.1⟩,hF.2.2.2⟩
/-- the parts of a characteristic's declaration: properties, handle, type, whether they are right -/
def chP (bs : List Nat) : Int × Int × Int × Int × Bool :=
 if bs.length < 3 then (0,0,0,0,false) else ((bs.getD 0 0 : Nat),(vnum ((bs.drop 1).take 2) : Nat),((decR (bs.drop 3)).1 : Nat),((decR (bs.drop 3)).2.1 : Nat),(decR (bs.drop 3)).2.2 == 0)
theorem set2 {W X : World} {i : Nat} {t : TypeId} {x0 x1 y0 y1 : Value} (h : Blk W i t [x0,x1]) (hX : (W.setCell ⟨i,0,none⟩ y0).setCell ⟨i,1,none⟩ y1 = X) : Blk X i t [y0,y1] := by
 subst hX
 exact (h.setAt (j := 0) y0).setAt (j := 1) y1
theorem charParts_any (a : Option Addr) (n c : Nat) (bs : List Nat) (w : World) (h : BytesAt w (.slice a n c) bs) (hn : bs.length = n) (hc : n ≤ c) (hm : n ≤ 1099511627776) :
 Calls Try.prog 100 #[.slice a n c] w fun e w' => e = .returned (.tuple #[.int .i64 (chP bs).1,.int .u16 (chP bs).2.1,.agg #[.int .u64 (chP bs).2.2.1,.int .u64 (chP bs).2.2.2.1],.bool (chP bs).2.2.2.2]) ∧ Below w.heap.size w w' := by
 have hz := fun W => run_build0 W
 have hB0 := (Below.refl w.heap.size w).alloc (Nat.le_refl _) (.cells #[.int .u64 0,.int .u64 0] 29)
 have HN := Lib.hid hn
 unfold chP
 rw [hn]
 by_cases h3 : n < 3
 ·rw [if_pos h3]
  have g3 : decide (n < 3) = true := by simpa using h3
  have g3' : decide ((n : Int) < 3) = true := by simp; omega
  clear h hn
  go_enter Try.func100,Try.ntmps100
  go_wp2
  have b3 := ((Blk.new w 29 [.int .u64 0,.int .u64 0]).setAt (j := 0) (.int .u64 0)).setAt (j := 1) (.int .u64 0)
  obtain ⟨x0,x1,_⟩ := b3.cells
  simp only [Nat.zero_add,Nat.add_zero,List.set_cons_zero,List.set_cons_succ] at x0 x1
  refine bodyPost_ret (v := .tuple #[.int .i64 0,.int .u16 0,.agg #[.int .u64 0,.int .u64 0],.bool false]) (by simp [results,Try.results100,go_sem] <;> rfl) rfl ?_
  exact ⟨rfl,hB0⟩
 rw [if_neg h3]
 have g3 : decide (n < 3) = false := by simpa using h3
 have g3' : decide ((n : Int) < 3) = false := by simp; omega
 obtain ⟨a6,c6,hby6,hc6,hrun6⟩ := bytes_from w a n c 3 bs h hn hc (by omega)
 simp only [show ((3 : Nat) : Int) = 3 by rfl] at hrun6
 have hln : (bs.drop 3).length = n - 3 := by rw [List.length_drop,hn]
 obtain ⟨m,hmn⟩ : ∃ m,n - 3 = m := ⟨_,rfl⟩
 rw [hmn] at hby6 hc6 hrun6 hln
 have hde := rdecode_any (.slice a6 m c6) (bs.drop 3) _ (hby6.below hB0) (by rw [hln]; omega)
 obtain ⟨d1,hd1⟩ : ∃ x,(decR (bs.drop 3)).1 = x := ⟨_,rfl⟩
 obtain ⟨d2,hd2⟩ : ∃ x,(decR (bs.drop 3)).2.1 = x := ⟨_,rfl⟩
 obtain ⟨d3,hd3⟩ : ∃ x,(decR (bs.drop 3)).2.2 = x := ⟨_,rfl⟩
 obtain ⟨q,hq⟩ : ∃ q,(d3 == 0) = q := ⟨_,rfl⟩
 rw [hd1,hd2,hd3] at hde ⊢
 rw [hq]
 obtain ⟨x0,hx0⟩ : ∃ x,bs.getD 0 0 = x := ⟨_,rfl⟩
 have hx0' : bs[0]'(by omega) = x0 := by rw [← hx0,List.getD_eq_getElem?_getD,List.getElem?_eq_getElem (by omega)]; rfl
 have hx1 : x0 < 256 := by rw [← hx0']; exact h.2.2 _ (List.getElem_mem _)
 have hnm := fun W (hW : Below w.heap.size w W) => num_any (.slice a n c) bs 1 2 W (h.below hW) (by omega) (by omega) (by omega)
 obtain ⟨V,hV⟩ : ∃ V,vnum ((bs.drop 1).take 2) = V := ⟨_,rfl⟩
 have hVb : V < 65536 := by
  have := vnum_lt ((bs.drop 1).take 2) (fun x hx => h.2.2 x (List.mem_of_mem_drop (List.mem_of_mem_take hx)))
  rw [hV,List.length_take,List.length_drop] at this
  rw [show min 2 (bs.length - 1) = 2 by omega] at this
  simpa using this
 rw [hV] at hnm ⊢
 rw [hx0]
 simp only [show ((1 : Nat) : Int) = 1 by rfl,show ((2 : Nat) : Int) = 2 by rfl] at hnm
 have w1 : IntKind.u16.wrap (V : Int) = (V : Int) := IntWalk.u16_in _ (by omega)
 have w2 : IntKind.i64.wrap (x0 : Int) = (x0 : Int) := IntWalk.i64_in _ (by omega)
 have hcell : ∃ b off,a = some ⟨b,off,none⟩ ∧ w.cell? ⟨b,off,none⟩ = some (.int .u8 (x0 : Nat)) := by
  obtain ⟨⟨_,_,_,ao,cap,e,_,hcl⟩,_,_⟩ := h
  cases e
  obtain ⟨b,off,rfl,hb,hcs⟩ := hcl (by omega)
  exact ⟨b,off,rfl,by have := hcs 0 (.int .u8 (x0 : Nat)) (by simp [bcells,List.getElem?_eq_getElem (show 0 < bs.length by omega),hx0']); simpa using this⟩
 obtain ⟨b,off,rfl,hcl⟩ := hcell
 have HDE := Lib.hid hde
 have HNM := Lib.hid hnm
 have HCL := Lib.hid hcl
 have hi0 : (0 : Int) < (n : Int) := by omega
 have hn0 : 0 < n := by omega
 have hc3 : (3 : Int) ≤ (n : Int) := by omega
 have hmb : m ≤ 1099511627776 := by omega
 clear hde hnm hd1 hd2 hd3 hx0 hx0' hV h hn hby6 hln hmn hcl hc6
 go_enter Try.func100,Try.ntmps100
 go_wp2_with fail
 refine HDE.out.mono ?_
 rintro e w4 ⟨rfl,hB4⟩
 have hB4' := hB0.trans (hB4.mono hB0.size)
 have b4 := (Blk.new w 29 [.int .u64 0,.int .u64 0]).below hB4
 have HB4 := Lib.hid hB4'
 have HK4 := Lib.hid b4
 have hlt4 : w.heap.size < w4.heap.size := b4.lt
 clear hB4 hB4' b4 HDE
 go_upto_region 4 with fail
 generalize hX : World.alloc w4 _ = X
 obtain ⟨h6,hB6,h6z⟩ := alloc_named hX
 have b6 : Blk X w4.heap.size 29 [.int .u64 d1,.int .u64 d2] := h6
 have b4 := HK4.out.below hB6
 have hBX := HB4.out.trans (hB6.mono HB4.out.size)
 have c0 := kc HCL.out hBX
 have T : Cells X ([(b,off,.int .u8 (x0 : Nat))] ++ blk w4.heap.size 0 0 [.int .u64 d1,.int .u64 d2]) := ⟨c0,b6.cells⟩
 have hbw : b < w.heap.size := World.block_lt_of_cell? w _ HCL.out
 have HT := Lib.hid T
 have HK := Lib.hid b4
 obtain ⟨m0,m1,_⟩ := b4.cells
 simp only [Nat.zero_add,Nat.add_zero] at m0 m1
 have z0 := b4.frozen 0
 have z1 := b4.frozen 1
 have HBX := Lib.hid hBX
 clear hX h6 hB6 h6z b6 b4 hBX c0 HK4 HB4 HCL
 refine wp_region_held_drew (S := (fun W' : World => Cells W' ([(b,off,.int .u8 (x0 : Nat))] ++ blk w4.heap.size 0 0 [.int .u64 d1,.int .u64 d2]))) (by kernel_rfl) (T.drew) (fun hHeld => ?_)
 refine tkU 0 ?_
 refine tkU 1 ?_
 refine tkU 2 ?_
 refine tkU 3 ?_
 refine tkU 4 ?_
 refine tkU 7 ?_
 refine tkU 8 ?_
 refine tkU 9 ?_
 refine rd1 5 fun K hK => ?_
 go_simp
 go_at_call 102
 refine (HNM.out _ HBX.out.drew).mono ?_
 rintro e w5 ⟨rfl,rfl⟩
 clear hHeld
 refine hK.out _ _ (T.drew) (fun hHeld => ?_)
 clear hK K
 try simp only [Act.put,List.setIfInBounds_toArray,List.set_cons_zero,List.set_cons_succ]
 refine tkU 6 ?_
 refine tkU 10 ?_
 refine tkU 11 ?_
 refine rd1 12 fun K hK => ?_
 go_simp
 generalize hY : World.setCell _ _ _ = Y
 have bY := set2 HK.out hY
 have hBY : Below w.heap.size w Y := by
  rw [← hY]
  exact (HBX.out.setCell (p := ⟨w.heap.size,0,none⟩) (by simp) _).setCell (p := ⟨w.heap.size,1,none⟩) (by simp) _
 have TY : Cells Y ([(b,off,.int .u8 (x0 : Nat))] ++ blk w4.heap.size 0 0 [.int .u64 d1,.int .u64 d2]) := by
  rw [← hY]
  exact (T.setCell _ (fun x hx => by simp [blk] at hx; rcases hx with rfl | rfl | rfl <;> (simp; omega))).setCell _ (fun x hx => by simp [blk] at hx; rcases hx with rfl | rfl | rfl <;> (simp; omega))
 clear hHeld
 refine hK.out _ _ (TY.drew) (fun hHeld => ?_)
 clear hK K
 try simp only [Act.put,List.setIfInBounds_toArray,List.set_cons_zero,List.set_cons_succ]
 refine tkU 13 ?_
 refine wpAnyH_done (by kernel_rfl) ?_ _
 have HBY := Lib.hid hBY.drew
 obtain ⟨x0',x1',_⟩ := bY.cells
 simp only [Nat.zero_add,Nat.add_zero] at x0' x1'
 clear T hY TY bY hBY HT HNM hHeld m0 m1 z0 z1
 go_wp2
 refine bodyPost_ret (v := .tuple #[.int .i64 x0,.int .u16 V,.agg #[.int .u64 d1,.int .u64 d2],.bool q]) (by simp [results,Try.results100,go_sem,x0',x1']) rfl ?_
 exact ⟨rfl,HBY.out⟩
end Go.Proofs.Ytldcihjddebciaa
